/- A part of the proof of FnExactCrossTables: an interpreter of the model over plain data, its soundness, and what it makes of the functions that the statement reaches. Conditions: none beyond what the given statement itself says. -/
import Derived.Test.YtgblilbjpjidfaaTI
set_option linter.unusedVariables false
set_option linter.unusedSimpArgs false
set_option linter.unnecessarySimpa false
set_option linter.unusedSectionVars false
/- Equations of the program's functions (printed by wip/tools/emit.py). -/
namespace GoV
open Go Go.Proofs
set_option maxRecDepth 100000

noncomputable def impl_Row_own.t {γ : Type} (ret : ((List Int)) → Option γ) (v0 : List Int) : Option γ :=
  (slices_Clone_int_int (v0)).bind fun (r0 : (List Int)) =>
  ret (r0)
theorem impl_Row_own.k (v0 : List Int) : topL E (callT E tab) 109 Try.f109 (impl_Row_own.c v0) = impl_Row_own.t (fun b => some (impl_Row_own.mk b)) v0 := by kernel_rfl
theorem impl_Row_own.s (v0 : List Int) : Sub impl_Row_own.mk (impl_Row_own.t some v0) (impl_Row_own.t (fun b => some (impl_Row_own.mk b)) v0) := by
  unfold impl_Row_own.t
  repeat' first | exact Sub.ret | exact Sub.none | exact Sub.loop | apply Sub.cond | (apply Sub.bind; intro _)
theorem impl_Row_own.eq (v0 : List Int) {b : (List Int)} (h : impl_Row_own.t some v0 = some b) : impl_Row_own v0 = some b := tOf_intro impl_Row_own.un (fun _ => by kernel_rfl) (vlim_fn (callT_le E tab) rfl rfl rfl ((impl_Row_own.k v0).trans (impl_Row_own.s v0 b h)))
noncomputable def slices_Clone_int_int.t {γ : Type} (ret : ((List Int)) → Option γ) (v0 : List Int) : Option γ :=
  bif Decidable.decide (v0.length ≤ (4294967296 : Nat)) then
    ret (v0)
  else
    none
theorem slices_Clone_int_int.k (v0 : List Int) : extOf 142 (slices_Clone_int_int.c v0) = slices_Clone_int_int.t (fun b => some (slices_Clone_int_int.mk b)) v0 := by kernel_rfl
theorem slices_Clone_int_int.s (v0 : List Int) : Sub slices_Clone_int_int.mk (slices_Clone_int_int.t some v0) (slices_Clone_int_int.t (fun b => some (slices_Clone_int_int.mk b)) v0) := by
  unfold slices_Clone_int_int.t
  repeat' first | exact Sub.ret | exact Sub.none | exact Sub.loop | apply Sub.cond | (apply Sub.bind; intro _)
theorem slices_Clone_int_int.eq (v0 : List Int) {b : (List Int)} (h : slices_Clone_int_int.t some v0 = some b) : slices_Clone_int_int v0 = some b := tOf_intro slices_Clone_int_int.un (fun _ => by kernel_rfl) (vlim_ext (g := extOf 142) rfl ((slices_Clone_int_int.k v0).trans (slices_Clone_int_int.s v0 b h)))
noncomputable def impl_goodOrNone_467.t {γ : Type} (ret : (Int × (List (List Int × Int)) × Bool) → Option γ) (v0 : Int) (v1 : List (List Int × Int)) : Option γ :=
  (impl_GoodTable (v0) (v1)).bind fun (r0 : Bool) =>
  bif !r0 then
    ret ((0 : Int), [], Bool.false)
  else
    ret (v0, v1, Bool.true)
theorem impl_goodOrNone_467.k (v0 : Int) (v1 : List (List Int × Int)) : topL E (callT E tab) 67 Try.f67 (impl_goodOrNone_467.c v0 v1) = impl_goodOrNone_467.t (fun b => some (impl_goodOrNone_467.mk b)) v0 v1 := by kernel_rfl
theorem impl_goodOrNone_467.s (v0 : Int) (v1 : List (List Int × Int)) : Sub impl_goodOrNone_467.mk (impl_goodOrNone_467.t some v0 v1) (impl_goodOrNone_467.t (fun b => some (impl_goodOrNone_467.mk b)) v0 v1) := by
  unfold impl_goodOrNone_467.t
  repeat' first | exact Sub.ret | exact Sub.none | exact Sub.loop | apply Sub.cond | (apply Sub.bind; intro _)
theorem impl_goodOrNone_467.eq (v0 : Int) (v1 : List (List Int × Int)) {b : Int × (List (List Int × Int)) × Bool} (h : impl_goodOrNone_467.t some v0 v1 = some b) : impl_goodOrNone_467 v0 v1 = some b := tOf_intro impl_goodOrNone_467.un (fun _ => by kernel_rfl) (vlim_fn (callT_le E tab) rfl rfl rfl ((impl_goodOrNone_467.k v0 v1).trans (impl_goodOrNone_467.s v0 v1 b h)))
noncomputable def impl_GoodTable.q4 (v0 : Int) (v1 : List (List Int × Int)) (v2 : List (List Int × Int)) (v3 : Int) (v4 : Int) : Option R := loopAtL E (callT E tab) 62 Try.f62 1 [.r, .r, .l, .r, .b] (nn 1 (⟨(.box false), [iL v0, .d .fro (.sl (.pair (.sl (.int .i64)) (.int .i64))) v1], false, false, false, 0, 0⟩ :: nn 14 (vc (.d .fro (.sl (.pair (.sl (.int .i64)) (.int .i64))) v2) :: vc (iL v3) :: vc (iL v4) :: nn 39 ([]))))
noncomputable def impl_GoodTable.l4 (v0 : Int) (v1 : List (List Int × Int)) (v2 : List (List Int × Int)) (v3 : Int) (v4 : Int) : Option (Bool) := tOf impl_GoodTable.mk (impl_GoodTable.q4 v0 v1 v2 v3 v4)
noncomputable def impl_GoodTable.t {γ : Type} (ret : (Bool) → Option γ) (lp4 : Int → (List (List Int × Int)) → (List (List Int × Int)) → Int → Int → Option γ) (v0 : Int) (v1 : List (List Int × Int)) : Option γ :=
  (impl_isColumns (v0)).bind fun (r0 : Bool) =>
  bif !r0 then
    ret (Bool.false)
  else
    bif Decidable.decide ((↑v1.length : Int) > (60 : Int)) then
      ret (Bool.false)
    else
      lp4 (v0) (v1) (v1) ((↑v1.length : Int)) ((0 : Int))
noncomputable def impl_GoodTable.t4 {γ : Type} (ret : (Bool) → Option γ) (lp4 : Int → (List (List Int × Int)) → (List (List Int × Int)) → Int → Int → Option γ) (v0 : Int) (v1 : List (List Int × Int)) (v2 : List (List Int × Int)) (v3 : Int) (v4 : Int) : Option γ :=
  bif Decidable.decide (v4 < v3) then
    bif Decidable.decide ((0 : Int) ≤ v4) then
      bif Decidable.decide (v4.toNat < v2.length) then
        (impl_isRowOf ((v2.getD v4.toNat ([], (0 : Int))).fst) (v0)).bind fun (r1 : Bool) =>
        bif !r1 then
          ret (Bool.false)
        else
          (impl_isWeight ((v2.getD v4.toNat ([], (0 : Int))).snd)).bind fun (r2 : Bool) =>
          bif !r2 then
            ret (Bool.false)
          else
            bif (v2.getD v4.toNat ([], (0 : Int))).snd == (0 : Int) then
              ret (Bool.false)
            else
              bif Decidable.decide (v4 > (0 : Int)) then
                bif Decidable.decide ((0 : Int) ≤ Go.IntKind.i64.wrap (v4 - (1 : Int))) then
                  bif Decidable.decide ((Go.IntKind.i64.wrap (v4 - (1 : Int))).toNat < v1.length) then
                    (impl_compareRows ((v1.getD (Go.IntKind.i64.wrap (v4 - (1 : Int))).toNat ([], (0 : Int))).fst) ((v2.getD v4.toNat ([], (0 : Int))).fst)).bind fun (r3 : Int) =>
                    bif Decidable.decide (r3 ≥ (0 : Int)) then
                      ret (Bool.false)
                    else
                      lp4 (v0) (v1) (v2) (v3) (Go.IntKind.i64.wrap (v4 + (1 : Int)))
                  else
                    none
                else
                  none
              else
                lp4 (v0) (v1) (v2) (v3) (Go.IntKind.i64.wrap (v4 + (1 : Int)))
      else
        none
    else
      none
  else
    ret (Bool.true)
theorem impl_GoodTable.k (v0 : Int) (v1 : List (List Int × Int)) : topL E (callT E tab) 62 Try.f62 (impl_GoodTable.c v0 v1) = impl_GoodTable.t (fun b => some (impl_GoodTable.mk b)) impl_GoodTable.q4 v0 v1 := by kernel_rfl
theorem impl_GoodTable.k4 (v0 : Int) (v1 : List (List Int × Int)) (v2 : List (List Int × Int)) (v3 : Int) (v4 : Int) : roundL E (callT E tab) 62 Try.f62 1 [.r, .r, .l, .r, .b] (nn 1 (⟨(.box false), [iL v0, .d .fro (.sl (.pair (.sl (.int .i64)) (.int .i64))) v1], false, false, false, 0, 0⟩ :: nn 14 (vc (.d .fro (.sl (.pair (.sl (.int .i64)) (.int .i64))) v2) :: vc (iL v3) :: vc (iL v4) :: nn 39 ([])))) = impl_GoodTable.t4 (fun b => some (impl_GoodTable.mk b)) impl_GoodTable.q4 v0 v1 v2 v3 v4 := by kernel_rfl
theorem impl_GoodTable.s (v0 : Int) (v1 : List (List Int × Int)) : Sub impl_GoodTable.mk (impl_GoodTable.t some impl_GoodTable.l4 v0 v1) (impl_GoodTable.t (fun b => some (impl_GoodTable.mk b)) impl_GoodTable.q4 v0 v1) := by
  unfold impl_GoodTable.t
  repeat' first | exact Sub.ret | exact Sub.none | exact Sub.loop | apply Sub.cond | (apply Sub.bind; intro _)
theorem impl_GoodTable.eq (v0 : Int) (v1 : List (List Int × Int)) {b : Bool} (h : impl_GoodTable.t some impl_GoodTable.l4 v0 v1 = some b) : impl_GoodTable v0 v1 = some b := tOf_intro impl_GoodTable.un (fun _ => by kernel_rfl) (vlim_fn (callT_le E tab) rfl rfl rfl ((impl_GoodTable.k v0 v1).trans (impl_GoodTable.s v0 v1 b h)))
theorem impl_GoodTable.s4 (v0 : Int) (v1 : List (List Int × Int)) (v2 : List (List Int × Int)) (v3 : Int) (v4 : Int) : Sub impl_GoodTable.mk (impl_GoodTable.t4 some impl_GoodTable.l4 v0 v1 v2 v3 v4) (impl_GoodTable.t4 (fun b => some (impl_GoodTable.mk b)) impl_GoodTable.q4 v0 v1 v2 v3 v4) := by
  unfold impl_GoodTable.t4
  repeat' first | exact Sub.ret | exact Sub.none | exact Sub.loop | apply Sub.cond | (apply Sub.bind; intro _)
theorem impl_GoodTable.eq4 (v0 : Int) (v1 : List (List Int × Int)) (v2 : List (List Int × Int)) (v3 : Int) (v4 : Int) {b : Bool} (h : impl_GoodTable.t4 some impl_GoodTable.l4 v0 v1 v2 v3 v4 = some b) : impl_GoodTable.l4 v0 v1 v2 v3 v4 = some b := tOf_intro impl_GoodTable.un (fun _ => by kernel_rfl) (loopAtL_step ((impl_GoodTable.k4 v0 v1 v2 v3 v4).trans (impl_GoodTable.s4 v0 v1 v2 v3 v4 b h)))
noncomputable def laws_eqTable.t {γ : Type} (ret : (Bool) → Option γ) (v0 : Int) (v1 : List (List Int × Int)) (v2 : Int) (v3 : List (List Int × Int)) : Option γ :=
  bif v0 != v2 then
    ret (Bool.false)
  else
    (laws_eqWeightedS (v1) (v3)).bind fun (r0 : Bool) =>
    bif !r0 then
      ret (Bool.false)
    else
      ret (Bool.true)
theorem laws_eqTable.k (v0 : Int) (v1 : List (List Int × Int)) (v2 : Int) (v3 : List (List Int × Int)) : topL E (callT E tab) 19 Try.f19 (laws_eqTable.c v0 v1 v2 v3) = laws_eqTable.t (fun b => some (laws_eqTable.mk b)) v0 v1 v2 v3 := by kernel_rfl
theorem laws_eqTable.s (v0 : Int) (v1 : List (List Int × Int)) (v2 : Int) (v3 : List (List Int × Int)) : Sub laws_eqTable.mk (laws_eqTable.t some v0 v1 v2 v3) (laws_eqTable.t (fun b => some (laws_eqTable.mk b)) v0 v1 v2 v3) := by
  unfold laws_eqTable.t
  repeat' first | exact Sub.ret | exact Sub.none | exact Sub.loop | apply Sub.cond | (apply Sub.bind; intro _)
theorem laws_eqTable.eq (v0 : Int) (v1 : List (List Int × Int)) (v2 : Int) (v3 : List (List Int × Int)) {b : Bool} (h : laws_eqTable.t some v0 v1 v2 v3 = some b) : laws_eqTable v0 v1 v2 v3 = some b := tOf_intro laws_eqTable.un (fun _ => by kernel_rfl) (vlim_fn (callT_le E tab) rfl rfl rfl ((laws_eqTable.k v0 v1 v2 v3).trans (laws_eqTable.s v0 v1 v2 v3 b h)))
noncomputable def laws_eqWeightedS.q4 (v0 : List (List Int × Int)) (v1 : List (List Int × Int)) (v2 : Int) : Option R := loopAtL E (callT E tab) 40 Try.f40 2 [.r, .r, .l, .r, .b] (vc (.d .fro (.sl (.pair (.sl (.int .i64)) (.int .i64))) v0) :: vc (.d .fro (.sl (.pair (.sl (.int .i64)) (.int .i64))) v1) :: nn 3 (vc (iL v2) :: nn 21 ([])))
noncomputable def laws_eqWeightedS.l4 (v0 : List (List Int × Int)) (v1 : List (List Int × Int)) (v2 : Int) : Option (Bool) := tOf laws_eqWeightedS.mk (laws_eqWeightedS.q4 v0 v1 v2)
noncomputable def laws_eqWeightedS.t {γ : Type} (ret : (Bool) → Option γ) (lp4 : (List (List Int × Int)) → (List (List Int × Int)) → Int → Option γ) (v0 : List (List Int × Int)) (v1 : List (List Int × Int)) : Option γ :=
  bif (↑v0.length : Int) != (↑v1.length : Int) then
    ret (Bool.false)
  else
    lp4 (v0) (v1) ((0 : Int))
noncomputable def laws_eqWeightedS.t4 {γ : Type} (ret : (Bool) → Option γ) (lp4 : (List (List Int × Int)) → (List (List Int × Int)) → Int → Option γ) (v0 : List (List Int × Int)) (v1 : List (List Int × Int)) (v2 : Int) : Option γ :=
  bif Decidable.decide (v2 < (↑v0.length : Int)) then
    bif Decidable.decide ((0 : Int) ≤ v2) then
      bif Decidable.decide (v2.toNat < v0.length) then
        bif Decidable.decide ((0 : Int) ≤ v2) then
          bif Decidable.decide (v2.toNat < v1.length) then
            (laws_eqWeighted ((v0.getD v2.toNat ([], (0 : Int))).fst) ((v0.getD v2.toNat ([], (0 : Int))).snd) ((v1.getD v2.toNat ([], (0 : Int))).fst) ((v1.getD v2.toNat ([], (0 : Int))).snd)).bind fun (r0 : Bool) =>
            bif !r0 then
              ret (Bool.false)
            else
              lp4 (v0) (v1) (Go.IntKind.i64.wrap (v2 + (1 : Int)))
          else
            none
        else
          none
      else
        none
    else
      none
  else
    ret (Bool.true)
theorem laws_eqWeightedS.k (v0 : List (List Int × Int)) (v1 : List (List Int × Int)) : topL E (callT E tab) 40 Try.f40 (laws_eqWeightedS.c v0 v1) = laws_eqWeightedS.t (fun b => some (laws_eqWeightedS.mk b)) laws_eqWeightedS.q4 v0 v1 := by kernel_rfl
theorem laws_eqWeightedS.k4 (v0 : List (List Int × Int)) (v1 : List (List Int × Int)) (v2 : Int) : roundL E (callT E tab) 40 Try.f40 2 [.r, .r, .l, .r, .b] (vc (.d .fro (.sl (.pair (.sl (.int .i64)) (.int .i64))) v0) :: vc (.d .fro (.sl (.pair (.sl (.int .i64)) (.int .i64))) v1) :: nn 3 (vc (iL v2) :: nn 21 ([]))) = laws_eqWeightedS.t4 (fun b => some (laws_eqWeightedS.mk b)) laws_eqWeightedS.q4 v0 v1 v2 := by kernel_rfl
theorem laws_eqWeightedS.s (v0 : List (List Int × Int)) (v1 : List (List Int × Int)) : Sub laws_eqWeightedS.mk (laws_eqWeightedS.t some laws_eqWeightedS.l4 v0 v1) (laws_eqWeightedS.t (fun b => some (laws_eqWeightedS.mk b)) laws_eqWeightedS.q4 v0 v1) := by
  unfold laws_eqWeightedS.t
  repeat' first | exact Sub.ret | exact Sub.none | exact Sub.loop | apply Sub.cond | (apply Sub.bind; intro _)
theorem laws_eqWeightedS.eq (v0 : List (List Int × Int)) (v1 : List (List Int × Int)) {b : Bool} (h : laws_eqWeightedS.t some laws_eqWeightedS.l4 v0 v1 = some b) : laws_eqWeightedS v0 v1 = some b := tOf_intro laws_eqWeightedS.un (fun _ => by kernel_rfl) (vlim_fn (callT_le E tab) rfl rfl rfl ((laws_eqWeightedS.k v0 v1).trans (laws_eqWeightedS.s v0 v1 b h)))
theorem laws_eqWeightedS.s4 (v0 : List (List Int × Int)) (v1 : List (List Int × Int)) (v2 : Int) : Sub laws_eqWeightedS.mk (laws_eqWeightedS.t4 some laws_eqWeightedS.l4 v0 v1 v2) (laws_eqWeightedS.t4 (fun b => some (laws_eqWeightedS.mk b)) laws_eqWeightedS.q4 v0 v1 v2) := by
  unfold laws_eqWeightedS.t4
  repeat' first | exact Sub.ret | exact Sub.none | exact Sub.loop | apply Sub.cond | (apply Sub.bind; intro _)
theorem laws_eqWeightedS.eq4 (v0 : List (List Int × Int)) (v1 : List (List Int × Int)) (v2 : Int) {b : Bool} (h : laws_eqWeightedS.t4 some laws_eqWeightedS.l4 v0 v1 v2 = some b) : laws_eqWeightedS.l4 v0 v1 v2 = some b := tOf_intro laws_eqWeightedS.un (fun _ => by kernel_rfl) (loopAtL_step ((laws_eqWeightedS.k4 v0 v1 v2).trans (laws_eqWeightedS.s4 v0 v1 v2 b h)))
noncomputable def laws_eqWeighted.t {γ : Type} (ret : (Bool) → Option γ) (v0 : List Int) (v1 : Int) (v2 : List Int) (v3 : Int) : Option γ :=
  (laws_eqRow (v0) (v2)).bind fun (r0 : Bool) =>
  bif !r0 then
    ret (Bool.false)
  else
    bif v1 != v3 then
      ret (Bool.false)
    else
      ret (Bool.true)
theorem laws_eqWeighted.k (v0 : List Int) (v1 : Int) (v2 : List Int) (v3 : Int) : topL E (callT E tab) 94 Try.f94 (laws_eqWeighted.c v0 v1 v2 v3) = laws_eqWeighted.t (fun b => some (laws_eqWeighted.mk b)) v0 v1 v2 v3 := by kernel_rfl
theorem laws_eqWeighted.s (v0 : List Int) (v1 : Int) (v2 : List Int) (v3 : Int) : Sub laws_eqWeighted.mk (laws_eqWeighted.t some v0 v1 v2 v3) (laws_eqWeighted.t (fun b => some (laws_eqWeighted.mk b)) v0 v1 v2 v3) := by
  unfold laws_eqWeighted.t
  repeat' first | exact Sub.ret | exact Sub.none | exact Sub.loop | apply Sub.cond | (apply Sub.bind; intro _)
theorem laws_eqWeighted.eq (v0 : List Int) (v1 : Int) (v2 : List Int) (v3 : Int) {b : Bool} (h : laws_eqWeighted.t some v0 v1 v2 v3 = some b) : laws_eqWeighted v0 v1 v2 v3 = some b := tOf_intro laws_eqWeighted.un (fun _ => by kernel_rfl) (vlim_fn (callT_le E tab) rfl rfl rfl ((laws_eqWeighted.k v0 v1 v2 v3).trans (laws_eqWeighted.s v0 v1 v2 v3 b h)))
noncomputable def laws_eqRow.t {γ : Type} (ret : (Bool) → Option γ) (v0 : List Int) (v1 : List Int) : Option γ :=
  (laws_eqIntS (v0) (v1)).bind fun (r0 : Bool) =>
  bif !r0 then
    ret (Bool.false)
  else
    ret (Bool.true)
theorem laws_eqRow.k (v0 : List Int) (v1 : List Int) : topL E (callT E tab) 131 Try.f131 (laws_eqRow.c v0 v1) = laws_eqRow.t (fun b => some (laws_eqRow.mk b)) v0 v1 := by kernel_rfl
theorem laws_eqRow.s (v0 : List Int) (v1 : List Int) : Sub laws_eqRow.mk (laws_eqRow.t some v0 v1) (laws_eqRow.t (fun b => some (laws_eqRow.mk b)) v0 v1) := by
  unfold laws_eqRow.t
  repeat' first | exact Sub.ret | exact Sub.none | exact Sub.loop | apply Sub.cond | (apply Sub.bind; intro _)
theorem laws_eqRow.eq (v0 : List Int) (v1 : List Int) {b : Bool} (h : laws_eqRow.t some v0 v1 = some b) : laws_eqRow v0 v1 = some b := tOf_intro laws_eqRow.un (fun _ => by kernel_rfl) (vlim_fn (callT_le E tab) rfl rfl rfl ((laws_eqRow.k v0 v1).trans (laws_eqRow.s v0 v1 b h)))
noncomputable def laws_eqIntS.q4 (v0 : List Int) (v1 : List Int) (v2 : Int) : Option R := loopAtL E (callT E tab) 47 Try.f47 2 [.r, .r, .l, .r, .b] (vc (.d .fro (.sl (.int .i64)) v0) :: vc (.d .fro (.sl (.int .i64)) v1) :: nn 3 (vc (iL v2) :: nn 20 ([])))
noncomputable def laws_eqIntS.l4 (v0 : List Int) (v1 : List Int) (v2 : Int) : Option (Bool) := tOf laws_eqIntS.mk (laws_eqIntS.q4 v0 v1 v2)
noncomputable def laws_eqIntS.t {γ : Type} (ret : (Bool) → Option γ) (lp4 : (List Int) → (List Int) → Int → Option γ) (v0 : List Int) (v1 : List Int) : Option γ :=
  bif (↑v0.length : Int) != (↑v1.length : Int) then
    ret (Bool.false)
  else
    lp4 (v0) (v1) ((0 : Int))
noncomputable def laws_eqIntS.t4 {γ : Type} (ret : (Bool) → Option γ) (lp4 : (List Int) → (List Int) → Int → Option γ) (v0 : List Int) (v1 : List Int) (v2 : Int) : Option γ :=
  bif Decidable.decide (v2 < (↑v0.length : Int)) then
    bif Decidable.decide ((0 : Int) ≤ v2) then
      bif Decidable.decide (v2.toNat < v0.length) then
        bif Decidable.decide ((0 : Int) ≤ v2) then
          bif Decidable.decide (v2.toNat < v1.length) then
            bif v0.getD v2.toNat (0 : Int) != v1.getD v2.toNat (0 : Int) then
              ret (Bool.false)
            else
              lp4 (v0) (v1) (Go.IntKind.i64.wrap (v2 + (1 : Int)))
          else
            none
        else
          none
      else
        none
    else
      none
  else
    ret (Bool.true)
theorem laws_eqIntS.k (v0 : List Int) (v1 : List Int) : topL E (callT E tab) 47 Try.f47 (laws_eqIntS.c v0 v1) = laws_eqIntS.t (fun b => some (laws_eqIntS.mk b)) laws_eqIntS.q4 v0 v1 := by kernel_rfl
theorem laws_eqIntS.k4 (v0 : List Int) (v1 : List Int) (v2 : Int) : roundL E (callT E tab) 47 Try.f47 2 [.r, .r, .l, .r, .b] (vc (.d .fro (.sl (.int .i64)) v0) :: vc (.d .fro (.sl (.int .i64)) v1) :: nn 3 (vc (iL v2) :: nn 20 ([]))) = laws_eqIntS.t4 (fun b => some (laws_eqIntS.mk b)) laws_eqIntS.q4 v0 v1 v2 := by kernel_rfl
theorem laws_eqIntS.s (v0 : List Int) (v1 : List Int) : Sub laws_eqIntS.mk (laws_eqIntS.t some laws_eqIntS.l4 v0 v1) (laws_eqIntS.t (fun b => some (laws_eqIntS.mk b)) laws_eqIntS.q4 v0 v1) := by
  unfold laws_eqIntS.t
  repeat' first | exact Sub.ret | exact Sub.none | exact Sub.loop | apply Sub.cond | (apply Sub.bind; intro _)
theorem laws_eqIntS.eq (v0 : List Int) (v1 : List Int) {b : Bool} (h : laws_eqIntS.t some laws_eqIntS.l4 v0 v1 = some b) : laws_eqIntS v0 v1 = some b := tOf_intro laws_eqIntS.un (fun _ => by kernel_rfl) (vlim_fn (callT_le E tab) rfl rfl rfl ((laws_eqIntS.k v0 v1).trans (laws_eqIntS.s v0 v1 b h)))
theorem laws_eqIntS.s4 (v0 : List Int) (v1 : List Int) (v2 : Int) : Sub laws_eqIntS.mk (laws_eqIntS.t4 some laws_eqIntS.l4 v0 v1 v2) (laws_eqIntS.t4 (fun b => some (laws_eqIntS.mk b)) laws_eqIntS.q4 v0 v1 v2) := by
  unfold laws_eqIntS.t4
  repeat' first | exact Sub.ret | exact Sub.none | exact Sub.loop | apply Sub.cond | (apply Sub.bind; intro _)
theorem laws_eqIntS.eq4 (v0 : List Int) (v1 : List Int) (v2 : Int) {b : Bool} (h : laws_eqIntS.t4 some laws_eqIntS.l4 v0 v1 v2 = some b) : laws_eqIntS.l4 v0 v1 v2 = some b := tOf_intro laws_eqIntS.un (fun _ => by kernel_rfl) (loopAtL_step ((laws_eqIntS.k4 v0 v1 v2).trans (laws_eqIntS.s4 v0 v1 v2 b h)))
noncomputable def laws_markWeightedS_d97.q2 (v0 : List (List Int × Int)) (v1 : Int) (v2 : Int) : Option R := loopAtL E (callT E tab) 41 Try.f41 2 [.r, .l, .r, .b] (⟨(.val .one), [.d .deep (.sl (.pair (.sl (.int .i64)) (.int .i64))) v0], true, false, false, 0, 0⟩ :: vc (iL v1) :: nn 3 (vc (iL v2) :: nn 22 ([])))
noncomputable def laws_markWeightedS_d97.l2 (v0 : List (List Int × Int)) (v1 : Int) (v2 : Int) : Option (Int × (List (List Int × Int))) := tOf laws_markWeightedS_d97.mk (laws_markWeightedS_d97.q2 v0 v1 v2)
noncomputable def laws_markWeightedS_d97.t {γ : Type} (ret : (Int × (List (List Int × Int))) → Option γ) (lp2 : (List (List Int × Int)) → Int → Int → Option γ) (v0 : List (List Int × Int)) (v1 : Int) : Option γ :=
  lp2 (v0) (v1) ((0 : Int))
noncomputable def laws_markWeightedS_d97.t2 {γ : Type} (ret : (Int × (List (List Int × Int))) → Option γ) (lp2 : (List (List Int × Int)) → Int → Int → Option γ) (v0 : List (List Int × Int)) (v1 : Int) (v2 : Int) : Option γ :=
  bif Decidable.decide (v2 < (↑v0.length : Int)) then
    bif Decidable.decide ((0 : Int) ≤ v2) then
      bif Decidable.decide (v2.toNat < v0.length) then
        bif Decidable.decide (v2.toNat < v0.length) then
          bif Decidable.decide (v2.toNat < v0.length) then
            (laws_markIntS_83f ((v0.getD v2.toNat ([], (0 : Int))).fst) (v1)).bind fun (r0 : Int × (List Int)) =>
            bif Decidable.decide (v2.toNat = v2.toNat) &&   (Decidable.decide ((0 : Nat) + (0 : Nat) + (0 : Nat) = (0 : Nat) + (0 : Nat) + (0 : Nat)) &&     Decidable.decide ((1 : Nat) + (1 : Nat) = (1 : Nat) + (1 : Nat))) then
              bif Decidable.decide (v2.toNat < v0.length) then
                bif Decidable.decide ((0 : Int) ≤ v2) then
                  bif Decidable.decide (v2.toNat < (v0.set v2.toNat (r0.snd, (v0.getD v2.toNat ([], (0 : Int))).snd)).length) then
                    bif Decidable.decide (v2.toNat < (v0.set v2.toNat (r0.snd, (v0.getD v2.toNat ([], (0 : Int))).snd)).length) then
                      lp2 ((v0.set v2.toNat (r0.snd, (v0.getD v2.toNat ([], (0 : Int))).snd)).set v2.toNat   (((v0.set v2.toNat (r0.snd, (v0.getD v2.toNat ([], (0 : Int))).snd)).getD v2.toNat ([], (0 : Int))).fst, r0.fst)) (Go.IntKind.i64.wrap (r0.fst + (1 : Int))) (Go.IntKind.i64.wrap (v2 + (1 : Int)))
                    else
                      none
                  else
                    none
                else
                  none
              else
                none
            else
              none
          else
            none
        else
          none
      else
        none
    else
      none
  else
    ret (v1, v0)
theorem laws_markWeightedS_d97.k (v0 : List (List Int × Int)) (v1 : Int) : topL E (callT E tab) 41 Try.f41 (laws_markWeightedS_d97.c v0 v1) = laws_markWeightedS_d97.t (fun b => some (laws_markWeightedS_d97.mk b)) laws_markWeightedS_d97.q2 v0 v1 := by kernel_rfl
theorem laws_markWeightedS_d97.k2 (v0 : List (List Int × Int)) (v1 : Int) (v2 : Int) : roundL E (callT E tab) 41 Try.f41 2 [.r, .l, .r, .b] (⟨(.val .one), [.d .deep (.sl (.pair (.sl (.int .i64)) (.int .i64))) v0], true, false, false, 0, 0⟩ :: vc (iL v1) :: nn 3 (vc (iL v2) :: nn 22 ([]))) = laws_markWeightedS_d97.t2 (fun b => some (laws_markWeightedS_d97.mk b)) laws_markWeightedS_d97.q2 v0 v1 v2 := by kernel_rfl
theorem laws_markWeightedS_d97.s (v0 : List (List Int × Int)) (v1 : Int) : Sub laws_markWeightedS_d97.mk (laws_markWeightedS_d97.t some laws_markWeightedS_d97.l2 v0 v1) (laws_markWeightedS_d97.t (fun b => some (laws_markWeightedS_d97.mk b)) laws_markWeightedS_d97.q2 v0 v1) := by
  unfold laws_markWeightedS_d97.t
  repeat' first | exact Sub.ret | exact Sub.none | exact Sub.loop | apply Sub.cond | (apply Sub.bind; intro _)
theorem laws_markWeightedS_d97.eq (v0 : List (List Int × Int)) (v1 : Int) {b : Int × (List (List Int × Int))} (h : laws_markWeightedS_d97.t some laws_markWeightedS_d97.l2 v0 v1 = some b) : laws_markWeightedS_d97 v0 v1 = some b := tOf_intro laws_markWeightedS_d97.un (fun _ => by kernel_rfl) (vlim_fn (callT_le E tab) rfl rfl rfl ((laws_markWeightedS_d97.k v0 v1).trans (laws_markWeightedS_d97.s v0 v1 b h)))
theorem laws_markWeightedS_d97.s2 (v0 : List (List Int × Int)) (v1 : Int) (v2 : Int) : Sub laws_markWeightedS_d97.mk (laws_markWeightedS_d97.t2 some laws_markWeightedS_d97.l2 v0 v1 v2) (laws_markWeightedS_d97.t2 (fun b => some (laws_markWeightedS_d97.mk b)) laws_markWeightedS_d97.q2 v0 v1 v2) := by
  unfold laws_markWeightedS_d97.t2
  repeat' first | exact Sub.ret | exact Sub.none | exact Sub.loop | apply Sub.cond | (apply Sub.bind; intro _)
theorem laws_markWeightedS_d97.eq2 (v0 : List (List Int × Int)) (v1 : Int) (v2 : Int) {b : Int × (List (List Int × Int))} (h : laws_markWeightedS_d97.t2 some laws_markWeightedS_d97.l2 v0 v1 v2 = some b) : laws_markWeightedS_d97.l2 v0 v1 v2 = some b := tOf_intro laws_markWeightedS_d97.un (fun _ => by kernel_rfl) (loopAtL_step ((laws_markWeightedS_d97.k2 v0 v1 v2).trans (laws_markWeightedS_d97.s2 v0 v1 v2 b h)))
noncomputable def laws_markIntS_83f.q2 (v0 : List Int) (v1 : Int) (v2 : Int) : Option R := loopAtL E (callT E tab) 48 Try.f48 2 [.r, .l, .r, .b] (⟨(.val .one), [.d .deep (.sl (.int .i64)) v0], true, false, false, 0, 0⟩ :: vc (iL v1) :: nn 3 (vc (iL v2) :: nn 13 ([])))
noncomputable def laws_markIntS_83f.l2 (v0 : List Int) (v1 : Int) (v2 : Int) : Option (Int × (List Int)) := tOf laws_markIntS_83f.mk (laws_markIntS_83f.q2 v0 v1 v2)
noncomputable def laws_markIntS_83f.t {γ : Type} (ret : (Int × (List Int)) → Option γ) (lp2 : (List Int) → Int → Int → Option γ) (v0 : List Int) (v1 : Int) : Option γ :=
  lp2 (v0) (v1) ((0 : Int))
noncomputable def laws_markIntS_83f.t2 {γ : Type} (ret : (Int × (List Int)) → Option γ) (lp2 : (List Int) → Int → Int → Option γ) (v0 : List Int) (v1 : Int) (v2 : Int) : Option γ :=
  bif Decidable.decide (v2 < (↑v0.length : Int)) then
    bif Decidable.decide ((0 : Int) ≤ v2) then
      bif Decidable.decide (v2.toNat < v0.length) then
        bif Decidable.decide (v2.toNat < v0.length) then
          lp2 (v0.set v2.toNat v1) (Go.IntKind.i64.wrap (v1 + (1 : Int))) (Go.IntKind.i64.wrap (v2 + (1 : Int)))
        else
          none
      else
        none
    else
      none
  else
    ret (v1, v0)
theorem laws_markIntS_83f.k (v0 : List Int) (v1 : Int) : topL E (callT E tab) 48 Try.f48 (laws_markIntS_83f.c v0 v1) = laws_markIntS_83f.t (fun b => some (laws_markIntS_83f.mk b)) laws_markIntS_83f.q2 v0 v1 := by kernel_rfl
theorem laws_markIntS_83f.k2 (v0 : List Int) (v1 : Int) (v2 : Int) : roundL E (callT E tab) 48 Try.f48 2 [.r, .l, .r, .b] (⟨(.val .one), [.d .deep (.sl (.int .i64)) v0], true, false, false, 0, 0⟩ :: vc (iL v1) :: nn 3 (vc (iL v2) :: nn 13 ([]))) = laws_markIntS_83f.t2 (fun b => some (laws_markIntS_83f.mk b)) laws_markIntS_83f.q2 v0 v1 v2 := by kernel_rfl
theorem laws_markIntS_83f.s (v0 : List Int) (v1 : Int) : Sub laws_markIntS_83f.mk (laws_markIntS_83f.t some laws_markIntS_83f.l2 v0 v1) (laws_markIntS_83f.t (fun b => some (laws_markIntS_83f.mk b)) laws_markIntS_83f.q2 v0 v1) := by
  unfold laws_markIntS_83f.t
  repeat' first | exact Sub.ret | exact Sub.none | exact Sub.loop | apply Sub.cond | (apply Sub.bind; intro _)
theorem laws_markIntS_83f.eq (v0 : List Int) (v1 : Int) {b : Int × (List Int)} (h : laws_markIntS_83f.t some laws_markIntS_83f.l2 v0 v1 = some b) : laws_markIntS_83f v0 v1 = some b := tOf_intro laws_markIntS_83f.un (fun _ => by kernel_rfl) (vlim_fn (callT_le E tab) rfl rfl rfl ((laws_markIntS_83f.k v0 v1).trans (laws_markIntS_83f.s v0 v1 b h)))
theorem laws_markIntS_83f.s2 (v0 : List Int) (v1 : Int) (v2 : Int) : Sub laws_markIntS_83f.mk (laws_markIntS_83f.t2 some laws_markIntS_83f.l2 v0 v1 v2) (laws_markIntS_83f.t2 (fun b => some (laws_markIntS_83f.mk b)) laws_markIntS_83f.q2 v0 v1 v2) := by
  unfold laws_markIntS_83f.t2
  repeat' first | exact Sub.ret | exact Sub.none | exact Sub.loop | apply Sub.cond | (apply Sub.bind; intro _)
theorem laws_markIntS_83f.eq2 (v0 : List Int) (v1 : Int) (v2 : Int) {b : Int × (List Int)} (h : laws_markIntS_83f.t2 some laws_markIntS_83f.l2 v0 v1 v2 = some b) : laws_markIntS_83f.l2 v0 v1 v2 = some b := tOf_intro laws_markIntS_83f.un (fun _ => by kernel_rfl) (loopAtL_step ((laws_markIntS_83f.k2 v0 v1 v2).trans (laws_markIntS_83f.s2 v0 v1 v2 b h)))
noncomputable def laws_markTable_d7a.t {γ : Type} (ret : (Int × Int × (List (List Int × Int))) → Option γ) (v0 : Int) (v1 : List (List Int × Int)) (v2 : Int) : Option γ :=
  (laws_markWeightedS_d97 (v1) (v2)).bind fun (r0 : Int × (List (List Int × Int))) =>
  ret (r0.fst, v0, r0.snd)
theorem laws_markTable_d7a.k (v0 : Int) (v1 : List (List Int × Int)) (v2 : Int) : topL E (callT E tab) 20 Try.f20 (laws_markTable_d7a.c v0 v1 v2) = laws_markTable_d7a.t (fun b => some (laws_markTable_d7a.mk b)) v0 v1 v2 := by kernel_rfl
theorem laws_markTable_d7a.s (v0 : Int) (v1 : List (List Int × Int)) (v2 : Int) : Sub laws_markTable_d7a.mk (laws_markTable_d7a.t some v0 v1 v2) (laws_markTable_d7a.t (fun b => some (laws_markTable_d7a.mk b)) v0 v1 v2) := by
  unfold laws_markTable_d7a.t
  repeat' first | exact Sub.ret | exact Sub.none | exact Sub.loop | apply Sub.cond | (apply Sub.bind; intro _)
theorem laws_markTable_d7a.eq (v0 : Int) (v1 : List (List Int × Int)) (v2 : Int) {b : Int × Int × (List (List Int × Int))} (h : laws_markTable_d7a.t some v0 v1 v2 = some b) : laws_markTable_d7a v0 v1 v2 = some b := tOf_intro laws_markTable_d7a.un (fun _ => by kernel_rfl) (vlim_fn (callT_le E tab) rfl rfl rfl ((laws_markTable_d7a.k v0 v1 v2).trans (laws_markTable_d7a.s v0 v1 v2 b h)))
noncomputable def laws_heldTable.t {γ : Type} (ret : (Int) → Option γ) (v0 : Int) (v1 : List (List Int × Int)) (v2 : Int) : Option γ :=
  (laws_heldWeightedS (v1) (v2)).bind fun (r0 : Int) =>
  bif Decidable.decide (r0 < (0 : Int)) then
    ret ((-1 : Int))
  else
    ret (r0)
theorem laws_heldTable.k (v0 : Int) (v1 : List (List Int × Int)) (v2 : Int) : topL E (callT E tab) 21 Try.f21 (laws_heldTable.c v0 v1 v2) = laws_heldTable.t (fun b => some (laws_heldTable.mk b)) v0 v1 v2 := by kernel_rfl
theorem laws_heldTable.s (v0 : Int) (v1 : List (List Int × Int)) (v2 : Int) : Sub laws_heldTable.mk (laws_heldTable.t some v0 v1 v2) (laws_heldTable.t (fun b => some (laws_heldTable.mk b)) v0 v1 v2) := by
  unfold laws_heldTable.t
  repeat' first | exact Sub.ret | exact Sub.none | exact Sub.loop | apply Sub.cond | (apply Sub.bind; intro _)
theorem laws_heldTable.eq (v0 : Int) (v1 : List (List Int × Int)) (v2 : Int) {b : Int} (h : laws_heldTable.t some v0 v1 v2 = some b) : laws_heldTable v0 v1 v2 = some b := tOf_intro laws_heldTable.un (fun _ => by kernel_rfl) (vlim_fn (callT_le E tab) rfl rfl rfl ((laws_heldTable.k v0 v1 v2).trans (laws_heldTable.s v0 v1 v2 b h)))
noncomputable def laws_heldWeightedS.q2 (v0 : List (List Int × Int)) (v1 : Int) (v2 : Int) : Option R := loopAtL E (callT E tab) 64 Try.f64 2 [.r, .l, .r, .b] (vc (.d .fro (.sl (.pair (.sl (.int .i64)) (.int .i64))) v0) :: vc (iL v1) :: nn 3 (vc (iL v2) :: nn 26 ([])))
noncomputable def laws_heldWeightedS.l2 (v0 : List (List Int × Int)) (v1 : Int) (v2 : Int) : Option (Int) := tOf laws_heldWeightedS.mk (laws_heldWeightedS.q2 v0 v1 v2)
noncomputable def laws_heldWeightedS.t {γ : Type} (ret : (Int) → Option γ) (lp2 : (List (List Int × Int)) → Int → Int → Option γ) (v0 : List (List Int × Int)) (v1 : Int) : Option γ :=
  lp2 (v0) (v1) ((0 : Int))
noncomputable def laws_heldWeightedS.t2 {γ : Type} (ret : (Int) → Option γ) (lp2 : (List (List Int × Int)) → Int → Int → Option γ) (v0 : List (List Int × Int)) (v1 : Int) (v2 : Int) : Option γ :=
  bif Decidable.decide (v2 < (↑v0.length : Int)) then
    bif Decidable.decide ((0 : Int) ≤ v2) then
      bif Decidable.decide (v2.toNat < v0.length) then
        (laws_heldIntS ((v0.getD v2.toNat ([], (0 : Int))).fst) (v1)).bind fun (r0 : Int) =>
        bif Decidable.decide (r0 < (0 : Int)) then
          ret ((-1 : Int))
        else
          bif Decidable.decide ((0 : Int) ≤ v2) then
            bif Decidable.decide (v2.toNat < v0.length) then
              bif (v0.getD v2.toNat ([], (0 : Int))).snd != r0 then
                ret ((-1 : Int))
              else
                lp2 (v0) (Go.IntKind.i64.wrap (r0 + (1 : Int))) (Go.IntKind.i64.wrap (v2 + (1 : Int)))
            else
              none
          else
            none
      else
        none
    else
      none
  else
    ret (v1)
theorem laws_heldWeightedS.k (v0 : List (List Int × Int)) (v1 : Int) : topL E (callT E tab) 64 Try.f64 (laws_heldWeightedS.c v0 v1) = laws_heldWeightedS.t (fun b => some (laws_heldWeightedS.mk b)) laws_heldWeightedS.q2 v0 v1 := by kernel_rfl
theorem laws_heldWeightedS.k2 (v0 : List (List Int × Int)) (v1 : Int) (v2 : Int) : roundL E (callT E tab) 64 Try.f64 2 [.r, .l, .r, .b] (vc (.d .fro (.sl (.pair (.sl (.int .i64)) (.int .i64))) v0) :: vc (iL v1) :: nn 3 (vc (iL v2) :: nn 26 ([]))) = laws_heldWeightedS.t2 (fun b => some (laws_heldWeightedS.mk b)) laws_heldWeightedS.q2 v0 v1 v2 := by kernel_rfl
theorem laws_heldWeightedS.s (v0 : List (List Int × Int)) (v1 : Int) : Sub laws_heldWeightedS.mk (laws_heldWeightedS.t some laws_heldWeightedS.l2 v0 v1) (laws_heldWeightedS.t (fun b => some (laws_heldWeightedS.mk b)) laws_heldWeightedS.q2 v0 v1) := by
  unfold laws_heldWeightedS.t
  repeat' first | exact Sub.ret | exact Sub.none | exact Sub.loop | apply Sub.cond | (apply Sub.bind; intro _)
theorem laws_heldWeightedS.eq (v0 : List (List Int × Int)) (v1 : Int) {b : Int} (h : laws_heldWeightedS.t some laws_heldWeightedS.l2 v0 v1 = some b) : laws_heldWeightedS v0 v1 = some b := tOf_intro laws_heldWeightedS.un (fun _ => by kernel_rfl) (vlim_fn (callT_le E tab) rfl rfl rfl ((laws_heldWeightedS.k v0 v1).trans (laws_heldWeightedS.s v0 v1 b h)))
theorem laws_heldWeightedS.s2 (v0 : List (List Int × Int)) (v1 : Int) (v2 : Int) : Sub laws_heldWeightedS.mk (laws_heldWeightedS.t2 some laws_heldWeightedS.l2 v0 v1 v2) (laws_heldWeightedS.t2 (fun b => some (laws_heldWeightedS.mk b)) laws_heldWeightedS.q2 v0 v1 v2) := by
  unfold laws_heldWeightedS.t2
  repeat' first | exact Sub.ret | exact Sub.none | exact Sub.loop | apply Sub.cond | (apply Sub.bind; intro _)
theorem laws_heldWeightedS.eq2 (v0 : List (List Int × Int)) (v1 : Int) (v2 : Int) {b : Int} (h : laws_heldWeightedS.t2 some laws_heldWeightedS.l2 v0 v1 v2 = some b) : laws_heldWeightedS.l2 v0 v1 v2 = some b := tOf_intro laws_heldWeightedS.un (fun _ => by kernel_rfl) (loopAtL_step ((laws_heldWeightedS.k2 v0 v1 v2).trans (laws_heldWeightedS.s2 v0 v1 v2 b h)))
noncomputable def laws_heldIntS.q2 (v0 : List Int) (v1 : Int) (v2 : Int) : Option R := loopAtL E (callT E tab) 110 Try.f110 2 [.r, .l, .r, .b] (vc (.d .fro (.sl (.int .i64)) v0) :: vc (iL v1) :: nn 3 (vc (iL v2) :: nn 15 ([])))
noncomputable def laws_heldIntS.l2 (v0 : List Int) (v1 : Int) (v2 : Int) : Option (Int) := tOf laws_heldIntS.mk (laws_heldIntS.q2 v0 v1 v2)
noncomputable def laws_heldIntS.t {γ : Type} (ret : (Int) → Option γ) (lp2 : (List Int) → Int → Int → Option γ) (v0 : List Int) (v1 : Int) : Option γ :=
  lp2 (v0) (v1) ((0 : Int))
noncomputable def laws_heldIntS.t2 {γ : Type} (ret : (Int) → Option γ) (lp2 : (List Int) → Int → Int → Option γ) (v0 : List Int) (v1 : Int) (v2 : Int) : Option γ :=
  bif Decidable.decide (v2 < (↑v0.length : Int)) then
    bif Decidable.decide ((0 : Int) ≤ v2) then
      bif Decidable.decide (v2.toNat < v0.length) then
        bif v0.getD v2.toNat (0 : Int) != v1 then
          ret ((-1 : Int))
        else
          lp2 (v0) (Go.IntKind.i64.wrap (v1 + (1 : Int))) (Go.IntKind.i64.wrap (v2 + (1 : Int)))
      else
        none
    else
      none
  else
    ret (v1)
theorem laws_heldIntS.k (v0 : List Int) (v1 : Int) : topL E (callT E tab) 110 Try.f110 (laws_heldIntS.c v0 v1) = laws_heldIntS.t (fun b => some (laws_heldIntS.mk b)) laws_heldIntS.q2 v0 v1 := by kernel_rfl
theorem laws_heldIntS.k2 (v0 : List Int) (v1 : Int) (v2 : Int) : roundL E (callT E tab) 110 Try.f110 2 [.r, .l, .r, .b] (vc (.d .fro (.sl (.int .i64)) v0) :: vc (iL v1) :: nn 3 (vc (iL v2) :: nn 15 ([]))) = laws_heldIntS.t2 (fun b => some (laws_heldIntS.mk b)) laws_heldIntS.q2 v0 v1 v2 := by kernel_rfl
theorem laws_heldIntS.s (v0 : List Int) (v1 : Int) : Sub laws_heldIntS.mk (laws_heldIntS.t some laws_heldIntS.l2 v0 v1) (laws_heldIntS.t (fun b => some (laws_heldIntS.mk b)) laws_heldIntS.q2 v0 v1) := by
  unfold laws_heldIntS.t
  repeat' first | exact Sub.ret | exact Sub.none | exact Sub.loop | apply Sub.cond | (apply Sub.bind; intro _)
theorem laws_heldIntS.eq (v0 : List Int) (v1 : Int) {b : Int} (h : laws_heldIntS.t some laws_heldIntS.l2 v0 v1 = some b) : laws_heldIntS v0 v1 = some b := tOf_intro laws_heldIntS.un (fun _ => by kernel_rfl) (vlim_fn (callT_le E tab) rfl rfl rfl ((laws_heldIntS.k v0 v1).trans (laws_heldIntS.s v0 v1 b h)))
theorem laws_heldIntS.s2 (v0 : List Int) (v1 : Int) (v2 : Int) : Sub laws_heldIntS.mk (laws_heldIntS.t2 some laws_heldIntS.l2 v0 v1 v2) (laws_heldIntS.t2 (fun b => some (laws_heldIntS.mk b)) laws_heldIntS.q2 v0 v1 v2) := by
  unfold laws_heldIntS.t2
  repeat' first | exact Sub.ret | exact Sub.none | exact Sub.loop | apply Sub.cond | (apply Sub.bind; intro _)
theorem laws_heldIntS.eq2 (v0 : List Int) (v1 : Int) (v2 : Int) {b : Int} (h : laws_heldIntS.t2 some laws_heldIntS.l2 v0 v1 v2 = some b) : laws_heldIntS.l2 v0 v1 v2 = some b := tOf_intro laws_heldIntS.un (fun _ => by kernel_rfl) (loopAtL_step ((laws_heldIntS.k2 v0 v1 v2).trans (laws_heldIntS.s2 v0 v1 v2 b h)))
noncomputable def laws_szTable.t {γ : Type} (ret : (Int) → Option γ) (v0 : Int) (v1 : List (List Int × Int)) (v2 : Int) : Option γ :=
  (laws_szWeightedS (v1) (v2)).bind fun (r0 : Int) =>
  bif Decidable.decide (r0 < (0 : Int)) then
    ret ((-1 : Int))
  else
    ret (r0)
theorem laws_szTable.k (v0 : Int) (v1 : List (List Int × Int)) (v2 : Int) : topL E (callT E tab) 15 Try.f15 (laws_szTable.c v0 v1 v2) = laws_szTable.t (fun b => some (laws_szTable.mk b)) v0 v1 v2 := by kernel_rfl
theorem laws_szTable.s (v0 : Int) (v1 : List (List Int × Int)) (v2 : Int) : Sub laws_szTable.mk (laws_szTable.t some v0 v1 v2) (laws_szTable.t (fun b => some (laws_szTable.mk b)) v0 v1 v2) := by
  unfold laws_szTable.t
  repeat' first | exact Sub.ret | exact Sub.none | exact Sub.loop | apply Sub.cond | (apply Sub.bind; intro _)
theorem laws_szTable.eq (v0 : Int) (v1 : List (List Int × Int)) (v2 : Int) {b : Int} (h : laws_szTable.t some v0 v1 v2 = some b) : laws_szTable v0 v1 v2 = some b := tOf_intro laws_szTable.un (fun _ => by kernel_rfl) (vlim_fn (callT_le E tab) rfl rfl rfl ((laws_szTable.k v0 v1 v2).trans (laws_szTable.s v0 v1 v2 b h)))
noncomputable def laws_toTable.t {γ : Type} (ret : (Int × (List (List Int × Int))) → Option γ) (v0 : Int) (v1 : List (List Int × Int)) : Option γ :=
  (laws_toWeightedS (v1)).bind fun (r0 : (List (List Int × Int))) =>
  ret (v0, r0)
theorem laws_toTable.k (v0 : Int) (v1 : List (List Int × Int)) : topL E (callT E tab) 17 Try.f17 (laws_toTable.c v0 v1) = laws_toTable.t (fun b => some (laws_toTable.mk b)) v0 v1 := by kernel_rfl
theorem laws_toTable.s (v0 : Int) (v1 : List (List Int × Int)) : Sub laws_toTable.mk (laws_toTable.t some v0 v1) (laws_toTable.t (fun b => some (laws_toTable.mk b)) v0 v1) := by
  unfold laws_toTable.t
  repeat' first | exact Sub.ret | exact Sub.none | exact Sub.loop | apply Sub.cond | (apply Sub.bind; intro _)
theorem laws_toTable.eq (v0 : Int) (v1 : List (List Int × Int)) {b : Int × (List (List Int × Int))} (h : laws_toTable.t some v0 v1 = some b) : laws_toTable v0 v1 = some b := tOf_intro laws_toTable.un (fun _ => by kernel_rfl) (vlim_fn (callT_le E tab) rfl rfl rfl ((laws_toTable.k v0 v1).trans (laws_toTable.s v0 v1 b h)))
noncomputable def impl_isPlace.t {γ : Type} (ret : (Bool) → Option γ) (v0 : Int) (v1 : Int) : Option γ :=
  bif Decidable.decide (v0 ≥ (0 : Int)) then
    ret (Decidable.decide (v0 < v1))
  else
    ret (Bool.false)
theorem impl_isPlace.k (v0 : Int) (v1 : Int) : topL E (callT E tab) 118 Try.f118 (impl_isPlace.c v0 v1) = impl_isPlace.t (fun b => some (impl_isPlace.mk b)) v0 v1 := by kernel_rfl
theorem impl_isPlace.s (v0 : Int) (v1 : Int) : Sub impl_isPlace.mk (impl_isPlace.t some v0 v1) (impl_isPlace.t (fun b => some (impl_isPlace.mk b)) v0 v1) := by
  unfold impl_isPlace.t
  repeat' first | exact Sub.ret | exact Sub.none | exact Sub.loop | apply Sub.cond | (apply Sub.bind; intro _)
theorem impl_isPlace.eq (v0 : Int) (v1 : Int) {b : Bool} (h : impl_isPlace.t some v0 v1 = some b) : impl_isPlace v0 v1 = some b := tOf_intro impl_isPlace.un (fun _ => by kernel_rfl) (vlim_fn (callT_le E tab) rfl rfl rfl ((impl_isPlace.k v0 v1).trans (impl_isPlace.s v0 v1 b h)))
noncomputable def impl_Row_picked.q3 (v0 : List Int) (v1 : List Int) (v2 : List Int) (v3 : List Int) (v4 : Int) (v5 : Int) : Option R := loopAtL E (callT E tab) 135 Try.f135 2 [.r, .r, .l, .r, .b] (nn 2 (⟨(.box false), [.d .fro (.sl (.int .i64)) v0], false, false, false, 0, 0⟩ :: nn 1 (⟨(.box false), [.d .deep (.sl (.int .i64)) v1], false, false, false, 0, 0⟩ :: ⟨(.box false), [.d .deep (.sl (.int .i64)) v2], false, false, false, 0, 0⟩ :: nn 2 (vc (.d .fro (.sl (.int .i64)) v3) :: vc (iL v4) :: vc (iL v5) :: nn 15 ([])))))
noncomputable def impl_Row_picked.l3 (v0 : List Int) (v1 : List Int) (v2 : List Int) (v3 : List Int) (v4 : Int) (v5 : Int) : Option ((List Int)) := tOf impl_Row_picked.mk (impl_Row_picked.q3 v0 v1 v2 v3 v4 v5)
noncomputable def impl_Row_picked.t {γ : Type} (ret : ((List Int)) → Option γ) (lp3 : (List Int) → (List Int) → (List Int) → (List Int) → Int → Int → Option γ) (v0 : List Int) (v1 : List Int) : Option γ :=
  lp3 (v0) ([]) ([]) (v1) ((↑v1.length : Int)) ((0 : Int))
noncomputable def impl_Row_picked.t3 {γ : Type} (ret : ((List Int)) → Option γ) (lp3 : (List Int) → (List Int) → (List Int) → (List Int) → Int → Int → Option γ) (v0 : List Int) (v1 : List Int) (v2 : List Int) (v3 : List Int) (v4 : Int) (v5 : Int) : Option γ :=
  bif Decidable.decide (v5 < v4) then
    bif Decidable.decide ((0 : Int) ≤ v5) then
      bif Decidable.decide (v5.toNat < v3.length) then
        bif Decidable.decide ((0 : Int) ≤ v3.getD v5.toNat (0 : Int)) then
          bif Decidable.decide ((v3.getD v5.toNat (0 : Int)).toNat < v0.length) then
            bif Decidable.decide (v2.length + [v0.getD (v3.getD v5.toNat (0 : Int)).toNat (0 : Int)].length ≤ (4294967296 : Nat)) then
              lp3 (v0) (v1) (v2 ++ [v0.getD (v3.getD v5.toNat (0 : Int)).toNat (0 : Int)]) (v3) (v4) (Go.IntKind.i64.wrap (v5 + (1 : Int)))
            else
              none
          else
            none
        else
          none
      else
        none
    else
      none
  else
    ret (v2)
theorem impl_Row_picked.k (v0 : List Int) (v1 : List Int) : topL E (callT E tab) 135 Try.f135 (impl_Row_picked.c v0 v1) = impl_Row_picked.t (fun b => some (impl_Row_picked.mk b)) impl_Row_picked.q3 v0 v1 := by kernel_rfl
theorem impl_Row_picked.k3 (v0 : List Int) (v1 : List Int) (v2 : List Int) (v3 : List Int) (v4 : Int) (v5 : Int) : roundL E (callT E tab) 135 Try.f135 2 [.r, .r, .l, .r, .b] (nn 2 (⟨(.box false), [.d .fro (.sl (.int .i64)) v0], false, false, false, 0, 0⟩ :: nn 1 (⟨(.box false), [.d .deep (.sl (.int .i64)) v1], false, false, false, 0, 0⟩ :: ⟨(.box false), [.d .deep (.sl (.int .i64)) v2], false, false, false, 0, 0⟩ :: nn 2 (vc (.d .fro (.sl (.int .i64)) v3) :: vc (iL v4) :: vc (iL v5) :: nn 15 ([]))))) = impl_Row_picked.t3 (fun b => some (impl_Row_picked.mk b)) impl_Row_picked.q3 v0 v1 v2 v3 v4 v5 := by kernel_rfl
theorem impl_Row_picked.s (v0 : List Int) (v1 : List Int) : Sub impl_Row_picked.mk (impl_Row_picked.t some impl_Row_picked.l3 v0 v1) (impl_Row_picked.t (fun b => some (impl_Row_picked.mk b)) impl_Row_picked.q3 v0 v1) := by
  unfold impl_Row_picked.t
  repeat' first | exact Sub.ret | exact Sub.none | exact Sub.loop | apply Sub.cond | (apply Sub.bind; intro _)
theorem impl_Row_picked.eq (v0 : List Int) (v1 : List Int) {b : (List Int)} (h : impl_Row_picked.t some impl_Row_picked.l3 v0 v1 = some b) : impl_Row_picked v0 v1 = some b := tOf_intro impl_Row_picked.un (fun _ => by kernel_rfl) (vlim_fn (callT_le E tab) rfl rfl rfl ((impl_Row_picked.k v0 v1).trans (impl_Row_picked.s v0 v1 b h)))
theorem impl_Row_picked.s3 (v0 : List Int) (v1 : List Int) (v2 : List Int) (v3 : List Int) (v4 : Int) (v5 : Int) : Sub impl_Row_picked.mk (impl_Row_picked.t3 some impl_Row_picked.l3 v0 v1 v2 v3 v4 v5) (impl_Row_picked.t3 (fun b => some (impl_Row_picked.mk b)) impl_Row_picked.q3 v0 v1 v2 v3 v4 v5) := by
  unfold impl_Row_picked.t3
  repeat' first | exact Sub.ret | exact Sub.none | exact Sub.loop | apply Sub.cond | (apply Sub.bind; intro _)
theorem impl_Row_picked.eq3 (v0 : List Int) (v1 : List Int) (v2 : List Int) (v3 : List Int) (v4 : Int) (v5 : Int) {b : (List Int)} (h : impl_Row_picked.t3 some impl_Row_picked.l3 v0 v1 v2 v3 v4 v5 = some b) : impl_Row_picked.l3 v0 v1 v2 v3 v4 v5 = some b := tOf_intro impl_Row_picked.un (fun _ => by kernel_rfl) (loopAtL_step ((impl_Row_picked.k3 v0 v1 v2 v3 v4 v5).trans (impl_Row_picked.s3 v0 v1 v2 v3 v4 v5 b h)))
noncomputable def laws_FnExactCrossTables.t {γ : Type} (ret : (Bool) → Option γ) (v0 : Int) (v1 : List (List Int × Int)) (v2 : Int) (v3 : List (List Int × Int)) : Option γ :=
  (laws_szTable (v0) (v1) ((1048576 : Int))).bind fun (r0 : Int) =>
  bif Decidable.decide (r0 < (0 : Int)) then
    ret (Bool.true)
  else
    (laws_szTable (v2) (v3) (r0)).bind fun (r1 : Int) =>
    bif Decidable.decide (r1 < (0 : Int)) then
      ret (Bool.true)
    else
      (laws_toTable (v0) (v1)).bind fun (r2 : Int × (List (List Int × Int))) =>
      (laws_toTable (v2) (v3)).bind fun (r3 : Int × (List (List Int × Int))) =>
      (spec_CrossTables (r2.fst) (r2.snd) (r3.fst) (r3.snd)).bind fun (r4 : Int × (List (List Int × Int)) × Bool) =>
      (laws_toTable (v0) (v1)).bind fun (r5 : Int × (List (List Int × Int))) =>
      (laws_toTable (v2) (v3)).bind fun (r6 : Int × (List (List Int × Int))) =>
      (impl_CrossTables (r5.fst) (r5.snd) (r6.fst) (r6.snd)).bind fun (r7 : Int × (List (List Int × Int)) × Bool) =>
      (laws_eqTable (r7.fst) (r7.snd.fst) (r4.fst) (r4.snd.fst)).bind fun (r8 : Bool) =>
      bif !r8 then
        ret (Bool.false)
      else
        bif !r7.snd.snd == r4.snd.snd then
          ret (Bool.false)
        else
          (laws_toTable (v0) (v1)).bind fun (r9 : Int × (List (List Int × Int))) =>
          (laws_eqTable (r5.fst) (r5.snd) (r9.fst) (r9.snd)).bind fun (r10 : Bool) =>
          bif !r10 then
            ret (Bool.false)
          else
            (laws_toTable (v2) (v3)).bind fun (r11 : Int × (List (List Int × Int))) =>
            (laws_eqTable (r6.fst) (r6.snd) (r11.fst) (r11.snd)).bind fun (r12 : Bool) =>
            bif !r12 then
              ret (Bool.false)
            else
              (laws_markTable_d7a (r5.fst) (r5.snd) ((1 : Int))).bind fun (r13 : Int × Int × (List (List Int × Int))) =>
              (laws_markTable_d7a (r6.fst) (r6.snd) (r13.fst)).bind fun (r14 : Int × Int × (List (List Int × Int))) =>
              bif Decidable.decide (r14.fst < (0 : Int)) then
                ret (Bool.false)
              else
                (laws_eqTable (r7.fst) (r7.snd.fst) (r4.fst) (r4.snd.fst)).bind fun (r15 : Bool) =>
                bif !r15 then
                  ret (Bool.false)
                else
                  bif !r7.snd.snd == r4.snd.snd then
                    ret (Bool.false)
                  else
                    (laws_markTable_d7a (r7.fst) (r7.snd.fst) ((1 : Int))).bind fun (r16 : Int × Int × (List (List Int × Int))) =>
                    (laws_heldTable (r7.fst) (r16.snd.snd) ((1 : Int))).bind fun (r17 : Int) =>
                    bif Decidable.decide (r17 < (0 : Int)) then
                      ret (Bool.false)
                    else
                      bif r17 != r16.fst then
                        ret (Bool.false)
                      else
                        (laws_toTable (v0) (v1)).bind fun (r18 : Int × (List (List Int × Int))) =>
                        (laws_toTable (v2) (v3)).bind fun (r19 : Int × (List (List Int × Int))) =>
                        (impl_CrossTables (r18.fst) (r18.snd) (r19.fst) (r19.snd)).bind fun (r20 : Int × (List (List Int × Int)) × Bool) =>
                        (laws_eqTable (r20.fst) (r20.snd.fst) (r4.fst) (r4.snd.fst)).bind fun (r21 : Bool) =>
                        bif !r21 then
                          ret (Bool.false)
                        else
                          bif !r20.snd.snd == r4.snd.snd then
                            ret (Bool.false)
                          else
                            (laws_heldTable (r7.fst) (r16.snd.snd) ((1 : Int))).bind fun (r22 : Int) =>
                            bif Decidable.decide (r22 < (0 : Int)) then
                              ret (Bool.false)
                            else
                              bif r22 != r16.fst then
                                ret (Bool.false)
                              else
                                ret (Bool.true)
theorem laws_FnExactCrossTables.k (v0 : Int) (v1 : List (List Int × Int)) (v2 : Int) (v3 : List (List Int × Int)) : topL E (callT E tab) 13 Try.f13 (laws_FnExactCrossTables.c v0 v1 v2 v3) = laws_FnExactCrossTables.t (fun b => some (laws_FnExactCrossTables.mk b)) v0 v1 v2 v3 := by kernel_rfl
theorem laws_FnExactCrossTables.s (v0 : Int) (v1 : List (List Int × Int)) (v2 : Int) (v3 : List (List Int × Int)) : Sub laws_FnExactCrossTables.mk (laws_FnExactCrossTables.t some v0 v1 v2 v3) (laws_FnExactCrossTables.t (fun b => some (laws_FnExactCrossTables.mk b)) v0 v1 v2 v3) := by
  unfold laws_FnExactCrossTables.t
  repeat' first | exact Sub.ret | exact Sub.none | exact Sub.loop | apply Sub.cond | (apply Sub.bind; intro _)
theorem laws_FnExactCrossTables.eq (v0 : Int) (v1 : List (List Int × Int)) (v2 : Int) (v3 : List (List Int × Int)) {b : Bool} (h : laws_FnExactCrossTables.t some v0 v1 v2 v3 = some b) : laws_FnExactCrossTables v0 v1 v2 v3 = some b := tOf_intro laws_FnExactCrossTables.un (fun _ => by kernel_rfl) (vlim_fn (callT_le E tab) rfl rfl rfl ((laws_FnExactCrossTables.k v0 v1 v2 v3).trans (laws_FnExactCrossTables.s v0 v1 v2 v3 b h)))
end GoV

/- Equations of the program's functions (printed by wip/tools/emit.py). -/
namespace GoV
open Go Go.Proofs
set_option maxRecDepth 100000

noncomputable def spec_CrossTables.t {γ : Type} (ret : (Int × (List (List Int × Int)) × Bool) → Option γ) (v0 : Int) (v1 : List (List Int × Int)) (v2 : Int) (v3 : List (List Int × Int)) : Option γ :=
  (spec_JoinTables (v0) (v1) (v2) (v3) ([])).bind fun (r0 : Int × (List (List Int × Int)) × Bool) =>
  ret (r0.fst, r0.snd.fst, r0.snd.snd)
theorem spec_CrossTables.k (v0 : Int) (v1 : List (List Int × Int)) (v2 : Int) (v3 : List (List Int × Int)) : topL E (callT E tab) 51 Try.f51 (spec_CrossTables.c v0 v1 v2 v3) = spec_CrossTables.t (fun b => some (spec_CrossTables.mk b)) v0 v1 v2 v3 := by kernel_rfl
theorem spec_CrossTables.s (v0 : Int) (v1 : List (List Int × Int)) (v2 : Int) (v3 : List (List Int × Int)) : Sub spec_CrossTables.mk (spec_CrossTables.t some v0 v1 v2 v3) (spec_CrossTables.t (fun b => some (spec_CrossTables.mk b)) v0 v1 v2 v3) := by
  unfold spec_CrossTables.t
  repeat' first | exact Sub.ret | exact Sub.none | exact Sub.loop | apply Sub.cond | (apply Sub.bind; intro _)
theorem spec_CrossTables.eq (v0 : Int) (v1 : List (List Int × Int)) (v2 : Int) (v3 : List (List Int × Int)) {b : Int × (List (List Int × Int)) × Bool} (h : spec_CrossTables.t some v0 v1 v2 v3 = some b) : spec_CrossTables v0 v1 v2 v3 = some b := tOf_intro spec_CrossTables.un (fun _ => by kernel_rfl) (vlim_fn (callT_le E tab) rfl rfl rfl ((spec_CrossTables.k v0 v1 v2 v3).trans (spec_CrossTables.s v0 v1 v2 v3 b h)))
noncomputable def spec_JoinTables.t {γ : Type} (ret : (Int × (List (List Int × Int)) × Bool) → Option γ) (v0 : Int) (v1 : List (List Int × Int)) (v2 : Int) (v3 : List (List Int × Int)) (v4 : List (List Int)) : Option γ :=
  (spec_GoodTable (v0) (v1)).bind fun (r0 : Bool) =>
  bif !r0 then
    ret ((0 : Int), [], Bool.false)
  else
    (spec_GoodTable (v2) (v3)).bind fun (r1 : Bool) =>
    bif !r1 then
      ret ((0 : Int), [], Bool.false)
    else
      (spec_l1Pairs (v4) (v0) (v2)).bind fun (r2 : Bool) =>
      bif !r2 then
        ret ((0 : Int), [], Bool.false)
      else
        (spec_l3Left (v4) (v2)).bind fun (r3 : Int) =>
        bif Decidable.decide (Go.IntKind.i64.wrap (v0 + r3) > (6 : Int)) then
          ret ((0 : Int), [], Bool.false)
        else
          (spec_l3Left (v4) (v2)).bind fun (r4 : Int) =>
          (spec_l3Join (v1) (v3) (v4)).bind fun (r5 : (List (List Int × Int))) =>
          (spec_l2Tell (Go.IntKind.i64.wrap (v0 + r4)) (r5)).bind fun (r6 : Int × (List (List Int × Int)) × Bool) =>
          ret (r6.fst, r6.snd.fst, r6.snd.snd)
theorem spec_JoinTables.k (v0 : Int) (v1 : List (List Int × Int)) (v2 : Int) (v3 : List (List Int × Int)) (v4 : List (List Int)) : topL E (callT E tab) 54 Try.f54 (spec_JoinTables.c v0 v1 v2 v3 v4) = spec_JoinTables.t (fun b => some (spec_JoinTables.mk b)) v0 v1 v2 v3 v4 := by kernel_rfl
theorem spec_JoinTables.s (v0 : Int) (v1 : List (List Int × Int)) (v2 : Int) (v3 : List (List Int × Int)) (v4 : List (List Int)) : Sub spec_JoinTables.mk (spec_JoinTables.t some v0 v1 v2 v3 v4) (spec_JoinTables.t (fun b => some (spec_JoinTables.mk b)) v0 v1 v2 v3 v4) := by
  unfold spec_JoinTables.t
  repeat' first | exact Sub.ret | exact Sub.none | exact Sub.loop | apply Sub.cond | (apply Sub.bind; intro _)
theorem spec_JoinTables.eq (v0 : Int) (v1 : List (List Int × Int)) (v2 : Int) (v3 : List (List Int × Int)) (v4 : List (List Int)) {b : Int × (List (List Int × Int)) × Bool} (h : spec_JoinTables.t some v0 v1 v2 v3 v4 = some b) : spec_JoinTables v0 v1 v2 v3 v4 = some b := tOf_intro spec_JoinTables.un (fun _ => by kernel_rfl) (vlim_fn (callT_le E tab) rfl rfl rfl ((spec_JoinTables.k v0 v1 v2 v3 v4).trans (spec_JoinTables.s v0 v1 v2 v3 v4 b h)))
noncomputable def spec_l1Pairs.q2 (v0 : List (List Int)) (v1 : Int) (v2 : Int) (v3 : List (List Int)) (v4 : Int) (v5 : Int) : Option R := loopAtL E (callT E tab) 101 Try.f101 3 [.r, .l, .r, .b] (vc (.d .fro (.sl (.sl (.int .i64))) v0) :: vc (iL v1) :: vc (iL v2) :: nn 6 (vc (.d .fro (.sl (.sl (.int .i64))) v3) :: vc (iL v4) :: vc (iL v5) :: nn 36 ([])))
noncomputable def spec_l1Pairs.l2 (v0 : List (List Int)) (v1 : Int) (v2 : Int) (v3 : List (List Int)) (v4 : Int) (v5 : Int) : Option (Bool) := tOf spec_l1Pairs.mk (spec_l1Pairs.q2 v0 v1 v2 v3 v4 v5)
noncomputable def spec_l1Pairs.t {γ : Type} (ret : (Bool) → Option γ) (lp2 : (List (List Int)) → Int → Int → (List (List Int)) → Int → Int → Option γ) (v0 : List (List Int)) (v1 : Int) (v2 : Int) : Option γ :=
  lp2 (v0) (v1) (v2) (v0) ((↑v0.length : Int)) ((0 : Int))
noncomputable def spec_l1Pairs.t2 {γ : Type} (ret : (Bool) → Option γ) (lp2 : (List (List Int)) → Int → Int → (List (List Int)) → Int → Int → Option γ) (v0 : List (List Int)) (v1 : Int) (v2 : Int) (v3 : List (List Int)) (v4 : Int) (v5 : Int) : Option γ :=
  bif Decidable.decide (v5 < v4) then
    bif Decidable.decide ((0 : Int) ≤ v5) then
      bif Decidable.decide (v5.toNat < v3.length) then
        bif (↑(v3.getD v5.toNat []).length : Int) != (2 : Int) then
          ret (Bool.false)
        else
          bif Decidable.decide (Int.toNat (0 : Int) < (v3.getD v5.toNat []).length) then
            bif Decidable.decide ((v3.getD v5.toNat []).getD (Int.toNat (0 : Int)) (0 : Int) < (0 : Int)) then
              ret (Bool.false)
            else
              bif Decidable.decide (Int.toNat (0 : Int) < (v3.getD v5.toNat []).length) then
                bif Decidable.decide ((v3.getD v5.toNat []).getD (Int.toNat (0 : Int)) (0 : Int) ≥ v1) then
                  ret (Bool.false)
                else
                  bif Decidable.decide (Int.toNat (1 : Int) < (v3.getD v5.toNat []).length) then
                    bif Decidable.decide ((v3.getD v5.toNat []).getD (Int.toNat (1 : Int)) (0 : Int) < (0 : Int)) then
                      ret (Bool.false)
                    else
                      bif Decidable.decide (Int.toNat (1 : Int) < (v3.getD v5.toNat []).length) then
                        bif Decidable.decide ((v3.getD v5.toNat []).getD (Int.toNat (1 : Int)) (0 : Int) ≥ v2) then
                          ret (Bool.false)
                        else
                          lp2 (v0) (v1) (v2) (v3) (v4) (Go.IntKind.i64.wrap (v5 + (1 : Int)))
                      else
                        none
                  else
                    none
              else
                none
          else
            none
      else
        none
    else
      none
  else
    ret (Decidable.decide ((↑v0.length : Int) ≤ (6 : Int)))
theorem spec_l1Pairs.k (v0 : List (List Int)) (v1 : Int) (v2 : Int) : topL E (callT E tab) 101 Try.f101 (spec_l1Pairs.c v0 v1 v2) = spec_l1Pairs.t (fun b => some (spec_l1Pairs.mk b)) spec_l1Pairs.q2 v0 v1 v2 := by kernel_rfl
theorem spec_l1Pairs.k2 (v0 : List (List Int)) (v1 : Int) (v2 : Int) (v3 : List (List Int)) (v4 : Int) (v5 : Int) : roundL E (callT E tab) 101 Try.f101 3 [.r, .l, .r, .b] (vc (.d .fro (.sl (.sl (.int .i64))) v0) :: vc (iL v1) :: vc (iL v2) :: nn 6 (vc (.d .fro (.sl (.sl (.int .i64))) v3) :: vc (iL v4) :: vc (iL v5) :: nn 36 ([]))) = spec_l1Pairs.t2 (fun b => some (spec_l1Pairs.mk b)) spec_l1Pairs.q2 v0 v1 v2 v3 v4 v5 := by kernel_rfl
theorem spec_l1Pairs.s (v0 : List (List Int)) (v1 : Int) (v2 : Int) : Sub spec_l1Pairs.mk (spec_l1Pairs.t some spec_l1Pairs.l2 v0 v1 v2) (spec_l1Pairs.t (fun b => some (spec_l1Pairs.mk b)) spec_l1Pairs.q2 v0 v1 v2) := by
  unfold spec_l1Pairs.t
  repeat' first | exact Sub.ret | exact Sub.none | exact Sub.loop | apply Sub.cond | (apply Sub.bind; intro _)
theorem spec_l1Pairs.eq (v0 : List (List Int)) (v1 : Int) (v2 : Int) {b : Bool} (h : spec_l1Pairs.t some spec_l1Pairs.l2 v0 v1 v2 = some b) : spec_l1Pairs v0 v1 v2 = some b := tOf_intro spec_l1Pairs.un (fun _ => by kernel_rfl) (vlim_fn (callT_le E tab) rfl rfl rfl ((spec_l1Pairs.k v0 v1 v2).trans (spec_l1Pairs.s v0 v1 v2 b h)))
theorem spec_l1Pairs.s2 (v0 : List (List Int)) (v1 : Int) (v2 : Int) (v3 : List (List Int)) (v4 : Int) (v5 : Int) : Sub spec_l1Pairs.mk (spec_l1Pairs.t2 some spec_l1Pairs.l2 v0 v1 v2 v3 v4 v5) (spec_l1Pairs.t2 (fun b => some (spec_l1Pairs.mk b)) spec_l1Pairs.q2 v0 v1 v2 v3 v4 v5) := by
  unfold spec_l1Pairs.t2
  repeat' first | exact Sub.ret | exact Sub.none | exact Sub.loop | apply Sub.cond | (apply Sub.bind; intro _)
theorem spec_l1Pairs.eq2 (v0 : List (List Int)) (v1 : Int) (v2 : Int) (v3 : List (List Int)) (v4 : Int) (v5 : Int) {b : Bool} (h : spec_l1Pairs.t2 some spec_l1Pairs.l2 v0 v1 v2 v3 v4 v5 = some b) : spec_l1Pairs.l2 v0 v1 v2 v3 v4 v5 = some b := tOf_intro spec_l1Pairs.un (fun _ => by kernel_rfl) (loopAtL_step ((spec_l1Pairs.k2 v0 v1 v2 v3 v4 v5).trans (spec_l1Pairs.s2 v0 v1 v2 v3 v4 v5 b h)))
noncomputable def spec_l3Left.q7 (v0 : List (List Int)) (v1 : Int) (v2 : Int) (v3 : Int) (v4 : Bool) (v5 : List (List Int)) (v6 : Int) (v7 : Int) : Option R := loopAtL E (callT E tab) 102 Try.f102 2 [.r, .r, .l, .r, .b, .o, .r, .l, .b, .r, .l, .r, .b] (vc (.d .fro (.sl (.sl (.int .i64))) v0) :: vc (iL v1) :: nn 3 (vc (iL v2) :: vc (iL v3) :: vc (bL v4) :: nn 7 (vc (.d .fro (.sl (.sl (.int .i64))) v5) :: vc (iL v6) :: vc (iL v7) :: nn 17 ([]))))
noncomputable def spec_l3Left.l7 (v0 : List (List Int)) (v1 : Int) (v2 : Int) (v3 : Int) (v4 : Bool) (v5 : List (List Int)) (v6 : Int) (v7 : Int) : Option (Int) := tOf spec_l3Left.mk (spec_l3Left.q7 v0 v1 v2 v3 v4 v5 v6 v7)
noncomputable def spec_l3Left.q3 (v0 : List (List Int)) (v1 : Int) (v2 : Int) (v3 : Int) : Option R := loopAtL E (callT E tab) 102 Try.f102 2 [.r, .r, .l, .r, .b] (vc (.d .fro (.sl (.sl (.int .i64))) v0) :: vc (iL v1) :: nn 3 (vc (iL v2) :: vc (iL v3) :: nn 28 ([])))
noncomputable def spec_l3Left.l3 (v0 : List (List Int)) (v1 : Int) (v2 : Int) (v3 : Int) : Option (Int) := tOf spec_l3Left.mk (spec_l3Left.q3 v0 v1 v2 v3)
noncomputable def spec_l3Left.t {γ : Type} (ret : (Int) → Option γ) (lp7 : (List (List Int)) → Int → Int → Int → Bool → (List (List Int)) → Int → Int → Option γ) (lp3 : (List (List Int)) → Int → Int → Int → Option γ) (v0 : List (List Int)) (v1 : Int) : Option γ :=
  lp3 (v0) (v1) ((0 : Int)) ((0 : Int))
noncomputable def spec_l3Left.t7 {γ : Type} (ret : (Int) → Option γ) (lp7 : (List (List Int)) → Int → Int → Int → Bool → (List (List Int)) → Int → Int → Option γ) (lp3 : (List (List Int)) → Int → Int → Int → Option γ) (v0 : List (List Int)) (v1 : Int) (v2 : Int) (v3 : Int) (v4 : Bool) (v5 : List (List Int)) (v6 : Int) (v7 : Int) : Option γ :=
  bif Decidable.decide (v7 < v6) then
    bif Decidable.decide ((0 : Int) ≤ v7) then
      bif Decidable.decide (v7.toNat < v5.length) then
        bif v4 then
          lp7 (v0) (v1) (v2) (v3) (Bool.true) (v5) (v6) (Go.IntKind.i64.wrap (v7 + (1 : Int)))
        else
          bif Decidable.decide (Int.toNat (1 : Int) < (v5.getD v7.toNat []).length) then
            lp7 (v0) (v1) (v2) (v3) ((v5.getD v7.toNat []).getD (Int.toNat (1 : Int)) (0 : Int) == v3) (v5) (v6) (Go.IntKind.i64.wrap (v7 + (1 : Int)))
          else
            none
      else
        none
    else
      none
  else
    bif !v4 then
      lp3 (v0) (v1) (Go.IntKind.i64.wrap (v2 + (1 : Int))) (Go.IntKind.i64.wrap (v3 + (1 : Int)))
    else
      lp3 (v0) (v1) (v2) (Go.IntKind.i64.wrap (v3 + (1 : Int)))
noncomputable def spec_l3Left.t3 {γ : Type} (ret : (Int) → Option γ) (lp7 : (List (List Int)) → Int → Int → Int → Bool → (List (List Int)) → Int → Int → Option γ) (lp3 : (List (List Int)) → Int → Int → Int → Option γ) (v0 : List (List Int)) (v1 : Int) (v2 : Int) (v3 : Int) : Option γ :=
  bif Decidable.decide (v3 < v1) then
    lp7 (v0) (v1) (v2) (v3) (Bool.false) (v0) ((↑v0.length : Int)) ((0 : Int))
  else
    ret (v2)
theorem spec_l3Left.k (v0 : List (List Int)) (v1 : Int) : topL E (callT E tab) 102 Try.f102 (spec_l3Left.c v0 v1) = spec_l3Left.t (fun b => some (spec_l3Left.mk b)) spec_l3Left.q7 spec_l3Left.q3 v0 v1 := by kernel_rfl
theorem spec_l3Left.k7 (v0 : List (List Int)) (v1 : Int) (v2 : Int) (v3 : Int) (v4 : Bool) (v5 : List (List Int)) (v6 : Int) (v7 : Int) : roundL E (callT E tab) 102 Try.f102 2 [.r, .r, .l, .r, .b, .o, .r, .l, .b, .r, .l, .r, .b] (vc (.d .fro (.sl (.sl (.int .i64))) v0) :: vc (iL v1) :: nn 3 (vc (iL v2) :: vc (iL v3) :: vc (bL v4) :: nn 7 (vc (.d .fro (.sl (.sl (.int .i64))) v5) :: vc (iL v6) :: vc (iL v7) :: nn 17 ([])))) = spec_l3Left.t7 (fun b => some (spec_l3Left.mk b)) spec_l3Left.q7 spec_l3Left.q3 v0 v1 v2 v3 v4 v5 v6 v7 := by kernel_rfl
theorem spec_l3Left.k3 (v0 : List (List Int)) (v1 : Int) (v2 : Int) (v3 : Int) : roundL E (callT E tab) 102 Try.f102 2 [.r, .r, .l, .r, .b] (vc (.d .fro (.sl (.sl (.int .i64))) v0) :: vc (iL v1) :: nn 3 (vc (iL v2) :: vc (iL v3) :: nn 28 ([]))) = spec_l3Left.t3 (fun b => some (spec_l3Left.mk b)) spec_l3Left.q7 spec_l3Left.q3 v0 v1 v2 v3 := by kernel_rfl
theorem spec_l3Left.s (v0 : List (List Int)) (v1 : Int) : Sub spec_l3Left.mk (spec_l3Left.t some spec_l3Left.l7 spec_l3Left.l3 v0 v1) (spec_l3Left.t (fun b => some (spec_l3Left.mk b)) spec_l3Left.q7 spec_l3Left.q3 v0 v1) := by
  unfold spec_l3Left.t
  repeat' first | exact Sub.ret | exact Sub.none | exact Sub.loop | apply Sub.cond | (apply Sub.bind; intro _)
theorem spec_l3Left.eq (v0 : List (List Int)) (v1 : Int) {b : Int} (h : spec_l3Left.t some spec_l3Left.l7 spec_l3Left.l3 v0 v1 = some b) : spec_l3Left v0 v1 = some b := tOf_intro spec_l3Left.un (fun _ => by kernel_rfl) (vlim_fn (callT_le E tab) rfl rfl rfl ((spec_l3Left.k v0 v1).trans (spec_l3Left.s v0 v1 b h)))
theorem spec_l3Left.s7 (v0 : List (List Int)) (v1 : Int) (v2 : Int) (v3 : Int) (v4 : Bool) (v5 : List (List Int)) (v6 : Int) (v7 : Int) : Sub spec_l3Left.mk (spec_l3Left.t7 some spec_l3Left.l7 spec_l3Left.l3 v0 v1 v2 v3 v4 v5 v6 v7) (spec_l3Left.t7 (fun b => some (spec_l3Left.mk b)) spec_l3Left.q7 spec_l3Left.q3 v0 v1 v2 v3 v4 v5 v6 v7) := by
  unfold spec_l3Left.t7
  repeat' first | exact Sub.ret | exact Sub.none | exact Sub.loop | apply Sub.cond | (apply Sub.bind; intro _)
theorem spec_l3Left.eq7 (v0 : List (List Int)) (v1 : Int) (v2 : Int) (v3 : Int) (v4 : Bool) (v5 : List (List Int)) (v6 : Int) (v7 : Int) {b : Int} (h : spec_l3Left.t7 some spec_l3Left.l7 spec_l3Left.l3 v0 v1 v2 v3 v4 v5 v6 v7 = some b) : spec_l3Left.l7 v0 v1 v2 v3 v4 v5 v6 v7 = some b := tOf_intro spec_l3Left.un (fun _ => by kernel_rfl) (loopAtL_step ((spec_l3Left.k7 v0 v1 v2 v3 v4 v5 v6 v7).trans (spec_l3Left.s7 v0 v1 v2 v3 v4 v5 v6 v7 b h)))
theorem spec_l3Left.s3 (v0 : List (List Int)) (v1 : Int) (v2 : Int) (v3 : Int) : Sub spec_l3Left.mk (spec_l3Left.t3 some spec_l3Left.l7 spec_l3Left.l3 v0 v1 v2 v3) (spec_l3Left.t3 (fun b => some (spec_l3Left.mk b)) spec_l3Left.q7 spec_l3Left.q3 v0 v1 v2 v3) := by
  unfold spec_l3Left.t3
  repeat' first | exact Sub.ret | exact Sub.none | exact Sub.loop | apply Sub.cond | (apply Sub.bind; intro _)
theorem spec_l3Left.eq3 (v0 : List (List Int)) (v1 : Int) (v2 : Int) (v3 : Int) {b : Int} (h : spec_l3Left.t3 some spec_l3Left.l7 spec_l3Left.l3 v0 v1 v2 v3 = some b) : spec_l3Left.l3 v0 v1 v2 v3 = some b := tOf_intro spec_l3Left.un (fun _ => by kernel_rfl) (loopAtL_step ((spec_l3Left.k3 v0 v1 v2 v3).trans (spec_l3Left.s3 v0 v1 v2 v3 b h)))
noncomputable def spec_l3Join.q6 (v0 : List (List Int × Int)) (v1 : List (List Int)) (v2 : List (List Int × Int)) (v3 : List Int) (v4 : Int) (v5 : List (List Int × Int)) (v6 : Int) (v7 : Int) (v8 : List (List Int × Int)) (v9 : Int) (v10 : Int) : Option R := loopAtL E (callT E tab) 103 Try.f103 3 [.r, .r, .l, .r, .b, .o, .r, .r, .l, .b, .r, .r, .b] (nn 1 (vc (.d .fro (.sl (.pair (.sl (.int .i64)) (.int .i64))) v0) :: vc (.d .fro (.sl (.sl (.int .i64))) v1) :: nn 4 (vc (.d .sha (.sl (.pair (.sl (.int .i64)) (.int .i64))) v2) :: nn 1 (⟨(.box false), [.d .fro (.sl (.int .i64)) v3, iL v4], false, false, false, 0, 0⟩ :: nn 4 (vc (.d .fro (.sl (.pair (.sl (.int .i64)) (.int .i64))) v5) :: vc (iL v6) :: vc (iL v7) :: nn 3 (vc (.d .fro (.sl (.pair (.sl (.int .i64)) (.int .i64))) v8) :: vc (iL v9) :: vc (iL v10) :: nn 24 ([])))))))
noncomputable def spec_l3Join.l6 (v0 : List (List Int × Int)) (v1 : List (List Int)) (v2 : List (List Int × Int)) (v3 : List Int) (v4 : Int) (v5 : List (List Int × Int)) (v6 : Int) (v7 : Int) (v8 : List (List Int × Int)) (v9 : Int) (v10 : Int) : Option ((List (List Int × Int))) := tOf spec_l3Join.mk (spec_l3Join.q6 v0 v1 v2 v3 v4 v5 v6 v7 v8 v9 v10)
noncomputable def spec_l3Join.q3 (v0 : List (List Int × Int)) (v1 : List (List Int)) (v2 : List (List Int × Int)) (v3 : List (List Int × Int)) (v4 : Int) (v5 : Int) : Option R := loopAtL E (callT E tab) 103 Try.f103 3 [.r, .r, .l, .r, .b] (nn 1 (vc (.d .fro (.sl (.pair (.sl (.int .i64)) (.int .i64))) v0) :: vc (.d .fro (.sl (.sl (.int .i64))) v1) :: nn 4 (vc (.d .sha (.sl (.pair (.sl (.int .i64)) (.int .i64))) v2) :: nn 6 (vc (.d .fro (.sl (.pair (.sl (.int .i64)) (.int .i64))) v3) :: vc (iL v4) :: vc (iL v5) :: nn 30 ([])))))
noncomputable def spec_l3Join.l3 (v0 : List (List Int × Int)) (v1 : List (List Int)) (v2 : List (List Int × Int)) (v3 : List (List Int × Int)) (v4 : Int) (v5 : Int) : Option ((List (List Int × Int))) := tOf spec_l3Join.mk (spec_l3Join.q3 v0 v1 v2 v3 v4 v5)
noncomputable def spec_l3Join.t {γ : Type} (ret : ((List (List Int × Int))) → Option γ) (lp6 : (List (List Int × Int)) → (List (List Int)) → (List (List Int × Int)) → (List Int) → Int → (List (List Int × Int)) → Int → Int → (List (List Int × Int)) → Int → Int → Option γ) (lp3 : (List (List Int × Int)) → (List (List Int)) → (List (List Int × Int)) → (List (List Int × Int)) → Int → Int → Option γ) (v0 : List (List Int × Int)) (v1 : List (List Int × Int)) (v2 : List (List Int)) : Option γ :=
  lp3 (v1) (v2) ([]) (v0) ((↑v0.length : Int)) ((0 : Int))
noncomputable def spec_l3Join.t6 {γ : Type} (ret : ((List (List Int × Int))) → Option γ) (lp6 : (List (List Int × Int)) → (List (List Int)) → (List (List Int × Int)) → (List Int) → Int → (List (List Int × Int)) → Int → Int → (List (List Int × Int)) → Int → Int → Option γ) (lp3 : (List (List Int × Int)) → (List (List Int)) → (List (List Int × Int)) → (List (List Int × Int)) → Int → Int → Option γ) (v0 : List (List Int × Int)) (v1 : List (List Int)) (v2 : List (List Int × Int)) (v3 : List Int) (v4 : Int) (v5 : List (List Int × Int)) (v6 : Int) (v7 : Int) (v8 : List (List Int × Int)) (v9 : Int) (v10 : Int) : Option γ :=
  bif Decidable.decide (v10 < v9) then
    bif Decidable.decide ((0 : Int) ≤ v10) then
      bif Decidable.decide (v10.toNat < v8.length) then
        (spec_l1Join (v3) ((v8.getD v10.toNat ([], (0 : Int))).fst) (v1)).bind fun (r0 : (List Int) × Bool) =>
        bif r0.snd then
          (spec_l2Put (v2) (r0.fst) (Go.IntKind.i64.wrap (v4 * (v8.getD v10.toNat ([], (0 : Int))).snd))).bind fun (r1 : (List (List Int × Int))) =>
          lp6 (v0) (v1) (r1) (v3) (v4) (v5) (v6) (v7) (v8) (v9) (Go.IntKind.i64.wrap (v10 + (1 : Int)))
        else
          lp6 (v0) (v1) (v2) (v3) (v4) (v5) (v6) (v7) (v8) (v9) (Go.IntKind.i64.wrap (v10 + (1 : Int)))
      else
        none
    else
      none
  else
    lp3 (v0) (v1) (v2) (v5) (v6) (Go.IntKind.i64.wrap (v7 + (1 : Int)))
noncomputable def spec_l3Join.t3 {γ : Type} (ret : ((List (List Int × Int))) → Option γ) (lp6 : (List (List Int × Int)) → (List (List Int)) → (List (List Int × Int)) → (List Int) → Int → (List (List Int × Int)) → Int → Int → (List (List Int × Int)) → Int → Int → Option γ) (lp3 : (List (List Int × Int)) → (List (List Int)) → (List (List Int × Int)) → (List (List Int × Int)) → Int → Int → Option γ) (v0 : List (List Int × Int)) (v1 : List (List Int)) (v2 : List (List Int × Int)) (v3 : List (List Int × Int)) (v4 : Int) (v5 : Int) : Option γ :=
  bif Decidable.decide (v5 < v4) then
    bif Decidable.decide ((0 : Int) ≤ v5) then
      bif Decidable.decide (v5.toNat < v3.length) then
        lp6 (v0) (v1) (v2) ((v3.getD v5.toNat ([], (0 : Int))).fst) ((v3.getD v5.toNat ([], (0 : Int))).snd) (v3) (v4) (v5) (v0) ((↑v0.length : Int)) ((0 : Int))
      else
        none
    else
      none
  else
    ret (v2)
theorem spec_l3Join.k (v0 : List (List Int × Int)) (v1 : List (List Int × Int)) (v2 : List (List Int)) : topL E (callT E tab) 103 Try.f103 (spec_l3Join.c v0 v1 v2) = spec_l3Join.t (fun b => some (spec_l3Join.mk b)) spec_l3Join.q6 spec_l3Join.q3 v0 v1 v2 := by kernel_rfl
theorem spec_l3Join.k6 (v0 : List (List Int × Int)) (v1 : List (List Int)) (v2 : List (List Int × Int)) (v3 : List Int) (v4 : Int) (v5 : List (List Int × Int)) (v6 : Int) (v7 : Int) (v8 : List (List Int × Int)) (v9 : Int) (v10 : Int) : roundL E (callT E tab) 103 Try.f103 3 [.r, .r, .l, .r, .b, .o, .r, .r, .l, .b, .r, .r, .b] (nn 1 (vc (.d .fro (.sl (.pair (.sl (.int .i64)) (.int .i64))) v0) :: vc (.d .fro (.sl (.sl (.int .i64))) v1) :: nn 4 (vc (.d .sha (.sl (.pair (.sl (.int .i64)) (.int .i64))) v2) :: nn 1 (⟨(.box false), [.d .fro (.sl (.int .i64)) v3, iL v4], false, false, false, 0, 0⟩ :: nn 4 (vc (.d .fro (.sl (.pair (.sl (.int .i64)) (.int .i64))) v5) :: vc (iL v6) :: vc (iL v7) :: nn 3 (vc (.d .fro (.sl (.pair (.sl (.int .i64)) (.int .i64))) v8) :: vc (iL v9) :: vc (iL v10) :: nn 24 ([]))))))) = spec_l3Join.t6 (fun b => some (spec_l3Join.mk b)) spec_l3Join.q6 spec_l3Join.q3 v0 v1 v2 v3 v4 v5 v6 v7 v8 v9 v10 := by kernel_rfl
theorem spec_l3Join.k3 (v0 : List (List Int × Int)) (v1 : List (List Int)) (v2 : List (List Int × Int)) (v3 : List (List Int × Int)) (v4 : Int) (v5 : Int) : roundL E (callT E tab) 103 Try.f103 3 [.r, .r, .l, .r, .b] (nn 1 (vc (.d .fro (.sl (.pair (.sl (.int .i64)) (.int .i64))) v0) :: vc (.d .fro (.sl (.sl (.int .i64))) v1) :: nn 4 (vc (.d .sha (.sl (.pair (.sl (.int .i64)) (.int .i64))) v2) :: nn 6 (vc (.d .fro (.sl (.pair (.sl (.int .i64)) (.int .i64))) v3) :: vc (iL v4) :: vc (iL v5) :: nn 30 ([]))))) = spec_l3Join.t3 (fun b => some (spec_l3Join.mk b)) spec_l3Join.q6 spec_l3Join.q3 v0 v1 v2 v3 v4 v5 := by kernel_rfl
theorem spec_l3Join.s (v0 : List (List Int × Int)) (v1 : List (List Int × Int)) (v2 : List (List Int)) : Sub spec_l3Join.mk (spec_l3Join.t some spec_l3Join.l6 spec_l3Join.l3 v0 v1 v2) (spec_l3Join.t (fun b => some (spec_l3Join.mk b)) spec_l3Join.q6 spec_l3Join.q3 v0 v1 v2) := by
  unfold spec_l3Join.t
  repeat' first | exact Sub.ret | exact Sub.none | exact Sub.loop | apply Sub.cond | (apply Sub.bind; intro _)
theorem spec_l3Join.eq (v0 : List (List Int × Int)) (v1 : List (List Int × Int)) (v2 : List (List Int)) {b : (List (List Int × Int))} (h : spec_l3Join.t some spec_l3Join.l6 spec_l3Join.l3 v0 v1 v2 = some b) : spec_l3Join v0 v1 v2 = some b := tOf_intro spec_l3Join.un (fun _ => by kernel_rfl) (vlim_fn (callT_le E tab) rfl rfl rfl ((spec_l3Join.k v0 v1 v2).trans (spec_l3Join.s v0 v1 v2 b h)))
theorem spec_l3Join.s6 (v0 : List (List Int × Int)) (v1 : List (List Int)) (v2 : List (List Int × Int)) (v3 : List Int) (v4 : Int) (v5 : List (List Int × Int)) (v6 : Int) (v7 : Int) (v8 : List (List Int × Int)) (v9 : Int) (v10 : Int) : Sub spec_l3Join.mk (spec_l3Join.t6 some spec_l3Join.l6 spec_l3Join.l3 v0 v1 v2 v3 v4 v5 v6 v7 v8 v9 v10) (spec_l3Join.t6 (fun b => some (spec_l3Join.mk b)) spec_l3Join.q6 spec_l3Join.q3 v0 v1 v2 v3 v4 v5 v6 v7 v8 v9 v10) := by
  unfold spec_l3Join.t6
  repeat' first | exact Sub.ret | exact Sub.none | exact Sub.loop | apply Sub.cond | (apply Sub.bind; intro _)
theorem spec_l3Join.eq6 (v0 : List (List Int × Int)) (v1 : List (List Int)) (v2 : List (List Int × Int)) (v3 : List Int) (v4 : Int) (v5 : List (List Int × Int)) (v6 : Int) (v7 : Int) (v8 : List (List Int × Int)) (v9 : Int) (v10 : Int) {b : (List (List Int × Int))} (h : spec_l3Join.t6 some spec_l3Join.l6 spec_l3Join.l3 v0 v1 v2 v3 v4 v5 v6 v7 v8 v9 v10 = some b) : spec_l3Join.l6 v0 v1 v2 v3 v4 v5 v6 v7 v8 v9 v10 = some b := tOf_intro spec_l3Join.un (fun _ => by kernel_rfl) (loopAtL_step ((spec_l3Join.k6 v0 v1 v2 v3 v4 v5 v6 v7 v8 v9 v10).trans (spec_l3Join.s6 v0 v1 v2 v3 v4 v5 v6 v7 v8 v9 v10 b h)))
theorem spec_l3Join.s3 (v0 : List (List Int × Int)) (v1 : List (List Int)) (v2 : List (List Int × Int)) (v3 : List (List Int × Int)) (v4 : Int) (v5 : Int) : Sub spec_l3Join.mk (spec_l3Join.t3 some spec_l3Join.l6 spec_l3Join.l3 v0 v1 v2 v3 v4 v5) (spec_l3Join.t3 (fun b => some (spec_l3Join.mk b)) spec_l3Join.q6 spec_l3Join.q3 v0 v1 v2 v3 v4 v5) := by
  unfold spec_l3Join.t3
  repeat' first | exact Sub.ret | exact Sub.none | exact Sub.loop | apply Sub.cond | (apply Sub.bind; intro _)
theorem spec_l3Join.eq3 (v0 : List (List Int × Int)) (v1 : List (List Int)) (v2 : List (List Int × Int)) (v3 : List (List Int × Int)) (v4 : Int) (v5 : Int) {b : (List (List Int × Int))} (h : spec_l3Join.t3 some spec_l3Join.l6 spec_l3Join.l3 v0 v1 v2 v3 v4 v5 = some b) : spec_l3Join.l3 v0 v1 v2 v3 v4 v5 = some b := tOf_intro spec_l3Join.un (fun _ => by kernel_rfl) (loopAtL_step ((spec_l3Join.k3 v0 v1 v2 v3 v4 v5).trans (spec_l3Join.s3 v0 v1 v2 v3 v4 v5 b h)))
noncomputable def spec_l1Join.q13 (v0 : List (List Int)) (v1 : List Int) (v2 : List Int) (v3 : Int) (v4 : Int) (v5 : Bool) (v6 : List Int) (v7 : Int) (v8 : Int) (v9 : List (List Int)) (v10 : Int) (v11 : Int) : Option R := loopAtL E (callT E tab) 136 Try.f136 3 [.r, .r, .r, .l, .r, .b, .o, .r, .r, .l, .b, .r, .r, .l, .r, .b] (nn 2 (vc (.d .fro (.sl (.sl (.int .i64))) v0) :: nn 3 (⟨(.box false), [.d .deep (.sl (.int .i64)) v1], false, false, false, 0, 0⟩ :: nn 1 (⟨(.box false), [.d .deep (.sl (.int .i64)) v2], false, false, false, 0, 0⟩ :: nn 2 (vc (iL v3) :: vc (iL v4) :: vc (bL v5) :: nn 31 (vc (.d .fro (.sl (.int .i64)) v6) :: vc (iL v7) :: vc (iL v8) :: nn 4 (vc (.d .fro (.sl (.sl (.int .i64))) v9) :: vc (iL v10) :: vc (iL v11) :: nn 26 ([]))))))))
noncomputable def spec_l1Join.l13 (v0 : List (List Int)) (v1 : List Int) (v2 : List Int) (v3 : Int) (v4 : Int) (v5 : Bool) (v6 : List Int) (v7 : Int) (v8 : Int) (v9 : List (List Int)) (v10 : Int) (v11 : Int) : Option ((List Int) × Bool) := tOf spec_l1Join.mk (spec_l1Join.q13 v0 v1 v2 v3 v4 v5 v6 v7 v8 v9 v10 v11)
noncomputable def spec_l1Join.q9 (v0 : List (List Int)) (v1 : List Int) (v2 : List Int) (v3 : List Int) (v4 : Int) (v5 : Int) : Option R := loopAtL E (callT E tab) 136 Try.f136 3 [.r, .r, .r, .l, .r, .b] (nn 2 (vc (.d .fro (.sl (.sl (.int .i64))) v0) :: nn 3 (⟨(.box false), [.d .deep (.sl (.int .i64)) v1], false, false, false, 0, 0⟩ :: nn 1 (⟨(.box false), [.d .deep (.sl (.int .i64)) v2], false, false, false, 0, 0⟩ :: nn 36 (vc (.d .fro (.sl (.int .i64)) v3) :: vc (iL v4) :: vc (iL v5) :: nn 33 ([]))))))
noncomputable def spec_l1Join.l9 (v0 : List (List Int)) (v1 : List Int) (v2 : List Int) (v3 : List Int) (v4 : Int) (v5 : Int) : Option ((List Int) × Bool) := tOf spec_l1Join.mk (spec_l1Join.q9 v0 v1 v2 v3 v4 v5)
noncomputable def spec_l1Join.q3 (v0 : List (List Int)) (v1 : List Int) (v2 : List Int) (v3 : List Int) (v4 : List Int) (v5 : List (List Int)) (v6 : Int) (v7 : Int) : Option R := loopAtL E (callT E tab) 136 Try.f136 3 [.r, .r, .l, .r, .b] (nn 2 (vc (.d .fro (.sl (.sl (.int .i64))) v0) :: ⟨(.box false), [.d .fro (.sl (.int .i64)) v1], false, false, false, 0, 0⟩ :: ⟨(.box false), [.d .fro (.sl (.int .i64)) v2], false, false, false, 0, 0⟩ :: nn 1 (⟨(.box false), [.d .deep (.sl (.int .i64)) v3], false, false, false, 0, 0⟩ :: nn 1 (⟨(.box false), [.d .deep (.sl (.int .i64)) v4], false, false, false, 0, 0⟩ :: nn 12 (vc (.d .fro (.sl (.sl (.int .i64))) v5) :: vc (iL v6) :: vc (iL v7) :: nn 57 ([]))))))
noncomputable def spec_l1Join.l3 (v0 : List (List Int)) (v1 : List Int) (v2 : List Int) (v3 : List Int) (v4 : List Int) (v5 : List (List Int)) (v6 : Int) (v7 : Int) : Option ((List Int) × Bool) := tOf spec_l1Join.mk (spec_l1Join.q3 v0 v1 v2 v3 v4 v5 v6 v7)
noncomputable def spec_l1Join.t {γ : Type} (ret : ((List Int) × Bool) → Option γ) (lp13 : (List (List Int)) → (List Int) → (List Int) → Int → Int → Bool → (List Int) → Int → Int → (List (List Int)) → Int → Int → Option γ) (lp9 : (List (List Int)) → (List Int) → (List Int) → (List Int) → Int → Int → Option γ) (lp3 : (List (List Int)) → (List Int) → (List Int) → (List Int) → (List Int) → (List (List Int)) → Int → Int → Option γ) (v0 : List Int) (v1 : List Int) (v2 : List (List Int)) : Option γ :=
  bif Decidable.decide (([] : List Int).length + v0.length ≤ (4294967296 : Nat)) then
    lp3 (v2) (v0) (v1) ([]) ([] ++ v0) (v2) ((↑v2.length : Int)) ((0 : Int))
  else
    none
noncomputable def spec_l1Join.t13 {γ : Type} (ret : ((List Int) × Bool) → Option γ) (lp13 : (List (List Int)) → (List Int) → (List Int) → Int → Int → Bool → (List Int) → Int → Int → (List (List Int)) → Int → Int → Option γ) (lp9 : (List (List Int)) → (List Int) → (List Int) → (List Int) → Int → Int → Option γ) (lp3 : (List (List Int)) → (List Int) → (List Int) → (List Int) → (List Int) → (List (List Int)) → Int → Int → Option γ) (v0 : List (List Int)) (v1 : List Int) (v2 : List Int) (v3 : Int) (v4 : Int) (v5 : Bool) (v6 : List Int) (v7 : Int) (v8 : Int) (v9 : List (List Int)) (v10 : Int) (v11 : Int) : Option γ :=
  bif Decidable.decide (v11 < v10) then
    bif Decidable.decide ((0 : Int) ≤ v11) then
      bif Decidable.decide (v11.toNat < v9.length) then
        bif v5 then
          lp13 (v0) (v1) (v2) (v3) (v4) (Bool.true) (v6) (v7) (v8) (v9) (v10) (Go.IntKind.i64.wrap (v11 + (1 : Int)))
        else
          bif Decidable.decide (Int.toNat (1 : Int) < (v9.getD v11.toNat []).length) then
            lp13 (v0) (v1) (v2) (v3) (v4) ((v9.getD v11.toNat []).getD (Int.toNat (1 : Int)) (0 : Int) == v3) (v6) (v7) (v8) (v9) (v10) (Go.IntKind.i64.wrap (v11 + (1 : Int)))
          else
            none
      else
        none
    else
      none
  else
    bif !v5 then
      bif Decidable.decide (v2.length + [v4].length ≤ (4294967296 : Nat)) then
        lp9 (v0) (v1) (v2 ++ [v4]) (v6) (v7) (Go.IntKind.i64.wrap (v8 + (1 : Int)))
      else
        none
    else
      lp9 (v0) (v1) (v2) (v6) (v7) (Go.IntKind.i64.wrap (v8 + (1 : Int)))
noncomputable def spec_l1Join.t9 {γ : Type} (ret : ((List Int) × Bool) → Option γ) (lp13 : (List (List Int)) → (List Int) → (List Int) → Int → Int → Bool → (List Int) → Int → Int → (List (List Int)) → Int → Int → Option γ) (lp9 : (List (List Int)) → (List Int) → (List Int) → (List Int) → Int → Int → Option γ) (lp3 : (List (List Int)) → (List Int) → (List Int) → (List Int) → (List Int) → (List (List Int)) → Int → Int → Option γ) (v0 : List (List Int)) (v1 : List Int) (v2 : List Int) (v3 : List Int) (v4 : Int) (v5 : Int) : Option γ :=
  bif Decidable.decide (v5 < v4) then
    bif Decidable.decide ((0 : Int) ≤ v5) then
      bif Decidable.decide (v5.toNat < v3.length) then
        lp13 (v0) (v1) (v2) (v5) (v3.getD v5.toNat (0 : Int)) (Bool.false) (v3) (v4) (v5) (v0) ((↑v0.length : Int)) ((0 : Int))
      else
        none
    else
      none
  else
    ret (v2, Decidable.decide ((↑v2.length : Int) ≤ (6 : Int)))
noncomputable def spec_l1Join.t3 {γ : Type} (ret : ((List Int) × Bool) → Option γ) (lp13 : (List (List Int)) → (List Int) → (List Int) → Int → Int → Bool → (List Int) → Int → Int → (List (List Int)) → Int → Int → Option γ) (lp9 : (List (List Int)) → (List Int) → (List Int) → (List Int) → Int → Int → Option γ) (lp3 : (List (List Int)) → (List Int) → (List Int) → (List Int) → (List Int) → (List (List Int)) → Int → Int → Option γ) (v0 : List (List Int)) (v1 : List Int) (v2 : List Int) (v3 : List Int) (v4 : List Int) (v5 : List (List Int)) (v6 : Int) (v7 : Int) : Option γ :=
  bif Decidable.decide (v7 < v6) then
    bif Decidable.decide ((0 : Int) ≤ v7) then
      bif Decidable.decide (v7.toNat < v5.length) then
        bif Decidable.decide (Int.toNat (0 : Int) < (v5.getD v7.toNat []).length) then
          bif Decidable.decide ((0 : Int) ≤ (v5.getD v7.toNat []).getD (Int.toNat (0 : Int)) (0 : Int)) then
            bif Decidable.decide (((v5.getD v7.toNat []).getD (Int.toNat (0 : Int)) (0 : Int)).toNat < v1.length) then
              bif Decidable.decide (Int.toNat (1 : Int) < (v5.getD v7.toNat []).length) then
                bif Decidable.decide ((0 : Int) ≤ (v5.getD v7.toNat []).getD (Int.toNat (1 : Int)) (0 : Int)) then
                  bif Decidable.decide (((v5.getD v7.toNat []).getD (Int.toNat (1 : Int)) (0 : Int)).toNat < v2.length) then
                    bif v1.getD ((v5.getD v7.toNat []).getD (Int.toNat (0 : Int)) (0 : Int)).toNat (0 : Int) !=   v2.getD ((v5.getD v7.toNat []).getD (Int.toNat (1 : Int)) (0 : Int)).toNat (0 : Int) then
                      ret ([], Bool.false)
                    else
                      lp3 (v0) (v1) (v2) (v3) (v4) (v5) (v6) (Go.IntKind.i64.wrap (v7 + (1 : Int)))
                  else
                    none
                else
                  none
              else
                none
            else
              none
          else
            none
        else
          none
      else
        none
    else
      none
  else
    lp9 (v0) (v3) (v4) (v2) ((↑v2.length : Int)) ((0 : Int))
theorem spec_l1Join.k (v0 : List Int) (v1 : List Int) (v2 : List (List Int)) : topL E (callT E tab) 136 Try.f136 (spec_l1Join.c v0 v1 v2) = spec_l1Join.t (fun b => some (spec_l1Join.mk b)) spec_l1Join.q13 spec_l1Join.q9 spec_l1Join.q3 v0 v1 v2 := by kernel_rfl
theorem spec_l1Join.k13 (v0 : List (List Int)) (v1 : List Int) (v2 : List Int) (v3 : Int) (v4 : Int) (v5 : Bool) (v6 : List Int) (v7 : Int) (v8 : Int) (v9 : List (List Int)) (v10 : Int) (v11 : Int) : roundL E (callT E tab) 136 Try.f136 3 [.r, .r, .r, .l, .r, .b, .o, .r, .r, .l, .b, .r, .r, .l, .r, .b] (nn 2 (vc (.d .fro (.sl (.sl (.int .i64))) v0) :: nn 3 (⟨(.box false), [.d .deep (.sl (.int .i64)) v1], false, false, false, 0, 0⟩ :: nn 1 (⟨(.box false), [.d .deep (.sl (.int .i64)) v2], false, false, false, 0, 0⟩ :: nn 2 (vc (iL v3) :: vc (iL v4) :: vc (bL v5) :: nn 31 (vc (.d .fro (.sl (.int .i64)) v6) :: vc (iL v7) :: vc (iL v8) :: nn 4 (vc (.d .fro (.sl (.sl (.int .i64))) v9) :: vc (iL v10) :: vc (iL v11) :: nn 26 ([])))))))) = spec_l1Join.t13 (fun b => some (spec_l1Join.mk b)) spec_l1Join.q13 spec_l1Join.q9 spec_l1Join.q3 v0 v1 v2 v3 v4 v5 v6 v7 v8 v9 v10 v11 := by kernel_rfl
theorem spec_l1Join.k9 (v0 : List (List Int)) (v1 : List Int) (v2 : List Int) (v3 : List Int) (v4 : Int) (v5 : Int) : roundL E (callT E tab) 136 Try.f136 3 [.r, .r, .r, .l, .r, .b] (nn 2 (vc (.d .fro (.sl (.sl (.int .i64))) v0) :: nn 3 (⟨(.box false), [.d .deep (.sl (.int .i64)) v1], false, false, false, 0, 0⟩ :: nn 1 (⟨(.box false), [.d .deep (.sl (.int .i64)) v2], false, false, false, 0, 0⟩ :: nn 36 (vc (.d .fro (.sl (.int .i64)) v3) :: vc (iL v4) :: vc (iL v5) :: nn 33 ([])))))) = spec_l1Join.t9 (fun b => some (spec_l1Join.mk b)) spec_l1Join.q13 spec_l1Join.q9 spec_l1Join.q3 v0 v1 v2 v3 v4 v5 := by kernel_rfl
theorem spec_l1Join.k3 (v0 : List (List Int)) (v1 : List Int) (v2 : List Int) (v3 : List Int) (v4 : List Int) (v5 : List (List Int)) (v6 : Int) (v7 : Int) : roundL E (callT E tab) 136 Try.f136 3 [.r, .r, .l, .r, .b] (nn 2 (vc (.d .fro (.sl (.sl (.int .i64))) v0) :: ⟨(.box false), [.d .fro (.sl (.int .i64)) v1], false, false, false, 0, 0⟩ :: ⟨(.box false), [.d .fro (.sl (.int .i64)) v2], false, false, false, 0, 0⟩ :: nn 1 (⟨(.box false), [.d .deep (.sl (.int .i64)) v3], false, false, false, 0, 0⟩ :: nn 1 (⟨(.box false), [.d .deep (.sl (.int .i64)) v4], false, false, false, 0, 0⟩ :: nn 12 (vc (.d .fro (.sl (.sl (.int .i64))) v5) :: vc (iL v6) :: vc (iL v7) :: nn 57 ([])))))) = spec_l1Join.t3 (fun b => some (spec_l1Join.mk b)) spec_l1Join.q13 spec_l1Join.q9 spec_l1Join.q3 v0 v1 v2 v3 v4 v5 v6 v7 := by kernel_rfl
theorem spec_l1Join.s (v0 : List Int) (v1 : List Int) (v2 : List (List Int)) : Sub spec_l1Join.mk (spec_l1Join.t some spec_l1Join.l13 spec_l1Join.l9 spec_l1Join.l3 v0 v1 v2) (spec_l1Join.t (fun b => some (spec_l1Join.mk b)) spec_l1Join.q13 spec_l1Join.q9 spec_l1Join.q3 v0 v1 v2) := by
  unfold spec_l1Join.t
  repeat' first | exact Sub.ret | exact Sub.none | exact Sub.loop | apply Sub.cond | (apply Sub.bind; intro _)
theorem spec_l1Join.eq (v0 : List Int) (v1 : List Int) (v2 : List (List Int)) {b : (List Int) × Bool} (h : spec_l1Join.t some spec_l1Join.l13 spec_l1Join.l9 spec_l1Join.l3 v0 v1 v2 = some b) : spec_l1Join v0 v1 v2 = some b := tOf_intro spec_l1Join.un (fun _ => by kernel_rfl) (vlim_fn (callT_le E tab) rfl rfl rfl ((spec_l1Join.k v0 v1 v2).trans (spec_l1Join.s v0 v1 v2 b h)))
theorem spec_l1Join.s13 (v0 : List (List Int)) (v1 : List Int) (v2 : List Int) (v3 : Int) (v4 : Int) (v5 : Bool) (v6 : List Int) (v7 : Int) (v8 : Int) (v9 : List (List Int)) (v10 : Int) (v11 : Int) : Sub spec_l1Join.mk (spec_l1Join.t13 some spec_l1Join.l13 spec_l1Join.l9 spec_l1Join.l3 v0 v1 v2 v3 v4 v5 v6 v7 v8 v9 v10 v11) (spec_l1Join.t13 (fun b => some (spec_l1Join.mk b)) spec_l1Join.q13 spec_l1Join.q9 spec_l1Join.q3 v0 v1 v2 v3 v4 v5 v6 v7 v8 v9 v10 v11) := by
  unfold spec_l1Join.t13
  repeat' first | exact Sub.ret | exact Sub.none | exact Sub.loop | apply Sub.cond | (apply Sub.bind; intro _)
theorem spec_l1Join.eq13 (v0 : List (List Int)) (v1 : List Int) (v2 : List Int) (v3 : Int) (v4 : Int) (v5 : Bool) (v6 : List Int) (v7 : Int) (v8 : Int) (v9 : List (List Int)) (v10 : Int) (v11 : Int) {b : (List Int) × Bool} (h : spec_l1Join.t13 some spec_l1Join.l13 spec_l1Join.l9 spec_l1Join.l3 v0 v1 v2 v3 v4 v5 v6 v7 v8 v9 v10 v11 = some b) : spec_l1Join.l13 v0 v1 v2 v3 v4 v5 v6 v7 v8 v9 v10 v11 = some b := tOf_intro spec_l1Join.un (fun _ => by kernel_rfl) (loopAtL_step ((spec_l1Join.k13 v0 v1 v2 v3 v4 v5 v6 v7 v8 v9 v10 v11).trans (spec_l1Join.s13 v0 v1 v2 v3 v4 v5 v6 v7 v8 v9 v10 v11 b h)))
theorem spec_l1Join.s9 (v0 : List (List Int)) (v1 : List Int) (v2 : List Int) (v3 : List Int) (v4 : Int) (v5 : Int) : Sub spec_l1Join.mk (spec_l1Join.t9 some spec_l1Join.l13 spec_l1Join.l9 spec_l1Join.l3 v0 v1 v2 v3 v4 v5) (spec_l1Join.t9 (fun b => some (spec_l1Join.mk b)) spec_l1Join.q13 spec_l1Join.q9 spec_l1Join.q3 v0 v1 v2 v3 v4 v5) := by
  unfold spec_l1Join.t9
  repeat' first | exact Sub.ret | exact Sub.none | exact Sub.loop | apply Sub.cond | (apply Sub.bind; intro _)
theorem spec_l1Join.eq9 (v0 : List (List Int)) (v1 : List Int) (v2 : List Int) (v3 : List Int) (v4 : Int) (v5 : Int) {b : (List Int) × Bool} (h : spec_l1Join.t9 some spec_l1Join.l13 spec_l1Join.l9 spec_l1Join.l3 v0 v1 v2 v3 v4 v5 = some b) : spec_l1Join.l9 v0 v1 v2 v3 v4 v5 = some b := tOf_intro spec_l1Join.un (fun _ => by kernel_rfl) (loopAtL_step ((spec_l1Join.k9 v0 v1 v2 v3 v4 v5).trans (spec_l1Join.s9 v0 v1 v2 v3 v4 v5 b h)))
theorem spec_l1Join.s3 (v0 : List (List Int)) (v1 : List Int) (v2 : List Int) (v3 : List Int) (v4 : List Int) (v5 : List (List Int)) (v6 : Int) (v7 : Int) : Sub spec_l1Join.mk (spec_l1Join.t3 some spec_l1Join.l13 spec_l1Join.l9 spec_l1Join.l3 v0 v1 v2 v3 v4 v5 v6 v7) (spec_l1Join.t3 (fun b => some (spec_l1Join.mk b)) spec_l1Join.q13 spec_l1Join.q9 spec_l1Join.q3 v0 v1 v2 v3 v4 v5 v6 v7) := by
  unfold spec_l1Join.t3
  repeat' first | exact Sub.ret | exact Sub.none | exact Sub.loop | apply Sub.cond | (apply Sub.bind; intro _)
theorem spec_l1Join.eq3 (v0 : List (List Int)) (v1 : List Int) (v2 : List Int) (v3 : List Int) (v4 : List Int) (v5 : List (List Int)) (v6 : Int) (v7 : Int) {b : (List Int) × Bool} (h : spec_l1Join.t3 some spec_l1Join.l13 spec_l1Join.l9 spec_l1Join.l3 v0 v1 v2 v3 v4 v5 v6 v7 = some b) : spec_l1Join.l3 v0 v1 v2 v3 v4 v5 v6 v7 = some b := tOf_intro spec_l1Join.un (fun _ => by kernel_rfl) (loopAtL_step ((spec_l1Join.k3 v0 v1 v2 v3 v4 v5 v6 v7).trans (spec_l1Join.s3 v0 v1 v2 v3 v4 v5 v6 v7 b h)))
noncomputable def impl_CrossTables.t {γ : Type} (ret : (Int × (List (List Int × Int)) × Bool) → Option γ) (v0 : Int) (v1 : List (List Int × Int)) (v2 : Int) (v3 : List (List Int × Int)) : Option γ :=
  (impl_JoinTables (v0) (v1) (v2) (v3) ([])).bind fun (r0 : Int × (List (List Int × Int)) × Bool) =>
  ret (r0.fst, r0.snd.fst, r0.snd.snd)
theorem impl_CrossTables.k (v0 : Int) (v1 : List (List Int × Int)) (v2 : Int) (v3 : List (List Int × Int)) : topL E (callT E tab) 52 Try.f52 (impl_CrossTables.c v0 v1 v2 v3) = impl_CrossTables.t (fun b => some (impl_CrossTables.mk b)) v0 v1 v2 v3 := by kernel_rfl
theorem impl_CrossTables.s (v0 : Int) (v1 : List (List Int × Int)) (v2 : Int) (v3 : List (List Int × Int)) : Sub impl_CrossTables.mk (impl_CrossTables.t some v0 v1 v2 v3) (impl_CrossTables.t (fun b => some (impl_CrossTables.mk b)) v0 v1 v2 v3) := by
  unfold impl_CrossTables.t
  repeat' first | exact Sub.ret | exact Sub.none | exact Sub.loop | apply Sub.cond | (apply Sub.bind; intro _)
theorem impl_CrossTables.eq (v0 : Int) (v1 : List (List Int × Int)) (v2 : Int) (v3 : List (List Int × Int)) {b : Int × (List (List Int × Int)) × Bool} (h : impl_CrossTables.t some v0 v1 v2 v3 = some b) : impl_CrossTables v0 v1 v2 v3 = some b := tOf_intro impl_CrossTables.un (fun _ => by kernel_rfl) (vlim_fn (callT_le E tab) rfl rfl rfl ((impl_CrossTables.k v0 v1 v2 v3).trans (impl_CrossTables.s v0 v1 v2 v3 b h)))
noncomputable def impl_JoinTables.t {γ : Type} (ret : (Int × (List (List Int × Int)) × Bool) → Option γ) (v0 : Int) (v1 : List (List Int × Int)) (v2 : Int) (v3 : List (List Int × Int)) (v4 : List (List Int)) : Option γ :=
  (impl_GoodTable (v0) (v1)).bind fun (r0 : Bool) =>
  bif !r0 then
    ret ((0 : Int), [], Bool.false)
  else
    (impl_GoodTable (v2) (v3)).bind fun (r1 : Bool) =>
    bif !r1 then
      ret ((0 : Int), [], Bool.false)
    else
      (impl_arePairs (v4) (v0) (v2)).bind fun (r2 : Bool) =>
      bif !r2 then
        ret ((0 : Int), [], Bool.false)
      else
        (impl_Table_join (v0) (v1) (v2) (v3) (v4)).bind fun (r3 : Int × (List (List Int × Int))) =>
        (impl_goodOrNone_467 (r3.fst) (r3.snd)).bind fun (r4 : Int × (List (List Int × Int)) × Bool) =>
        ret (r4.fst, r4.snd.fst, r4.snd.snd)
theorem impl_JoinTables.k (v0 : Int) (v1 : List (List Int × Int)) (v2 : Int) (v3 : List (List Int × Int)) (v4 : List (List Int)) : topL E (callT E tab) 56 Try.f56 (impl_JoinTables.c v0 v1 v2 v3 v4) = impl_JoinTables.t (fun b => some (impl_JoinTables.mk b)) v0 v1 v2 v3 v4 := by kernel_rfl
theorem impl_JoinTables.s (v0 : Int) (v1 : List (List Int × Int)) (v2 : Int) (v3 : List (List Int × Int)) (v4 : List (List Int)) : Sub impl_JoinTables.mk (impl_JoinTables.t some v0 v1 v2 v3 v4) (impl_JoinTables.t (fun b => some (impl_JoinTables.mk b)) v0 v1 v2 v3 v4) := by
  unfold impl_JoinTables.t
  repeat' first | exact Sub.ret | exact Sub.none | exact Sub.loop | apply Sub.cond | (apply Sub.bind; intro _)
theorem impl_JoinTables.eq (v0 : Int) (v1 : List (List Int × Int)) (v2 : Int) (v3 : List (List Int × Int)) (v4 : List (List Int)) {b : Int × (List (List Int × Int)) × Bool} (h : impl_JoinTables.t some v0 v1 v2 v3 v4 = some b) : impl_JoinTables v0 v1 v2 v3 v4 = some b := tOf_intro impl_JoinTables.un (fun _ => by kernel_rfl) (vlim_fn (callT_le E tab) rfl rfl rfl ((impl_JoinTables.k v0 v1 v2 v3 v4).trans (impl_JoinTables.s v0 v1 v2 v3 v4 b h)))
noncomputable def impl_arePairs.t {γ : Type} (ret : (Bool) → Option γ) (v0 : List (List Int)) (v1 : Int) (v2 : Int) : Option γ :=
  bif Decidable.decide ((↑v0.length : Int) ≤ (6 : Int)) then
    (impl_areAll_int_impl_arePairs_1 (v0) (v1) (v2)).bind fun (r0 : Bool) =>
    ret (r0)
  else
    ret (Bool.false)
theorem impl_arePairs.k (v0 : List (List Int)) (v1 : Int) (v2 : Int) : topL E (callT E tab) 104 Try.f104 (impl_arePairs.c v0 v1 v2) = impl_arePairs.t (fun b => some (impl_arePairs.mk b)) v0 v1 v2 := by kernel_rfl
theorem impl_arePairs.s (v0 : List (List Int)) (v1 : Int) (v2 : Int) : Sub impl_arePairs.mk (impl_arePairs.t some v0 v1 v2) (impl_arePairs.t (fun b => some (impl_arePairs.mk b)) v0 v1 v2) := by
  unfold impl_arePairs.t
  repeat' first | exact Sub.ret | exact Sub.none | exact Sub.loop | apply Sub.cond | (apply Sub.bind; intro _)
theorem impl_arePairs.eq (v0 : List (List Int)) (v1 : Int) (v2 : Int) {b : Bool} (h : impl_arePairs.t some v0 v1 v2 = some b) : impl_arePairs v0 v1 v2 = some b := tOf_intro impl_arePairs.un (fun _ => by kernel_rfl) (vlim_fn (callT_le E tab) rfl rfl rfl ((impl_arePairs.k v0 v1 v2).trans (impl_arePairs.s v0 v1 v2 b h)))
noncomputable def impl_areAll_int_impl_arePairs_1.t {γ : Type} (ret : (Bool) → Option γ) (v0 : List (List Int)) (v1 : Int) (v2 : Int) : Option γ :=
  (slices_ContainsFunc_int_int_impl_areAll_int_1_impl_arePairs_1 (v0) (v1) (v2)).bind fun (r0 : Bool) =>
  ret (!r0)
theorem impl_areAll_int_impl_arePairs_1.k (v0 : List (List Int)) (v1 : Int) (v2 : Int) : topL E (callT E tab) 137 Try.f137 (impl_areAll_int_impl_arePairs_1.c v0 v1 v2) = impl_areAll_int_impl_arePairs_1.t (fun b => some (impl_areAll_int_impl_arePairs_1.mk b)) v0 v1 v2 := by kernel_rfl
theorem impl_areAll_int_impl_arePairs_1.s (v0 : List (List Int)) (v1 : Int) (v2 : Int) : Sub impl_areAll_int_impl_arePairs_1.mk (impl_areAll_int_impl_arePairs_1.t some v0 v1 v2) (impl_areAll_int_impl_arePairs_1.t (fun b => some (impl_areAll_int_impl_arePairs_1.mk b)) v0 v1 v2) := by
  unfold impl_areAll_int_impl_arePairs_1.t
  repeat' first | exact Sub.ret | exact Sub.none | exact Sub.loop | apply Sub.cond | (apply Sub.bind; intro _)
theorem impl_areAll_int_impl_arePairs_1.eq (v0 : List (List Int)) (v1 : Int) (v2 : Int) {b : Bool} (h : impl_areAll_int_impl_arePairs_1.t some v0 v1 v2 = some b) : impl_areAll_int_impl_arePairs_1 v0 v1 v2 = some b := tOf_intro impl_areAll_int_impl_arePairs_1.un (fun _ => by kernel_rfl) (vlim_fn (callT_le E tab) rfl rfl rfl ((impl_areAll_int_impl_arePairs_1.k v0 v1 v2).trans (impl_areAll_int_impl_arePairs_1.s v0 v1 v2 b h)))
noncomputable def slices_ContainsFunc_int_int_impl_areAll_int_1_impl_arePairs_1.t {γ : Type} (ret : (Bool) → Option γ) (v0 : List (List Int)) (v1 : Int) (v2 : Int) : Option γ :=
  (slices_IndexFunc_int_int_impl_areAll_int_1_impl_arePairs_1 (v0) (v1) (v2)).bind fun (r0 : Int) =>
  ret (Decidable.decide (r0 ≥ (0 : Int)))
theorem slices_ContainsFunc_int_int_impl_areAll_int_1_impl_arePairs_1.k (v0 : List (List Int)) (v1 : Int) (v2 : Int) : topL E (callT E tab) 150 Try.f150 (slices_ContainsFunc_int_int_impl_areAll_int_1_impl_arePairs_1.c v0 v1 v2) = slices_ContainsFunc_int_int_impl_areAll_int_1_impl_arePairs_1.t (fun b => some (slices_ContainsFunc_int_int_impl_areAll_int_1_impl_arePairs_1.mk b)) v0 v1 v2 := by kernel_rfl
theorem slices_ContainsFunc_int_int_impl_areAll_int_1_impl_arePairs_1.s (v0 : List (List Int)) (v1 : Int) (v2 : Int) : Sub slices_ContainsFunc_int_int_impl_areAll_int_1_impl_arePairs_1.mk (slices_ContainsFunc_int_int_impl_areAll_int_1_impl_arePairs_1.t some v0 v1 v2) (slices_ContainsFunc_int_int_impl_areAll_int_1_impl_arePairs_1.t (fun b => some (slices_ContainsFunc_int_int_impl_areAll_int_1_impl_arePairs_1.mk b)) v0 v1 v2) := by
  unfold slices_ContainsFunc_int_int_impl_areAll_int_1_impl_arePairs_1.t
  repeat' first | exact Sub.ret | exact Sub.none | exact Sub.loop | apply Sub.cond | (apply Sub.bind; intro _)
theorem slices_ContainsFunc_int_int_impl_areAll_int_1_impl_arePairs_1.eq (v0 : List (List Int)) (v1 : Int) (v2 : Int) {b : Bool} (h : slices_ContainsFunc_int_int_impl_areAll_int_1_impl_arePairs_1.t some v0 v1 v2 = some b) : slices_ContainsFunc_int_int_impl_areAll_int_1_impl_arePairs_1 v0 v1 v2 = some b := tOf_intro slices_ContainsFunc_int_int_impl_areAll_int_1_impl_arePairs_1.un (fun _ => by kernel_rfl) (vlim_fn (callT_le E tab) rfl rfl rfl ((slices_ContainsFunc_int_int_impl_areAll_int_1_impl_arePairs_1.k v0 v1 v2).trans (slices_ContainsFunc_int_int_impl_areAll_int_1_impl_arePairs_1.s v0 v1 v2 b h)))
noncomputable def slices_IndexFunc_int_int_impl_areAll_int_1_impl_arePairs_1.q2 (v0 : List (List Int)) (v1 : Int) (v2 : Int) (v3 : Int) (v4 : Int) : Option R := loopAtL E (callT E tab) 160 Try.f160 2 [.r, .l, .r, .b] (vc (.d .fro (.sl (.sl (.int .i64))) v0) :: vc (.fn 151 [.rp [.fn 138 [.rp [iL v1] 0, .rp [iL v2] 0]] 0]) :: nn 5 (vc (iL v3) :: vc (iL v4) :: nn 10 ([])))
noncomputable def slices_IndexFunc_int_int_impl_areAll_int_1_impl_arePairs_1.l2 (v0 : List (List Int)) (v1 : Int) (v2 : Int) (v3 : Int) (v4 : Int) : Option (Int) := tOf slices_IndexFunc_int_int_impl_areAll_int_1_impl_arePairs_1.mk (slices_IndexFunc_int_int_impl_areAll_int_1_impl_arePairs_1.q2 v0 v1 v2 v3 v4)
noncomputable def slices_IndexFunc_int_int_impl_areAll_int_1_impl_arePairs_1.t {γ : Type} (ret : (Int) → Option γ) (lp2 : (List (List Int)) → Int → Int → Int → Int → Option γ) (v0 : List (List Int)) (v1 : Int) (v2 : Int) : Option γ :=
  lp2 (v0) (v1) (v2) ((↑v0.length : Int)) ((0 : Int))
noncomputable def slices_IndexFunc_int_int_impl_areAll_int_1_impl_arePairs_1.t2 {γ : Type} (ret : (Int) → Option γ) (lp2 : (List (List Int)) → Int → Int → Int → Int → Option γ) (v0 : List (List Int)) (v1 : Int) (v2 : Int) (v3 : Int) (v4 : Int) : Option γ :=
  bif Decidable.decide (v4 < v3) then
    bif Decidable.decide ((0 : Int) ≤ v4) then
      bif Decidable.decide (v4.toNat < v0.length) then
        (impl_areAll_int_1_impl_arePairs_1 (v0.getD v4.toNat []) (v1) (v2)).bind fun (r0 : Bool) =>
        bif r0 then
          ret (v4)
        else
          lp2 (v0) (v1) (v2) (v3) (Go.IntKind.i64.wrap (v4 + (1 : Int)))
      else
        none
    else
      none
  else
    ret ((-1 : Int))
theorem slices_IndexFunc_int_int_impl_areAll_int_1_impl_arePairs_1.k (v0 : List (List Int)) (v1 : Int) (v2 : Int) : topL E (callT E tab) 160 Try.f160 (slices_IndexFunc_int_int_impl_areAll_int_1_impl_arePairs_1.c v0 v1 v2) = slices_IndexFunc_int_int_impl_areAll_int_1_impl_arePairs_1.t (fun b => some (slices_IndexFunc_int_int_impl_areAll_int_1_impl_arePairs_1.mk b)) slices_IndexFunc_int_int_impl_areAll_int_1_impl_arePairs_1.q2 v0 v1 v2 := by kernel_rfl
theorem slices_IndexFunc_int_int_impl_areAll_int_1_impl_arePairs_1.k2 (v0 : List (List Int)) (v1 : Int) (v2 : Int) (v3 : Int) (v4 : Int) : roundL E (callT E tab) 160 Try.f160 2 [.r, .l, .r, .b] (vc (.d .fro (.sl (.sl (.int .i64))) v0) :: vc (.fn 151 [.rp [.fn 138 [.rp [iL v1] 0, .rp [iL v2] 0]] 0]) :: nn 5 (vc (iL v3) :: vc (iL v4) :: nn 10 ([]))) = slices_IndexFunc_int_int_impl_areAll_int_1_impl_arePairs_1.t2 (fun b => some (slices_IndexFunc_int_int_impl_areAll_int_1_impl_arePairs_1.mk b)) slices_IndexFunc_int_int_impl_areAll_int_1_impl_arePairs_1.q2 v0 v1 v2 v3 v4 := by kernel_rfl
theorem slices_IndexFunc_int_int_impl_areAll_int_1_impl_arePairs_1.s (v0 : List (List Int)) (v1 : Int) (v2 : Int) : Sub slices_IndexFunc_int_int_impl_areAll_int_1_impl_arePairs_1.mk (slices_IndexFunc_int_int_impl_areAll_int_1_impl_arePairs_1.t some slices_IndexFunc_int_int_impl_areAll_int_1_impl_arePairs_1.l2 v0 v1 v2) (slices_IndexFunc_int_int_impl_areAll_int_1_impl_arePairs_1.t (fun b => some (slices_IndexFunc_int_int_impl_areAll_int_1_impl_arePairs_1.mk b)) slices_IndexFunc_int_int_impl_areAll_int_1_impl_arePairs_1.q2 v0 v1 v2) := by
  unfold slices_IndexFunc_int_int_impl_areAll_int_1_impl_arePairs_1.t
  repeat' first | exact Sub.ret | exact Sub.none | exact Sub.loop | apply Sub.cond | (apply Sub.bind; intro _)
theorem slices_IndexFunc_int_int_impl_areAll_int_1_impl_arePairs_1.eq (v0 : List (List Int)) (v1 : Int) (v2 : Int) {b : Int} (h : slices_IndexFunc_int_int_impl_areAll_int_1_impl_arePairs_1.t some slices_IndexFunc_int_int_impl_areAll_int_1_impl_arePairs_1.l2 v0 v1 v2 = some b) : slices_IndexFunc_int_int_impl_areAll_int_1_impl_arePairs_1 v0 v1 v2 = some b := tOf_intro slices_IndexFunc_int_int_impl_areAll_int_1_impl_arePairs_1.un (fun _ => by kernel_rfl) (vlim_fn (callT_le E tab) rfl rfl rfl ((slices_IndexFunc_int_int_impl_areAll_int_1_impl_arePairs_1.k v0 v1 v2).trans (slices_IndexFunc_int_int_impl_areAll_int_1_impl_arePairs_1.s v0 v1 v2 b h)))
theorem slices_IndexFunc_int_int_impl_areAll_int_1_impl_arePairs_1.s2 (v0 : List (List Int)) (v1 : Int) (v2 : Int) (v3 : Int) (v4 : Int) : Sub slices_IndexFunc_int_int_impl_areAll_int_1_impl_arePairs_1.mk (slices_IndexFunc_int_int_impl_areAll_int_1_impl_arePairs_1.t2 some slices_IndexFunc_int_int_impl_areAll_int_1_impl_arePairs_1.l2 v0 v1 v2 v3 v4) (slices_IndexFunc_int_int_impl_areAll_int_1_impl_arePairs_1.t2 (fun b => some (slices_IndexFunc_int_int_impl_areAll_int_1_impl_arePairs_1.mk b)) slices_IndexFunc_int_int_impl_areAll_int_1_impl_arePairs_1.q2 v0 v1 v2 v3 v4) := by
  unfold slices_IndexFunc_int_int_impl_areAll_int_1_impl_arePairs_1.t2
  repeat' first | exact Sub.ret | exact Sub.none | exact Sub.loop | apply Sub.cond | (apply Sub.bind; intro _)
theorem slices_IndexFunc_int_int_impl_areAll_int_1_impl_arePairs_1.eq2 (v0 : List (List Int)) (v1 : Int) (v2 : Int) (v3 : Int) (v4 : Int) {b : Int} (h : slices_IndexFunc_int_int_impl_areAll_int_1_impl_arePairs_1.t2 some slices_IndexFunc_int_int_impl_areAll_int_1_impl_arePairs_1.l2 v0 v1 v2 v3 v4 = some b) : slices_IndexFunc_int_int_impl_areAll_int_1_impl_arePairs_1.l2 v0 v1 v2 v3 v4 = some b := tOf_intro slices_IndexFunc_int_int_impl_areAll_int_1_impl_arePairs_1.un (fun _ => by kernel_rfl) (loopAtL_step ((slices_IndexFunc_int_int_impl_areAll_int_1_impl_arePairs_1.k2 v0 v1 v2 v3 v4).trans (slices_IndexFunc_int_int_impl_areAll_int_1_impl_arePairs_1.s2 v0 v1 v2 v3 v4 b h)))
noncomputable def impl_areAll_int_1_impl_arePairs_1.t {γ : Type} (ret : (Bool) → Option γ) (v0 : List Int) (v1 : Int) (v2 : Int) : Option γ :=
  (impl_arePairs_1 (v0) (v1) (v2)).bind fun (r0 : Bool) =>
  ret (!r0)
theorem impl_areAll_int_1_impl_arePairs_1.k (v0 : List Int) (v1 : Int) (v2 : Int) : topL E (callT E tab) 151 Try.f151 (impl_areAll_int_1_impl_arePairs_1.c v0 v1 v2) = impl_areAll_int_1_impl_arePairs_1.t (fun b => some (impl_areAll_int_1_impl_arePairs_1.mk b)) v0 v1 v2 := by kernel_rfl
theorem impl_areAll_int_1_impl_arePairs_1.s (v0 : List Int) (v1 : Int) (v2 : Int) : Sub impl_areAll_int_1_impl_arePairs_1.mk (impl_areAll_int_1_impl_arePairs_1.t some v0 v1 v2) (impl_areAll_int_1_impl_arePairs_1.t (fun b => some (impl_areAll_int_1_impl_arePairs_1.mk b)) v0 v1 v2) := by
  unfold impl_areAll_int_1_impl_arePairs_1.t
  repeat' first | exact Sub.ret | exact Sub.none | exact Sub.loop | apply Sub.cond | (apply Sub.bind; intro _)
theorem impl_areAll_int_1_impl_arePairs_1.eq (v0 : List Int) (v1 : Int) (v2 : Int) {b : Bool} (h : impl_areAll_int_1_impl_arePairs_1.t some v0 v1 v2 = some b) : impl_areAll_int_1_impl_arePairs_1 v0 v1 v2 = some b := tOf_intro impl_areAll_int_1_impl_arePairs_1.un (fun _ => by kernel_rfl) (vlim_fn (callT_le E tab) rfl rfl rfl ((impl_areAll_int_1_impl_arePairs_1.k v0 v1 v2).trans (impl_areAll_int_1_impl_arePairs_1.s v0 v1 v2 b h)))
noncomputable def impl_arePairs_1.t {γ : Type} (ret : (Bool) → Option γ) (v0 : List Int) (v1 : Int) (v2 : Int) : Option γ :=
  bif (↑v0.length : Int) == (2 : Int) then
    bif Decidable.decide (Int.toNat (0 : Int) < v0.length) then
      (impl_isPlace (v0.getD (Int.toNat (0 : Int)) (0 : Int)) (v1)).bind fun (r0 : Bool) =>
      bif r0 then
        bif Decidable.decide (Int.toNat (1 : Int) < v0.length) then
          (impl_isPlace (v0.getD (Int.toNat (1 : Int)) (0 : Int)) (v2)).bind fun (r1 : Bool) =>
          ret (r1)
        else
          none
      else
        ret (Bool.false)
    else
      none
  else
    ret (Bool.false)
theorem impl_arePairs_1.k (v0 : List Int) (v1 : Int) (v2 : Int) : topL E (callT E tab) 138 Try.f138 (impl_arePairs_1.c v0 v1 v2) = impl_arePairs_1.t (fun b => some (impl_arePairs_1.mk b)) v0 v1 v2 := by kernel_rfl
theorem impl_arePairs_1.s (v0 : List Int) (v1 : Int) (v2 : Int) : Sub impl_arePairs_1.mk (impl_arePairs_1.t some v0 v1 v2) (impl_arePairs_1.t (fun b => some (impl_arePairs_1.mk b)) v0 v1 v2) := by
  unfold impl_arePairs_1.t
  repeat' first | exact Sub.ret | exact Sub.none | exact Sub.loop | apply Sub.cond | (apply Sub.bind; intro _)
theorem impl_arePairs_1.eq (v0 : List Int) (v1 : Int) (v2 : Int) {b : Bool} (h : impl_arePairs_1.t some v0 v1 v2 = some b) : impl_arePairs_1 v0 v1 v2 = some b := tOf_intro impl_arePairs_1.un (fun _ => by kernel_rfl) (vlim_fn (callT_le E tab) rfl rfl rfl ((impl_arePairs_1.k v0 v1 v2).trans (impl_arePairs_1.s v0 v1 v2 b h)))
noncomputable def impl_Table_join.q6 (v0 : List (List Int)) (v1 : Int) (v2 : List (List Int × Int)) (v3 : Int) (v4 : List (List Int × Int)) (v5 : Int) (v6 : List (List Int × Int)) (v7 : List (List Int × Int)) (v8 : List Int) (v9 : Int) (v10 : List (List Int × Int)) (v11 : Int) (v12 : Int) (v13 : List (List Int × Int)) (v14 : Int) (v15 : Int) : Option R := loopAtL E (callT E tab) 105 Try.f105 3 [.r, .r, .l, .r, .b, .o, .r, .r, .l, .b, .r, .r, .b] (nn 2 (vc (.d .fro (.sl (.sl (.int .i64))) v0) :: ⟨(.box false), [iL v1, .d .fro (.sl (.pair (.sl (.int .i64)) (.int .i64))) v2], false, false, false, 0, 0⟩ :: ⟨(.box false), [iL v3, .d .fro (.sl (.pair (.sl (.int .i64)) (.int .i64))) v4], false, false, false, 0, 0⟩ :: nn 1 (⟨(.box false), [iL v5, .d .deep (.sl (.pair (.sl (.int .i64)) (.int .i64))) v6], false, false, false, 0, 0⟩ :: vc (.d .deep (.sl (.pair (.sl (.int .i64)) (.int .i64))) v7) :: nn 1 (⟨(.box false), [.d .fro (.sl (.int .i64)) v8, iL v9], false, false, false, 0, 0⟩ :: nn 5 (vc (.d .fro (.sl (.pair (.sl (.int .i64)) (.int .i64))) v10) :: vc (iL v11) :: vc (iL v12) :: nn 4 (vc (.d .fro (.sl (.pair (.sl (.int .i64)) (.int .i64))) v13) :: vc (iL v14) :: vc (iL v15) :: nn 34 ([])))))))
noncomputable def impl_Table_join.l6 (v0 : List (List Int)) (v1 : Int) (v2 : List (List Int × Int)) (v3 : Int) (v4 : List (List Int × Int)) (v5 : Int) (v6 : List (List Int × Int)) (v7 : List (List Int × Int)) (v8 : List Int) (v9 : Int) (v10 : List (List Int × Int)) (v11 : Int) (v12 : Int) (v13 : List (List Int × Int)) (v14 : Int) (v15 : Int) : Option (Int × (List (List Int × Int))) := tOf impl_Table_join.mk (impl_Table_join.q6 v0 v1 v2 v3 v4 v5 v6 v7 v8 v9 v10 v11 v12 v13 v14 v15)
noncomputable def impl_Table_join.q3 (v0 : List (List Int)) (v1 : Int) (v2 : List (List Int × Int)) (v3 : Int) (v4 : List (List Int × Int)) (v5 : Int) (v6 : List (List Int × Int)) (v7 : List (List Int × Int)) (v8 : List (List Int × Int)) (v9 : Int) (v10 : Int) : Option R := loopAtL E (callT E tab) 105 Try.f105 3 [.r, .r, .l, .r, .b] (nn 2 (vc (.d .fro (.sl (.sl (.int .i64))) v0) :: ⟨(.box false), [iL v1, .d .fro (.sl (.pair (.sl (.int .i64)) (.int .i64))) v2], false, false, false, 0, 0⟩ :: ⟨(.box false), [iL v3, .d .fro (.sl (.pair (.sl (.int .i64)) (.int .i64))) v4], false, false, false, 0, 0⟩ :: nn 1 (⟨(.box false), [iL v5, .d .deep (.sl (.pair (.sl (.int .i64)) (.int .i64))) v6], false, false, false, 0, 0⟩ :: vc (.d .deep (.sl (.pair (.sl (.int .i64)) (.int .i64))) v7) :: nn 7 (vc (.d .fro (.sl (.pair (.sl (.int .i64)) (.int .i64))) v8) :: vc (iL v9) :: vc (iL v10) :: nn 41 ([])))))
noncomputable def impl_Table_join.l3 (v0 : List (List Int)) (v1 : Int) (v2 : List (List Int × Int)) (v3 : Int) (v4 : List (List Int × Int)) (v5 : Int) (v6 : List (List Int × Int)) (v7 : List (List Int × Int)) (v8 : List (List Int × Int)) (v9 : Int) (v10 : Int) : Option (Int × (List (List Int × Int))) := tOf impl_Table_join.mk (impl_Table_join.q3 v0 v1 v2 v3 v4 v5 v6 v7 v8 v9 v10)
noncomputable def impl_Table_join.t {γ : Type} (ret : (Int × (List (List Int × Int))) → Option γ) (lp6 : (List (List Int)) → Int → (List (List Int × Int)) → Int → (List (List Int × Int)) → Int → (List (List Int × Int)) → (List (List Int × Int)) → (List Int) → Int → (List (List Int × Int)) → Int → Int → (List (List Int × Int)) → Int → Int → Option γ) (lp3 : (List (List Int)) → Int → (List (List Int × Int)) → Int → (List (List Int × Int)) → Int → (List (List Int × Int)) → (List (List Int × Int)) → (List (List Int × Int)) → Int → Int → Option γ) (v0 : Int) (v1 : List (List Int × Int)) (v2 : Int) (v3 : List (List Int × Int)) (v4 : List (List Int)) : Option γ :=
  lp3 (v4) (v0) (v1) (v2) (v3) ((0 : Int)) ([]) ([]) (v1) ((↑v1.length : Int)) ((0 : Int))
noncomputable def impl_Table_join.t6 {γ : Type} (ret : (Int × (List (List Int × Int))) → Option γ) (lp6 : (List (List Int)) → Int → (List (List Int × Int)) → Int → (List (List Int × Int)) → Int → (List (List Int × Int)) → (List (List Int × Int)) → (List Int) → Int → (List (List Int × Int)) → Int → Int → (List (List Int × Int)) → Int → Int → Option γ) (lp3 : (List (List Int)) → Int → (List (List Int × Int)) → Int → (List (List Int × Int)) → Int → (List (List Int × Int)) → (List (List Int × Int)) → (List (List Int × Int)) → Int → Int → Option γ) (v0 : List (List Int)) (v1 : Int) (v2 : List (List Int × Int)) (v3 : Int) (v4 : List (List Int × Int)) (v5 : Int) (v6 : List (List Int × Int)) (v7 : List (List Int × Int)) (v8 : List Int) (v9 : Int) (v10 : List (List Int × Int)) (v11 : Int) (v12 : Int) (v13 : List (List Int × Int)) (v14 : Int) (v15 : Int) : Option γ :=
  bif Decidable.decide (v15 < v14) then
    bif Decidable.decide ((0 : Int) ≤ v15) then
      bif Decidable.decide (v15.toNat < v13.length) then
        (impl_joined (v8) ((v13.getD v15.toNat ([], (0 : Int))).fst) (v0)).bind fun (r0 : (List Int) × Bool) =>
        bif r0.snd then
          bif Decidable.decide   (v7.length + [(r0.fst, Go.IntKind.i64.wrap (v9 * (v13.getD v15.toNat ([], (0 : Int))).snd))].length ≤     (4294967296 : Nat)) then
            lp6 (v0) (v1) (v2) (v3) (v4) (v5) (v6) (v7 ++ [(r0.fst, Go.IntKind.i64.wrap (v9 * (v13.getD v15.toNat ([], (0 : Int))).snd))]) (v8) (v9) (v10) (v11) (v12) (v13) (v14) (Go.IntKind.i64.wrap (v15 + (1 : Int)))
          else
            none
        else
          lp6 (v0) (v1) (v2) (v3) (v4) (v5) (v6) (v7) (v8) (v9) (v10) (v11) (v12) (v13) (v14) (Go.IntKind.i64.wrap (v15 + (1 : Int)))
      else
        none
    else
      none
  else
    lp3 (v0) (v1) (v2) (v3) (v4) (v5) (v6) (v7) (v10) (v11) (Go.IntKind.i64.wrap (v12 + (1 : Int)))
noncomputable def impl_Table_join.t3 {γ : Type} (ret : (Int × (List (List Int × Int))) → Option γ) (lp6 : (List (List Int)) → Int → (List (List Int × Int)) → Int → (List (List Int × Int)) → Int → (List (List Int × Int)) → (List (List Int × Int)) → (List Int) → Int → (List (List Int × Int)) → Int → Int → (List (List Int × Int)) → Int → Int → Option γ) (lp3 : (List (List Int)) → Int → (List (List Int × Int)) → Int → (List (List Int × Int)) → Int → (List (List Int × Int)) → (List (List Int × Int)) → (List (List Int × Int)) → Int → Int → Option γ) (v0 : List (List Int)) (v1 : Int) (v2 : List (List Int × Int)) (v3 : Int) (v4 : List (List Int × Int)) (v5 : Int) (v6 : List (List Int × Int)) (v7 : List (List Int × Int)) (v8 : List (List Int × Int)) (v9 : Int) (v10 : Int) : Option γ :=
  bif Decidable.decide (v10 < v9) then
    bif Decidable.decide ((0 : Int) ≤ v10) then
      bif Decidable.decide (v10.toNat < v8.length) then
        lp6 (v0) (v1) (v2) (v3) (v4) (v5) (v6) (v7) ((v8.getD v10.toNat ([], (0 : Int))).fst) ((v8.getD v10.toNat ([], (0 : Int))).snd) (v8) (v9) (v10) (v4) ((↑v4.length : Int)) ((0 : Int))
      else
        none
    else
      none
  else
    (impl_joinedColumns (v1) (v3) (v0)).bind fun (r1 : Int) =>
    (impl_summed (r1) ([v7])).bind fun (r2 : Int × (List (List Int × Int))) =>
    ret (r2.fst, r2.snd)
theorem impl_Table_join.k (v0 : Int) (v1 : List (List Int × Int)) (v2 : Int) (v3 : List (List Int × Int)) (v4 : List (List Int)) : topL E (callT E tab) 105 Try.f105 (impl_Table_join.c v0 v1 v2 v3 v4) = impl_Table_join.t (fun b => some (impl_Table_join.mk b)) impl_Table_join.q6 impl_Table_join.q3 v0 v1 v2 v3 v4 := by kernel_rfl
theorem impl_Table_join.k6 (v0 : List (List Int)) (v1 : Int) (v2 : List (List Int × Int)) (v3 : Int) (v4 : List (List Int × Int)) (v5 : Int) (v6 : List (List Int × Int)) (v7 : List (List Int × Int)) (v8 : List Int) (v9 : Int) (v10 : List (List Int × Int)) (v11 : Int) (v12 : Int) (v13 : List (List Int × Int)) (v14 : Int) (v15 : Int) : roundL E (callT E tab) 105 Try.f105 3 [.r, .r, .l, .r, .b, .o, .r, .r, .l, .b, .r, .r, .b] (nn 2 (vc (.d .fro (.sl (.sl (.int .i64))) v0) :: ⟨(.box false), [iL v1, .d .fro (.sl (.pair (.sl (.int .i64)) (.int .i64))) v2], false, false, false, 0, 0⟩ :: ⟨(.box false), [iL v3, .d .fro (.sl (.pair (.sl (.int .i64)) (.int .i64))) v4], false, false, false, 0, 0⟩ :: nn 1 (⟨(.box false), [iL v5, .d .deep (.sl (.pair (.sl (.int .i64)) (.int .i64))) v6], false, false, false, 0, 0⟩ :: vc (.d .deep (.sl (.pair (.sl (.int .i64)) (.int .i64))) v7) :: nn 1 (⟨(.box false), [.d .fro (.sl (.int .i64)) v8, iL v9], false, false, false, 0, 0⟩ :: nn 5 (vc (.d .fro (.sl (.pair (.sl (.int .i64)) (.int .i64))) v10) :: vc (iL v11) :: vc (iL v12) :: nn 4 (vc (.d .fro (.sl (.pair (.sl (.int .i64)) (.int .i64))) v13) :: vc (iL v14) :: vc (iL v15) :: nn 34 ([]))))))) = impl_Table_join.t6 (fun b => some (impl_Table_join.mk b)) impl_Table_join.q6 impl_Table_join.q3 v0 v1 v2 v3 v4 v5 v6 v7 v8 v9 v10 v11 v12 v13 v14 v15 := by kernel_rfl
theorem impl_Table_join.k3 (v0 : List (List Int)) (v1 : Int) (v2 : List (List Int × Int)) (v3 : Int) (v4 : List (List Int × Int)) (v5 : Int) (v6 : List (List Int × Int)) (v7 : List (List Int × Int)) (v8 : List (List Int × Int)) (v9 : Int) (v10 : Int) : roundL E (callT E tab) 105 Try.f105 3 [.r, .r, .l, .r, .b] (nn 2 (vc (.d .fro (.sl (.sl (.int .i64))) v0) :: ⟨(.box false), [iL v1, .d .fro (.sl (.pair (.sl (.int .i64)) (.int .i64))) v2], false, false, false, 0, 0⟩ :: ⟨(.box false), [iL v3, .d .fro (.sl (.pair (.sl (.int .i64)) (.int .i64))) v4], false, false, false, 0, 0⟩ :: nn 1 (⟨(.box false), [iL v5, .d .deep (.sl (.pair (.sl (.int .i64)) (.int .i64))) v6], false, false, false, 0, 0⟩ :: vc (.d .deep (.sl (.pair (.sl (.int .i64)) (.int .i64))) v7) :: nn 7 (vc (.d .fro (.sl (.pair (.sl (.int .i64)) (.int .i64))) v8) :: vc (iL v9) :: vc (iL v10) :: nn 41 ([]))))) = impl_Table_join.t3 (fun b => some (impl_Table_join.mk b)) impl_Table_join.q6 impl_Table_join.q3 v0 v1 v2 v3 v4 v5 v6 v7 v8 v9 v10 := by kernel_rfl
theorem impl_Table_join.s (v0 : Int) (v1 : List (List Int × Int)) (v2 : Int) (v3 : List (List Int × Int)) (v4 : List (List Int)) : Sub impl_Table_join.mk (impl_Table_join.t some impl_Table_join.l6 impl_Table_join.l3 v0 v1 v2 v3 v4) (impl_Table_join.t (fun b => some (impl_Table_join.mk b)) impl_Table_join.q6 impl_Table_join.q3 v0 v1 v2 v3 v4) := by
  unfold impl_Table_join.t
  repeat' first | exact Sub.ret | exact Sub.none | exact Sub.loop | apply Sub.cond | (apply Sub.bind; intro _)
theorem impl_Table_join.eq (v0 : Int) (v1 : List (List Int × Int)) (v2 : Int) (v3 : List (List Int × Int)) (v4 : List (List Int)) {b : Int × (List (List Int × Int))} (h : impl_Table_join.t some impl_Table_join.l6 impl_Table_join.l3 v0 v1 v2 v3 v4 = some b) : impl_Table_join v0 v1 v2 v3 v4 = some b := tOf_intro impl_Table_join.un (fun _ => by kernel_rfl) (vlim_fn (callT_le E tab) rfl rfl rfl ((impl_Table_join.k v0 v1 v2 v3 v4).trans (impl_Table_join.s v0 v1 v2 v3 v4 b h)))
theorem impl_Table_join.s6 (v0 : List (List Int)) (v1 : Int) (v2 : List (List Int × Int)) (v3 : Int) (v4 : List (List Int × Int)) (v5 : Int) (v6 : List (List Int × Int)) (v7 : List (List Int × Int)) (v8 : List Int) (v9 : Int) (v10 : List (List Int × Int)) (v11 : Int) (v12 : Int) (v13 : List (List Int × Int)) (v14 : Int) (v15 : Int) : Sub impl_Table_join.mk (impl_Table_join.t6 some impl_Table_join.l6 impl_Table_join.l3 v0 v1 v2 v3 v4 v5 v6 v7 v8 v9 v10 v11 v12 v13 v14 v15) (impl_Table_join.t6 (fun b => some (impl_Table_join.mk b)) impl_Table_join.q6 impl_Table_join.q3 v0 v1 v2 v3 v4 v5 v6 v7 v8 v9 v10 v11 v12 v13 v14 v15) := by
  unfold impl_Table_join.t6
  repeat' first | exact Sub.ret | exact Sub.none | exact Sub.loop | apply Sub.cond | (apply Sub.bind; intro _)
theorem impl_Table_join.eq6 (v0 : List (List Int)) (v1 : Int) (v2 : List (List Int × Int)) (v3 : Int) (v4 : List (List Int × Int)) (v5 : Int) (v6 : List (List Int × Int)) (v7 : List (List Int × Int)) (v8 : List Int) (v9 : Int) (v10 : List (List Int × Int)) (v11 : Int) (v12 : Int) (v13 : List (List Int × Int)) (v14 : Int) (v15 : Int) {b : Int × (List (List Int × Int))} (h : impl_Table_join.t6 some impl_Table_join.l6 impl_Table_join.l3 v0 v1 v2 v3 v4 v5 v6 v7 v8 v9 v10 v11 v12 v13 v14 v15 = some b) : impl_Table_join.l6 v0 v1 v2 v3 v4 v5 v6 v7 v8 v9 v10 v11 v12 v13 v14 v15 = some b := tOf_intro impl_Table_join.un (fun _ => by kernel_rfl) (loopAtL_step ((impl_Table_join.k6 v0 v1 v2 v3 v4 v5 v6 v7 v8 v9 v10 v11 v12 v13 v14 v15).trans (impl_Table_join.s6 v0 v1 v2 v3 v4 v5 v6 v7 v8 v9 v10 v11 v12 v13 v14 v15 b h)))
theorem impl_Table_join.s3 (v0 : List (List Int)) (v1 : Int) (v2 : List (List Int × Int)) (v3 : Int) (v4 : List (List Int × Int)) (v5 : Int) (v6 : List (List Int × Int)) (v7 : List (List Int × Int)) (v8 : List (List Int × Int)) (v9 : Int) (v10 : Int) : Sub impl_Table_join.mk (impl_Table_join.t3 some impl_Table_join.l6 impl_Table_join.l3 v0 v1 v2 v3 v4 v5 v6 v7 v8 v9 v10) (impl_Table_join.t3 (fun b => some (impl_Table_join.mk b)) impl_Table_join.q6 impl_Table_join.q3 v0 v1 v2 v3 v4 v5 v6 v7 v8 v9 v10) := by
  unfold impl_Table_join.t3
  repeat' first | exact Sub.ret | exact Sub.none | exact Sub.loop | apply Sub.cond | (apply Sub.bind; intro _)
theorem impl_Table_join.eq3 (v0 : List (List Int)) (v1 : Int) (v2 : List (List Int × Int)) (v3 : Int) (v4 : List (List Int × Int)) (v5 : Int) (v6 : List (List Int × Int)) (v7 : List (List Int × Int)) (v8 : List (List Int × Int)) (v9 : Int) (v10 : Int) {b : Int × (List (List Int × Int))} (h : impl_Table_join.t3 some impl_Table_join.l6 impl_Table_join.l3 v0 v1 v2 v3 v4 v5 v6 v7 v8 v9 v10 = some b) : impl_Table_join.l3 v0 v1 v2 v3 v4 v5 v6 v7 v8 v9 v10 = some b := tOf_intro impl_Table_join.un (fun _ => by kernel_rfl) (loopAtL_step ((impl_Table_join.k3 v0 v1 v2 v3 v4 v5 v6 v7 v8 v9 v10).trans (impl_Table_join.s3 v0 v1 v2 v3 v4 v5 v6 v7 v8 v9 v10 b h)))
noncomputable def impl_joined.t {γ : Type} (ret : ((List Int) × Bool) → Option γ) (v0 : List Int) (v1 : List Int) (v2 : List (List Int)) : Option γ :=
  (impl_areAll_int_impl_joined_1 (v2) (v0) (v1)).bind fun (r0 : Bool) =>
  bif !r0 then
    ret ([], Bool.false)
  else
    (impl_unpaired ((↑v1.length : Int)) (v2)).bind fun (r1 : (List Int)) =>
    (impl_Row_picked (v1) (r1)).bind fun (r2 : (List Int)) =>
    (slices_Concat_int_int ([v0, r2])).bind fun (r3 : (List Int)) =>
    ret (r3, Bool.true)
theorem impl_joined.k (v0 : List Int) (v1 : List Int) (v2 : List (List Int)) : topL E (callT E tab) 139 Try.f139 (impl_joined.c v0 v1 v2) = impl_joined.t (fun b => some (impl_joined.mk b)) v0 v1 v2 := by kernel_rfl
theorem impl_joined.s (v0 : List Int) (v1 : List Int) (v2 : List (List Int)) : Sub impl_joined.mk (impl_joined.t some v0 v1 v2) (impl_joined.t (fun b => some (impl_joined.mk b)) v0 v1 v2) := by
  unfold impl_joined.t
  repeat' first | exact Sub.ret | exact Sub.none | exact Sub.loop | apply Sub.cond | (apply Sub.bind; intro _)
theorem impl_joined.eq (v0 : List Int) (v1 : List Int) (v2 : List (List Int)) {b : (List Int) × Bool} (h : impl_joined.t some v0 v1 v2 = some b) : impl_joined v0 v1 v2 = some b := tOf_intro impl_joined.un (fun _ => by kernel_rfl) (vlim_fn (callT_le E tab) rfl rfl rfl ((impl_joined.k v0 v1 v2).trans (impl_joined.s v0 v1 v2 b h)))
noncomputable def impl_areAll_int_impl_joined_1.t {γ : Type} (ret : (Bool) → Option γ) (v0 : List (List Int)) (v1 : List Int) (v2 : List Int) : Option γ :=
  (slices_ContainsFunc_int_int_impl_areAll_int_1_impl_joined_1 (v0) (v1) (v2)).bind fun (r0 : Bool) =>
  ret (!r0)
theorem impl_areAll_int_impl_joined_1.k (v0 : List (List Int)) (v1 : List Int) (v2 : List Int) : topL E (callT E tab) 137 Try.f137 (impl_areAll_int_impl_joined_1.c v0 v1 v2) = impl_areAll_int_impl_joined_1.t (fun b => some (impl_areAll_int_impl_joined_1.mk b)) v0 v1 v2 := by kernel_rfl
theorem impl_areAll_int_impl_joined_1.s (v0 : List (List Int)) (v1 : List Int) (v2 : List Int) : Sub impl_areAll_int_impl_joined_1.mk (impl_areAll_int_impl_joined_1.t some v0 v1 v2) (impl_areAll_int_impl_joined_1.t (fun b => some (impl_areAll_int_impl_joined_1.mk b)) v0 v1 v2) := by
  unfold impl_areAll_int_impl_joined_1.t
  repeat' first | exact Sub.ret | exact Sub.none | exact Sub.loop | apply Sub.cond | (apply Sub.bind; intro _)
theorem impl_areAll_int_impl_joined_1.eq (v0 : List (List Int)) (v1 : List Int) (v2 : List Int) {b : Bool} (h : impl_areAll_int_impl_joined_1.t some v0 v1 v2 = some b) : impl_areAll_int_impl_joined_1 v0 v1 v2 = some b := tOf_intro impl_areAll_int_impl_joined_1.un (fun _ => by kernel_rfl) (vlim_fn (callT_le E tab) rfl rfl rfl ((impl_areAll_int_impl_joined_1.k v0 v1 v2).trans (impl_areAll_int_impl_joined_1.s v0 v1 v2 b h)))
noncomputable def slices_ContainsFunc_int_int_impl_areAll_int_1_impl_joined_1.t {γ : Type} (ret : (Bool) → Option γ) (v0 : List (List Int)) (v1 : List Int) (v2 : List Int) : Option γ :=
  (slices_IndexFunc_int_int_impl_areAll_int_1_impl_joined_1 (v0) (v1) (v2)).bind fun (r0 : Int) =>
  ret (Decidable.decide (r0 ≥ (0 : Int)))
theorem slices_ContainsFunc_int_int_impl_areAll_int_1_impl_joined_1.k (v0 : List (List Int)) (v1 : List Int) (v2 : List Int) : topL E (callT E tab) 150 Try.f150 (slices_ContainsFunc_int_int_impl_areAll_int_1_impl_joined_1.c v0 v1 v2) = slices_ContainsFunc_int_int_impl_areAll_int_1_impl_joined_1.t (fun b => some (slices_ContainsFunc_int_int_impl_areAll_int_1_impl_joined_1.mk b)) v0 v1 v2 := by kernel_rfl
theorem slices_ContainsFunc_int_int_impl_areAll_int_1_impl_joined_1.s (v0 : List (List Int)) (v1 : List Int) (v2 : List Int) : Sub slices_ContainsFunc_int_int_impl_areAll_int_1_impl_joined_1.mk (slices_ContainsFunc_int_int_impl_areAll_int_1_impl_joined_1.t some v0 v1 v2) (slices_ContainsFunc_int_int_impl_areAll_int_1_impl_joined_1.t (fun b => some (slices_ContainsFunc_int_int_impl_areAll_int_1_impl_joined_1.mk b)) v0 v1 v2) := by
  unfold slices_ContainsFunc_int_int_impl_areAll_int_1_impl_joined_1.t
  repeat' first | exact Sub.ret | exact Sub.none | exact Sub.loop | apply Sub.cond | (apply Sub.bind; intro _)
theorem slices_ContainsFunc_int_int_impl_areAll_int_1_impl_joined_1.eq (v0 : List (List Int)) (v1 : List Int) (v2 : List Int) {b : Bool} (h : slices_ContainsFunc_int_int_impl_areAll_int_1_impl_joined_1.t some v0 v1 v2 = some b) : slices_ContainsFunc_int_int_impl_areAll_int_1_impl_joined_1 v0 v1 v2 = some b := tOf_intro slices_ContainsFunc_int_int_impl_areAll_int_1_impl_joined_1.un (fun _ => by kernel_rfl) (vlim_fn (callT_le E tab) rfl rfl rfl ((slices_ContainsFunc_int_int_impl_areAll_int_1_impl_joined_1.k v0 v1 v2).trans (slices_ContainsFunc_int_int_impl_areAll_int_1_impl_joined_1.s v0 v1 v2 b h)))
noncomputable def slices_IndexFunc_int_int_impl_areAll_int_1_impl_joined_1.q2 (v0 : List (List Int)) (v1 : List Int) (v2 : List Int) (v3 : Int) (v4 : Int) : Option R := loopAtL E (callT E tab) 160 Try.f160 2 [.r, .l, .r, .b] (vc (.d .fro (.sl (.sl (.int .i64))) v0) :: vc (.fn 151 [.rp [.fn 152 [.rp [.d .fro (.sl (.int .i64)) v1] 0, .rp [.d .fro (.sl (.int .i64)) v2] 0]] 0]) :: nn 5 (vc (iL v3) :: vc (iL v4) :: nn 10 ([])))
noncomputable def slices_IndexFunc_int_int_impl_areAll_int_1_impl_joined_1.l2 (v0 : List (List Int)) (v1 : List Int) (v2 : List Int) (v3 : Int) (v4 : Int) : Option (Int) := tOf slices_IndexFunc_int_int_impl_areAll_int_1_impl_joined_1.mk (slices_IndexFunc_int_int_impl_areAll_int_1_impl_joined_1.q2 v0 v1 v2 v3 v4)
noncomputable def slices_IndexFunc_int_int_impl_areAll_int_1_impl_joined_1.t {γ : Type} (ret : (Int) → Option γ) (lp2 : (List (List Int)) → (List Int) → (List Int) → Int → Int → Option γ) (v0 : List (List Int)) (v1 : List Int) (v2 : List Int) : Option γ :=
  lp2 (v0) (v1) (v2) ((↑v0.length : Int)) ((0 : Int))
noncomputable def slices_IndexFunc_int_int_impl_areAll_int_1_impl_joined_1.t2 {γ : Type} (ret : (Int) → Option γ) (lp2 : (List (List Int)) → (List Int) → (List Int) → Int → Int → Option γ) (v0 : List (List Int)) (v1 : List Int) (v2 : List Int) (v3 : Int) (v4 : Int) : Option γ :=
  bif Decidable.decide (v4 < v3) then
    bif Decidable.decide ((0 : Int) ≤ v4) then
      bif Decidable.decide (v4.toNat < v0.length) then
        (impl_areAll_int_1_impl_joined_1 (v0.getD v4.toNat []) (v1) (v2)).bind fun (r0 : Bool) =>
        bif r0 then
          ret (v4)
        else
          lp2 (v0) (v1) (v2) (v3) (Go.IntKind.i64.wrap (v4 + (1 : Int)))
      else
        none
    else
      none
  else
    ret ((-1 : Int))
theorem slices_IndexFunc_int_int_impl_areAll_int_1_impl_joined_1.k (v0 : List (List Int)) (v1 : List Int) (v2 : List Int) : topL E (callT E tab) 160 Try.f160 (slices_IndexFunc_int_int_impl_areAll_int_1_impl_joined_1.c v0 v1 v2) = slices_IndexFunc_int_int_impl_areAll_int_1_impl_joined_1.t (fun b => some (slices_IndexFunc_int_int_impl_areAll_int_1_impl_joined_1.mk b)) slices_IndexFunc_int_int_impl_areAll_int_1_impl_joined_1.q2 v0 v1 v2 := by kernel_rfl
theorem slices_IndexFunc_int_int_impl_areAll_int_1_impl_joined_1.k2 (v0 : List (List Int)) (v1 : List Int) (v2 : List Int) (v3 : Int) (v4 : Int) : roundL E (callT E tab) 160 Try.f160 2 [.r, .l, .r, .b] (vc (.d .fro (.sl (.sl (.int .i64))) v0) :: vc (.fn 151 [.rp [.fn 152 [.rp [.d .fro (.sl (.int .i64)) v1] 0, .rp [.d .fro (.sl (.int .i64)) v2] 0]] 0]) :: nn 5 (vc (iL v3) :: vc (iL v4) :: nn 10 ([]))) = slices_IndexFunc_int_int_impl_areAll_int_1_impl_joined_1.t2 (fun b => some (slices_IndexFunc_int_int_impl_areAll_int_1_impl_joined_1.mk b)) slices_IndexFunc_int_int_impl_areAll_int_1_impl_joined_1.q2 v0 v1 v2 v3 v4 := by kernel_rfl
theorem slices_IndexFunc_int_int_impl_areAll_int_1_impl_joined_1.s (v0 : List (List Int)) (v1 : List Int) (v2 : List Int) : Sub slices_IndexFunc_int_int_impl_areAll_int_1_impl_joined_1.mk (slices_IndexFunc_int_int_impl_areAll_int_1_impl_joined_1.t some slices_IndexFunc_int_int_impl_areAll_int_1_impl_joined_1.l2 v0 v1 v2) (slices_IndexFunc_int_int_impl_areAll_int_1_impl_joined_1.t (fun b => some (slices_IndexFunc_int_int_impl_areAll_int_1_impl_joined_1.mk b)) slices_IndexFunc_int_int_impl_areAll_int_1_impl_joined_1.q2 v0 v1 v2) := by
  unfold slices_IndexFunc_int_int_impl_areAll_int_1_impl_joined_1.t
  repeat' first | exact Sub.ret | exact Sub.none | exact Sub.loop | apply Sub.cond | (apply Sub.bind; intro _)
theorem slices_IndexFunc_int_int_impl_areAll_int_1_impl_joined_1.eq (v0 : List (List Int)) (v1 : List Int) (v2 : List Int) {b : Int} (h : slices_IndexFunc_int_int_impl_areAll_int_1_impl_joined_1.t some slices_IndexFunc_int_int_impl_areAll_int_1_impl_joined_1.l2 v0 v1 v2 = some b) : slices_IndexFunc_int_int_impl_areAll_int_1_impl_joined_1 v0 v1 v2 = some b := tOf_intro slices_IndexFunc_int_int_impl_areAll_int_1_impl_joined_1.un (fun _ => by kernel_rfl) (vlim_fn (callT_le E tab) rfl rfl rfl ((slices_IndexFunc_int_int_impl_areAll_int_1_impl_joined_1.k v0 v1 v2).trans (slices_IndexFunc_int_int_impl_areAll_int_1_impl_joined_1.s v0 v1 v2 b h)))
theorem slices_IndexFunc_int_int_impl_areAll_int_1_impl_joined_1.s2 (v0 : List (List Int)) (v1 : List Int) (v2 : List Int) (v3 : Int) (v4 : Int) : Sub slices_IndexFunc_int_int_impl_areAll_int_1_impl_joined_1.mk (slices_IndexFunc_int_int_impl_areAll_int_1_impl_joined_1.t2 some slices_IndexFunc_int_int_impl_areAll_int_1_impl_joined_1.l2 v0 v1 v2 v3 v4) (slices_IndexFunc_int_int_impl_areAll_int_1_impl_joined_1.t2 (fun b => some (slices_IndexFunc_int_int_impl_areAll_int_1_impl_joined_1.mk b)) slices_IndexFunc_int_int_impl_areAll_int_1_impl_joined_1.q2 v0 v1 v2 v3 v4) := by
  unfold slices_IndexFunc_int_int_impl_areAll_int_1_impl_joined_1.t2
  repeat' first | exact Sub.ret | exact Sub.none | exact Sub.loop | apply Sub.cond | (apply Sub.bind; intro _)
theorem slices_IndexFunc_int_int_impl_areAll_int_1_impl_joined_1.eq2 (v0 : List (List Int)) (v1 : List Int) (v2 : List Int) (v3 : Int) (v4 : Int) {b : Int} (h : slices_IndexFunc_int_int_impl_areAll_int_1_impl_joined_1.t2 some slices_IndexFunc_int_int_impl_areAll_int_1_impl_joined_1.l2 v0 v1 v2 v3 v4 = some b) : slices_IndexFunc_int_int_impl_areAll_int_1_impl_joined_1.l2 v0 v1 v2 v3 v4 = some b := tOf_intro slices_IndexFunc_int_int_impl_areAll_int_1_impl_joined_1.un (fun _ => by kernel_rfl) (loopAtL_step ((slices_IndexFunc_int_int_impl_areAll_int_1_impl_joined_1.k2 v0 v1 v2 v3 v4).trans (slices_IndexFunc_int_int_impl_areAll_int_1_impl_joined_1.s2 v0 v1 v2 v3 v4 b h)))
noncomputable def impl_areAll_int_1_impl_joined_1.t {γ : Type} (ret : (Bool) → Option γ) (v0 : List Int) (v1 : List Int) (v2 : List Int) : Option γ :=
  (impl_joined_1 (v0) (v1) (v2)).bind fun (r0 : Bool) =>
  ret (!r0)
theorem impl_areAll_int_1_impl_joined_1.k (v0 : List Int) (v1 : List Int) (v2 : List Int) : topL E (callT E tab) 151 Try.f151 (impl_areAll_int_1_impl_joined_1.c v0 v1 v2) = impl_areAll_int_1_impl_joined_1.t (fun b => some (impl_areAll_int_1_impl_joined_1.mk b)) v0 v1 v2 := by kernel_rfl
theorem impl_areAll_int_1_impl_joined_1.s (v0 : List Int) (v1 : List Int) (v2 : List Int) : Sub impl_areAll_int_1_impl_joined_1.mk (impl_areAll_int_1_impl_joined_1.t some v0 v1 v2) (impl_areAll_int_1_impl_joined_1.t (fun b => some (impl_areAll_int_1_impl_joined_1.mk b)) v0 v1 v2) := by
  unfold impl_areAll_int_1_impl_joined_1.t
  repeat' first | exact Sub.ret | exact Sub.none | exact Sub.loop | apply Sub.cond | (apply Sub.bind; intro _)
theorem impl_areAll_int_1_impl_joined_1.eq (v0 : List Int) (v1 : List Int) (v2 : List Int) {b : Bool} (h : impl_areAll_int_1_impl_joined_1.t some v0 v1 v2 = some b) : impl_areAll_int_1_impl_joined_1 v0 v1 v2 = some b := tOf_intro impl_areAll_int_1_impl_joined_1.un (fun _ => by kernel_rfl) (vlim_fn (callT_le E tab) rfl rfl rfl ((impl_areAll_int_1_impl_joined_1.k v0 v1 v2).trans (impl_areAll_int_1_impl_joined_1.s v0 v1 v2 b h)))
end GoV

/- Equations of the program's functions (printed by wip/tools/emit.py). -/
namespace GoV
open Go Go.Proofs
set_option maxRecDepth 100000

noncomputable def impl_joined_1.t {γ : Type} (ret : (Bool) → Option γ) (v0 : List Int) (v1 : List Int) (v2 : List Int) : Option γ :=
  bif Decidable.decide (Int.toNat (0 : Int) < v0.length) then
    bif Decidable.decide ((0 : Int) ≤ v0.getD (Int.toNat (0 : Int)) (0 : Int)) then
      bif Decidable.decide ((v0.getD (Int.toNat (0 : Int)) (0 : Int)).toNat < v1.length) then
        bif Decidable.decide (Int.toNat (1 : Int) < v0.length) then
          bif Decidable.decide ((0 : Int) ≤ v0.getD (Int.toNat (1 : Int)) (0 : Int)) then
            bif Decidable.decide ((v0.getD (Int.toNat (1 : Int)) (0 : Int)).toNat < v2.length) then
              ret (v1.getD (v0.getD (Int.toNat (0 : Int)) (0 : Int)).toNat (0 : Int) ==   v2.getD (v0.getD (Int.toNat (1 : Int)) (0 : Int)).toNat (0 : Int))
            else
              none
          else
            none
        else
          none
      else
        none
    else
      none
  else
    none
theorem impl_joined_1.k (v0 : List Int) (v1 : List Int) (v2 : List Int) : topL E (callT E tab) 152 Try.f152 (impl_joined_1.c v0 v1 v2) = impl_joined_1.t (fun b => some (impl_joined_1.mk b)) v0 v1 v2 := by kernel_rfl
theorem impl_joined_1.s (v0 : List Int) (v1 : List Int) (v2 : List Int) : Sub impl_joined_1.mk (impl_joined_1.t some v0 v1 v2) (impl_joined_1.t (fun b => some (impl_joined_1.mk b)) v0 v1 v2) := by
  unfold impl_joined_1.t
  repeat' first | exact Sub.ret | exact Sub.none | exact Sub.loop | apply Sub.cond | (apply Sub.bind; intro _)
theorem impl_joined_1.eq (v0 : List Int) (v1 : List Int) (v2 : List Int) {b : Bool} (h : impl_joined_1.t some v0 v1 v2 = some b) : impl_joined_1 v0 v1 v2 = some b := tOf_intro impl_joined_1.un (fun _ => by kernel_rfl) (vlim_fn (callT_le E tab) rfl rfl rfl ((impl_joined_1.k v0 v1 v2).trans (impl_joined_1.s v0 v1 v2 b h)))
noncomputable def impl_unpaired.q3 (v0 : List (List Int)) (v1 : List Int) (v2 : Int) (v3 : Int) : Option R := loopAtL E (callT E tab) 154 Try.f154 2 [.r, .r, .l, .r, .b] (nn 1 (vc (.d .fro (.sl (.sl (.int .i64))) v0) :: nn 3 (vc (.d .deep (.sl (.int .i64)) v1) :: nn 1 (vc (iL v2) :: vc (iL v3) :: nn 12 ([])))))
noncomputable def impl_unpaired.l3 (v0 : List (List Int)) (v1 : List Int) (v2 : Int) (v3 : Int) : Option ((List Int)) := tOf impl_unpaired.mk (impl_unpaired.q3 v0 v1 v2 v3)
noncomputable def impl_unpaired.t {γ : Type} (ret : ((List Int)) → Option γ) (lp3 : (List (List Int)) → (List Int) → Int → Int → Option γ) (v0 : Int) (v1 : List (List Int)) : Option γ :=
  lp3 (v1) ([]) (v0) ((0 : Int))
noncomputable def impl_unpaired.t3 {γ : Type} (ret : ((List Int)) → Option γ) (lp3 : (List (List Int)) → (List Int) → Int → Int → Option γ) (v0 : List (List Int)) (v1 : List Int) (v2 : Int) (v3 : Int) : Option γ :=
  bif Decidable.decide (v3 < v2) then
    (slices_ContainsFunc_int_int_impl_unpaired_1 (v0) (v3)).bind fun (r0 : Bool) =>
    bif !r0 then
      bif Decidable.decide (v1.length + [v3].length ≤ (4294967296 : Nat)) then
        lp3 (v0) (v1 ++ [v3]) (v2) (Go.IntKind.i64.wrap (v3 + (1 : Int)))
      else
        none
    else
      lp3 (v0) (v1) (v2) (Go.IntKind.i64.wrap (v3 + (1 : Int)))
  else
    ret (v1)
theorem impl_unpaired.k (v0 : Int) (v1 : List (List Int)) : topL E (callT E tab) 154 Try.f154 (impl_unpaired.c v0 v1) = impl_unpaired.t (fun b => some (impl_unpaired.mk b)) impl_unpaired.q3 v0 v1 := by kernel_rfl
theorem impl_unpaired.k3 (v0 : List (List Int)) (v1 : List Int) (v2 : Int) (v3 : Int) : roundL E (callT E tab) 154 Try.f154 2 [.r, .r, .l, .r, .b] (nn 1 (vc (.d .fro (.sl (.sl (.int .i64))) v0) :: nn 3 (vc (.d .deep (.sl (.int .i64)) v1) :: nn 1 (vc (iL v2) :: vc (iL v3) :: nn 12 ([]))))) = impl_unpaired.t3 (fun b => some (impl_unpaired.mk b)) impl_unpaired.q3 v0 v1 v2 v3 := by kernel_rfl
theorem impl_unpaired.s (v0 : Int) (v1 : List (List Int)) : Sub impl_unpaired.mk (impl_unpaired.t some impl_unpaired.l3 v0 v1) (impl_unpaired.t (fun b => some (impl_unpaired.mk b)) impl_unpaired.q3 v0 v1) := by
  unfold impl_unpaired.t
  repeat' first | exact Sub.ret | exact Sub.none | exact Sub.loop | apply Sub.cond | (apply Sub.bind; intro _)
theorem impl_unpaired.eq (v0 : Int) (v1 : List (List Int)) {b : (List Int)} (h : impl_unpaired.t some impl_unpaired.l3 v0 v1 = some b) : impl_unpaired v0 v1 = some b := tOf_intro impl_unpaired.un (fun _ => by kernel_rfl) (vlim_fn (callT_le E tab) rfl rfl rfl ((impl_unpaired.k v0 v1).trans (impl_unpaired.s v0 v1 b h)))
theorem impl_unpaired.s3 (v0 : List (List Int)) (v1 : List Int) (v2 : Int) (v3 : Int) : Sub impl_unpaired.mk (impl_unpaired.t3 some impl_unpaired.l3 v0 v1 v2 v3) (impl_unpaired.t3 (fun b => some (impl_unpaired.mk b)) impl_unpaired.q3 v0 v1 v2 v3) := by
  unfold impl_unpaired.t3
  repeat' first | exact Sub.ret | exact Sub.none | exact Sub.loop | apply Sub.cond | (apply Sub.bind; intro _)
theorem impl_unpaired.eq3 (v0 : List (List Int)) (v1 : List Int) (v2 : Int) (v3 : Int) {b : (List Int)} (h : impl_unpaired.t3 some impl_unpaired.l3 v0 v1 v2 v3 = some b) : impl_unpaired.l3 v0 v1 v2 v3 = some b := tOf_intro impl_unpaired.un (fun _ => by kernel_rfl) (loopAtL_step ((impl_unpaired.k3 v0 v1 v2 v3).trans (impl_unpaired.s3 v0 v1 v2 v3 b h)))
noncomputable def slices_ContainsFunc_int_int_impl_unpaired_1.t {γ : Type} (ret : (Bool) → Option γ) (v0 : List (List Int)) (v1 : Int) : Option γ :=
  (slices_IndexFunc_int_int_impl_unpaired_1 (v0) (v1)).bind fun (r0 : Int) =>
  ret (Decidable.decide (r0 ≥ (0 : Int)))
theorem slices_ContainsFunc_int_int_impl_unpaired_1.k (v0 : List (List Int)) (v1 : Int) : topL E (callT E tab) 150 Try.f150 (slices_ContainsFunc_int_int_impl_unpaired_1.c v0 v1) = slices_ContainsFunc_int_int_impl_unpaired_1.t (fun b => some (slices_ContainsFunc_int_int_impl_unpaired_1.mk b)) v0 v1 := by kernel_rfl
theorem slices_ContainsFunc_int_int_impl_unpaired_1.s (v0 : List (List Int)) (v1 : Int) : Sub slices_ContainsFunc_int_int_impl_unpaired_1.mk (slices_ContainsFunc_int_int_impl_unpaired_1.t some v0 v1) (slices_ContainsFunc_int_int_impl_unpaired_1.t (fun b => some (slices_ContainsFunc_int_int_impl_unpaired_1.mk b)) v0 v1) := by
  unfold slices_ContainsFunc_int_int_impl_unpaired_1.t
  repeat' first | exact Sub.ret | exact Sub.none | exact Sub.loop | apply Sub.cond | (apply Sub.bind; intro _)
theorem slices_ContainsFunc_int_int_impl_unpaired_1.eq (v0 : List (List Int)) (v1 : Int) {b : Bool} (h : slices_ContainsFunc_int_int_impl_unpaired_1.t some v0 v1 = some b) : slices_ContainsFunc_int_int_impl_unpaired_1 v0 v1 = some b := tOf_intro slices_ContainsFunc_int_int_impl_unpaired_1.un (fun _ => by kernel_rfl) (vlim_fn (callT_le E tab) rfl rfl rfl ((slices_ContainsFunc_int_int_impl_unpaired_1.k v0 v1).trans (slices_ContainsFunc_int_int_impl_unpaired_1.s v0 v1 b h)))
noncomputable def slices_IndexFunc_int_int_impl_unpaired_1.q2 (v0 : List (List Int)) (v1 : Int) (v2 : Int) (v3 : Int) : Option R := loopAtL E (callT E tab) 160 Try.f160 2 [.r, .l, .r, .b] (vc (.d .fro (.sl (.sl (.int .i64))) v0) :: vc (.fn 162 [.rp [iL v1] 0]) :: nn 5 (vc (iL v2) :: vc (iL v3) :: nn 10 ([])))
noncomputable def slices_IndexFunc_int_int_impl_unpaired_1.l2 (v0 : List (List Int)) (v1 : Int) (v2 : Int) (v3 : Int) : Option (Int) := tOf slices_IndexFunc_int_int_impl_unpaired_1.mk (slices_IndexFunc_int_int_impl_unpaired_1.q2 v0 v1 v2 v3)
noncomputable def slices_IndexFunc_int_int_impl_unpaired_1.t {γ : Type} (ret : (Int) → Option γ) (lp2 : (List (List Int)) → Int → Int → Int → Option γ) (v0 : List (List Int)) (v1 : Int) : Option γ :=
  lp2 (v0) (v1) ((↑v0.length : Int)) ((0 : Int))
noncomputable def slices_IndexFunc_int_int_impl_unpaired_1.t2 {γ : Type} (ret : (Int) → Option γ) (lp2 : (List (List Int)) → Int → Int → Int → Option γ) (v0 : List (List Int)) (v1 : Int) (v2 : Int) (v3 : Int) : Option γ :=
  bif Decidable.decide (v3 < v2) then
    bif Decidable.decide ((0 : Int) ≤ v3) then
      bif Decidable.decide (v3.toNat < v0.length) then
        (impl_unpaired_1 (v0.getD v3.toNat []) (v1)).bind fun (r0 : Bool) =>
        bif r0 then
          ret (v3)
        else
          lp2 (v0) (v1) (v2) (Go.IntKind.i64.wrap (v3 + (1 : Int)))
      else
        none
    else
      none
  else
    ret ((-1 : Int))
theorem slices_IndexFunc_int_int_impl_unpaired_1.k (v0 : List (List Int)) (v1 : Int) : topL E (callT E tab) 160 Try.f160 (slices_IndexFunc_int_int_impl_unpaired_1.c v0 v1) = slices_IndexFunc_int_int_impl_unpaired_1.t (fun b => some (slices_IndexFunc_int_int_impl_unpaired_1.mk b)) slices_IndexFunc_int_int_impl_unpaired_1.q2 v0 v1 := by kernel_rfl
theorem slices_IndexFunc_int_int_impl_unpaired_1.k2 (v0 : List (List Int)) (v1 : Int) (v2 : Int) (v3 : Int) : roundL E (callT E tab) 160 Try.f160 2 [.r, .l, .r, .b] (vc (.d .fro (.sl (.sl (.int .i64))) v0) :: vc (.fn 162 [.rp [iL v1] 0]) :: nn 5 (vc (iL v2) :: vc (iL v3) :: nn 10 ([]))) = slices_IndexFunc_int_int_impl_unpaired_1.t2 (fun b => some (slices_IndexFunc_int_int_impl_unpaired_1.mk b)) slices_IndexFunc_int_int_impl_unpaired_1.q2 v0 v1 v2 v3 := by kernel_rfl
theorem slices_IndexFunc_int_int_impl_unpaired_1.s (v0 : List (List Int)) (v1 : Int) : Sub slices_IndexFunc_int_int_impl_unpaired_1.mk (slices_IndexFunc_int_int_impl_unpaired_1.t some slices_IndexFunc_int_int_impl_unpaired_1.l2 v0 v1) (slices_IndexFunc_int_int_impl_unpaired_1.t (fun b => some (slices_IndexFunc_int_int_impl_unpaired_1.mk b)) slices_IndexFunc_int_int_impl_unpaired_1.q2 v0 v1) := by
  unfold slices_IndexFunc_int_int_impl_unpaired_1.t
  repeat' first | exact Sub.ret | exact Sub.none | exact Sub.loop | apply Sub.cond | (apply Sub.bind; intro _)
theorem slices_IndexFunc_int_int_impl_unpaired_1.eq (v0 : List (List Int)) (v1 : Int) {b : Int} (h : slices_IndexFunc_int_int_impl_unpaired_1.t some slices_IndexFunc_int_int_impl_unpaired_1.l2 v0 v1 = some b) : slices_IndexFunc_int_int_impl_unpaired_1 v0 v1 = some b := tOf_intro slices_IndexFunc_int_int_impl_unpaired_1.un (fun _ => by kernel_rfl) (vlim_fn (callT_le E tab) rfl rfl rfl ((slices_IndexFunc_int_int_impl_unpaired_1.k v0 v1).trans (slices_IndexFunc_int_int_impl_unpaired_1.s v0 v1 b h)))
theorem slices_IndexFunc_int_int_impl_unpaired_1.s2 (v0 : List (List Int)) (v1 : Int) (v2 : Int) (v3 : Int) : Sub slices_IndexFunc_int_int_impl_unpaired_1.mk (slices_IndexFunc_int_int_impl_unpaired_1.t2 some slices_IndexFunc_int_int_impl_unpaired_1.l2 v0 v1 v2 v3) (slices_IndexFunc_int_int_impl_unpaired_1.t2 (fun b => some (slices_IndexFunc_int_int_impl_unpaired_1.mk b)) slices_IndexFunc_int_int_impl_unpaired_1.q2 v0 v1 v2 v3) := by
  unfold slices_IndexFunc_int_int_impl_unpaired_1.t2
  repeat' first | exact Sub.ret | exact Sub.none | exact Sub.loop | apply Sub.cond | (apply Sub.bind; intro _)
theorem slices_IndexFunc_int_int_impl_unpaired_1.eq2 (v0 : List (List Int)) (v1 : Int) (v2 : Int) (v3 : Int) {b : Int} (h : slices_IndexFunc_int_int_impl_unpaired_1.t2 some slices_IndexFunc_int_int_impl_unpaired_1.l2 v0 v1 v2 v3 = some b) : slices_IndexFunc_int_int_impl_unpaired_1.l2 v0 v1 v2 v3 = some b := tOf_intro slices_IndexFunc_int_int_impl_unpaired_1.un (fun _ => by kernel_rfl) (loopAtL_step ((slices_IndexFunc_int_int_impl_unpaired_1.k2 v0 v1 v2 v3).trans (slices_IndexFunc_int_int_impl_unpaired_1.s2 v0 v1 v2 v3 b h)))
noncomputable def impl_unpaired_1.t {γ : Type} (ret : (Bool) → Option γ) (v0 : List Int) (v1 : Int) : Option γ :=
  bif Decidable.decide (Int.toNat (1 : Int) < v0.length) then
    ret (v0.getD (Int.toNat (1 : Int)) (0 : Int) == v1)
  else
    none
theorem impl_unpaired_1.k (v0 : List Int) (v1 : Int) : topL E (callT E tab) 162 Try.f162 (impl_unpaired_1.c v0 v1) = impl_unpaired_1.t (fun b => some (impl_unpaired_1.mk b)) v0 v1 := by kernel_rfl
theorem impl_unpaired_1.s (v0 : List Int) (v1 : Int) : Sub impl_unpaired_1.mk (impl_unpaired_1.t some v0 v1) (impl_unpaired_1.t (fun b => some (impl_unpaired_1.mk b)) v0 v1) := by
  unfold impl_unpaired_1.t
  repeat' first | exact Sub.ret | exact Sub.none | exact Sub.loop | apply Sub.cond | (apply Sub.bind; intro _)
theorem impl_unpaired_1.eq (v0 : List Int) (v1 : Int) {b : Bool} (h : impl_unpaired_1.t some v0 v1 = some b) : impl_unpaired_1 v0 v1 = some b := tOf_intro impl_unpaired_1.un (fun _ => by kernel_rfl) (vlim_fn (callT_le E tab) rfl rfl rfl ((impl_unpaired_1.k v0 v1).trans (impl_unpaired_1.s v0 v1 b h)))
noncomputable def slices_Concat_int_int.q11 (v0 : List Int) (v1 : List (List Int)) (v2 : Int) (v3 : Int) : Option R := loopAtL E (callT E tab) 153 Try.f153 1 [.r, .r, .r, .r, .l, .r, .b] (nn 6 (vc (.d .deep (.sl (.int .i64)) v0) :: nn 18 (vc (.d .fro (.sl (.sl (.int .i64))) v1) :: vc (iL v2) :: vc (iL v3) :: nn 8 ([]))))
noncomputable def slices_Concat_int_int.l11 (v0 : List Int) (v1 : List (List Int)) (v2 : Int) (v3 : Int) : Option ((List Int)) := tOf slices_Concat_int_int.mk (slices_Concat_int_int.q11 v0 v1 v2 v3)
noncomputable def slices_Concat_int_int.q3 (v0 : List (List Int)) (v1 : Int) (v2 : List (List Int)) (v3 : Int) (v4 : Int) : Option R := loopAtL E (callT E tab) 153 Try.f153 1 [.r, .r, .l, .r, .b] (vc (.d .fro (.sl (.sl (.int .i64))) v0) :: nn 2 (vc (iL v1) :: nn 5 (vc (.d .fro (.sl (.sl (.int .i64))) v2) :: vc (iL v3) :: vc (iL v4) :: nn 24 ([]))))
noncomputable def slices_Concat_int_int.l3 (v0 : List (List Int)) (v1 : Int) (v2 : List (List Int)) (v3 : Int) (v4 : Int) : Option ((List Int)) := tOf slices_Concat_int_int.mk (slices_Concat_int_int.q3 v0 v1 v2 v3 v4)
noncomputable def slices_Concat_int_int.t {γ : Type} (ret : ((List Int)) → Option γ) (lp11 : (List Int) → (List (List Int)) → Int → Int → Option γ) (lp3 : (List (List Int)) → Int → (List (List Int)) → Int → Int → Option γ) (v0 : List (List Int)) : Option γ :=
  lp3 (v0) ((0 : Int)) (v0) ((↑v0.length : Int)) ((0 : Int))
noncomputable def slices_Concat_int_int.t11 {γ : Type} (ret : ((List Int)) → Option γ) (lp11 : (List Int) → (List (List Int)) → Int → Int → Option γ) (lp3 : (List (List Int)) → Int → (List (List Int)) → Int → Int → Option γ) (v0 : List Int) (v1 : List (List Int)) (v2 : Int) (v3 : Int) : Option γ :=
  bif Decidable.decide (v3 < v2) then
    bif Decidable.decide ((0 : Int) ≤ v3) then
      bif Decidable.decide (v3.toNat < v1.length) then
        bif Decidable.decide (v0.length + (v1.getD v3.toNat []).length ≤ (4294967296 : Nat)) then
          lp11 (v0 ++ v1.getD v3.toNat []) (v1) (v2) (Go.IntKind.i64.wrap (v3 + (1 : Int)))
        else
          none
      else
        none
    else
      none
  else
    ret (v0)
noncomputable def slices_Concat_int_int.t3 {γ : Type} (ret : ((List Int)) → Option γ) (lp11 : (List Int) → (List (List Int)) → Int → Int → Option γ) (lp3 : (List (List Int)) → Int → (List (List Int)) → Int → Int → Option γ) (v0 : List (List Int)) (v1 : Int) (v2 : List (List Int)) (v3 : Int) (v4 : Int) : Option γ :=
  bif Decidable.decide (v4 < v3) then
    bif Decidable.decide ((0 : Int) ≤ v4) then
      bif Decidable.decide (v4.toNat < v2.length) then
        bif Decidable.decide (Go.IntKind.i64.wrap (v1 + (↑(v2.getD v4.toNat []).length : Int)) < (0 : Int)) then
          none
        else
          lp3 (v0) (Go.IntKind.i64.wrap (v1 + (↑(v2.getD v4.toNat []).length : Int))) (v2) (v3) (Go.IntKind.i64.wrap (v4 + (1 : Int)))
      else
        none
    else
      none
  else
    (slices_Grow_int_int_c0f (v1)).bind fun (r0 : (List Int)) =>
    lp11 (r0) (v0) ((↑v0.length : Int)) ((0 : Int))
theorem slices_Concat_int_int.k (v0 : List (List Int)) : topL E (callT E tab) 153 Try.f153 (slices_Concat_int_int.c v0) = slices_Concat_int_int.t (fun b => some (slices_Concat_int_int.mk b)) slices_Concat_int_int.q11 slices_Concat_int_int.q3 v0 := by kernel_rfl
theorem slices_Concat_int_int.k11 (v0 : List Int) (v1 : List (List Int)) (v2 : Int) (v3 : Int) : roundL E (callT E tab) 153 Try.f153 1 [.r, .r, .r, .r, .l, .r, .b] (nn 6 (vc (.d .deep (.sl (.int .i64)) v0) :: nn 18 (vc (.d .fro (.sl (.sl (.int .i64))) v1) :: vc (iL v2) :: vc (iL v3) :: nn 8 ([])))) = slices_Concat_int_int.t11 (fun b => some (slices_Concat_int_int.mk b)) slices_Concat_int_int.q11 slices_Concat_int_int.q3 v0 v1 v2 v3 := by kernel_rfl
theorem slices_Concat_int_int.k3 (v0 : List (List Int)) (v1 : Int) (v2 : List (List Int)) (v3 : Int) (v4 : Int) : roundL E (callT E tab) 153 Try.f153 1 [.r, .r, .l, .r, .b] (vc (.d .fro (.sl (.sl (.int .i64))) v0) :: nn 2 (vc (iL v1) :: nn 5 (vc (.d .fro (.sl (.sl (.int .i64))) v2) :: vc (iL v3) :: vc (iL v4) :: nn 24 ([])))) = slices_Concat_int_int.t3 (fun b => some (slices_Concat_int_int.mk b)) slices_Concat_int_int.q11 slices_Concat_int_int.q3 v0 v1 v2 v3 v4 := by kernel_rfl
theorem slices_Concat_int_int.s (v0 : List (List Int)) : Sub slices_Concat_int_int.mk (slices_Concat_int_int.t some slices_Concat_int_int.l11 slices_Concat_int_int.l3 v0) (slices_Concat_int_int.t (fun b => some (slices_Concat_int_int.mk b)) slices_Concat_int_int.q11 slices_Concat_int_int.q3 v0) := by
  unfold slices_Concat_int_int.t
  repeat' first | exact Sub.ret | exact Sub.none | exact Sub.loop | apply Sub.cond | (apply Sub.bind; intro _)
theorem slices_Concat_int_int.eq (v0 : List (List Int)) {b : (List Int)} (h : slices_Concat_int_int.t some slices_Concat_int_int.l11 slices_Concat_int_int.l3 v0 = some b) : slices_Concat_int_int v0 = some b := tOf_intro slices_Concat_int_int.un (fun _ => by kernel_rfl) (vlim_fn (callT_le E tab) rfl rfl rfl ((slices_Concat_int_int.k v0).trans (slices_Concat_int_int.s v0 b h)))
theorem slices_Concat_int_int.s11 (v0 : List Int) (v1 : List (List Int)) (v2 : Int) (v3 : Int) : Sub slices_Concat_int_int.mk (slices_Concat_int_int.t11 some slices_Concat_int_int.l11 slices_Concat_int_int.l3 v0 v1 v2 v3) (slices_Concat_int_int.t11 (fun b => some (slices_Concat_int_int.mk b)) slices_Concat_int_int.q11 slices_Concat_int_int.q3 v0 v1 v2 v3) := by
  unfold slices_Concat_int_int.t11
  repeat' first | exact Sub.ret | exact Sub.none | exact Sub.loop | apply Sub.cond | (apply Sub.bind; intro _)
theorem slices_Concat_int_int.eq11 (v0 : List Int) (v1 : List (List Int)) (v2 : Int) (v3 : Int) {b : (List Int)} (h : slices_Concat_int_int.t11 some slices_Concat_int_int.l11 slices_Concat_int_int.l3 v0 v1 v2 v3 = some b) : slices_Concat_int_int.l11 v0 v1 v2 v3 = some b := tOf_intro slices_Concat_int_int.un (fun _ => by kernel_rfl) (loopAtL_step ((slices_Concat_int_int.k11 v0 v1 v2 v3).trans (slices_Concat_int_int.s11 v0 v1 v2 v3 b h)))
theorem slices_Concat_int_int.s3 (v0 : List (List Int)) (v1 : Int) (v2 : List (List Int)) (v3 : Int) (v4 : Int) : Sub slices_Concat_int_int.mk (slices_Concat_int_int.t3 some slices_Concat_int_int.l11 slices_Concat_int_int.l3 v0 v1 v2 v3 v4) (slices_Concat_int_int.t3 (fun b => some (slices_Concat_int_int.mk b)) slices_Concat_int_int.q11 slices_Concat_int_int.q3 v0 v1 v2 v3 v4) := by
  unfold slices_Concat_int_int.t3
  repeat' first | exact Sub.ret | exact Sub.none | exact Sub.loop | apply Sub.cond | (apply Sub.bind; intro _)
theorem slices_Concat_int_int.eq3 (v0 : List (List Int)) (v1 : Int) (v2 : List (List Int)) (v3 : Int) (v4 : Int) {b : (List Int)} (h : slices_Concat_int_int.t3 some slices_Concat_int_int.l11 slices_Concat_int_int.l3 v0 v1 v2 v3 v4 = some b) : slices_Concat_int_int.l3 v0 v1 v2 v3 v4 = some b := tOf_intro slices_Concat_int_int.un (fun _ => by kernel_rfl) (loopAtL_step ((slices_Concat_int_int.k3 v0 v1 v2 v3 v4).trans (slices_Concat_int_int.s3 v0 v1 v2 v3 v4 b h)))
noncomputable def slices_Grow_int_int_c0f.t {γ : Type} (ret : ((List Int)) → Option γ) (v0 : Int) : Option γ :=
  bif Decidable.decide (v0 < (0 : Int)) then
    none
  else
    bif Decidable.decide (Go.IntKind.i64.wrap (v0 - Go.IntKind.i64.wrap ((0 : Int) - (0 : Int))) > (0 : Int)) then
      bif Decidable.decide ((1 : Int) ≤ Go.IntKind.i64.wrap (v0 - Go.IntKind.i64.wrap ((0 : Int) - (0 : Int)))) then
        bif Decidable.decide (Go.IntKind.i64.wrap (v0 - Go.IntKind.i64.wrap ((0 : Int) - (0 : Int))) ≤ (↑(4294967296 : Nat) : Int)) then
          ret (List.take ((0 : Int) - Option.none.getD (0 : Int)).toNat   (List.drop (Option.none.getD (0 : Int)).toNat     (List.replicate (Go.IntKind.i64.wrap (v0 - Go.IntKind.i64.wrap ((0 : Int) - (0 : Int)))).toNat (0 : Int))))
        else
          none
      else
        none
    else
      ret ([])
theorem slices_Grow_int_int_c0f.k (v0 : Int) : topL E (callT E tab) 161 Try.f161 (slices_Grow_int_int_c0f.c v0) = slices_Grow_int_int_c0f.t (fun b => some (slices_Grow_int_int_c0f.mk b)) v0 := by kernel_rfl
theorem slices_Grow_int_int_c0f.s (v0 : Int) : Sub slices_Grow_int_int_c0f.mk (slices_Grow_int_int_c0f.t some v0) (slices_Grow_int_int_c0f.t (fun b => some (slices_Grow_int_int_c0f.mk b)) v0) := by
  unfold slices_Grow_int_int_c0f.t
  repeat' first | exact Sub.ret | exact Sub.none | exact Sub.loop | apply Sub.cond | (apply Sub.bind; intro _)
theorem slices_Grow_int_int_c0f.eq (v0 : Int) {b : (List Int)} (h : slices_Grow_int_int_c0f.t some v0 = some b) : slices_Grow_int_int_c0f v0 = some b := tOf_intro slices_Grow_int_int_c0f.un (fun _ => by kernel_rfl) (vlim_fn (callT_le E tab) rfl rfl rfl ((slices_Grow_int_int_c0f.k v0).trans (slices_Grow_int_int_c0f.s v0 b h)))
noncomputable def impl_joinedColumns.t {γ : Type} (ret : (Int) → Option γ) (v0 : Int) (v1 : Int) (v2 : List (List Int)) : Option γ :=
  (impl_unpaired (v1) (v2)).bind fun (r0 : (List Int)) =>
  ret (Go.IntKind.i64.wrap (v0 + (↑r0.length : Int)))
theorem impl_joinedColumns.k (v0 : Int) (v1 : Int) (v2 : List (List Int)) : topL E (callT E tab) 140 Try.f140 (impl_joinedColumns.c v0 v1 v2) = impl_joinedColumns.t (fun b => some (impl_joinedColumns.mk b)) v0 v1 v2 := by kernel_rfl
theorem impl_joinedColumns.s (v0 : Int) (v1 : Int) (v2 : List (List Int)) : Sub impl_joinedColumns.mk (impl_joinedColumns.t some v0 v1 v2) (impl_joinedColumns.t (fun b => some (impl_joinedColumns.mk b)) v0 v1 v2) := by
  unfold impl_joinedColumns.t
  repeat' first | exact Sub.ret | exact Sub.none | exact Sub.loop | apply Sub.cond | (apply Sub.bind; intro _)
theorem impl_joinedColumns.eq (v0 : Int) (v1 : Int) (v2 : List (List Int)) {b : Int} (h : impl_joinedColumns.t some v0 v1 v2 = some b) : impl_joinedColumns v0 v1 v2 = some b := tOf_intro impl_joinedColumns.un (fun _ => by kernel_rfl) (vlim_fn (callT_le E tab) rfl rfl rfl ((impl_joinedColumns.k v0 v1 v2).trans (impl_joinedColumns.s v0 v1 v2 b h)))
end GoV
