/- A part of the proof of FnExactProjectDelta: an interpreter of the model over plain data, its soundness, and what it makes of the functions that the statement reaches. Conditions: none beyond what the given statement itself says. -/
import Derived.Test.YtgblilbjpjidfaaTI
set_option linter.unusedVariables false
set_option linter.unusedSimpArgs false
set_option linter.unnecessarySimpa false
set_option linter.unusedSectionVars false
/- Equations of the program's functions (printed by wip/tools/emit.py). -/
namespace GoV
open Go Go.Proofs
set_option maxRecDepth 100000

noncomputable def impl_Row_own.t {γ : Type} (ret : ((List Int)) → Option γ) (v0 : List Int) : Option γ :=
  (slices_Clone_int_int (v0)).bind fun (r0 : (List Int)) =>
  ret (r0)
theorem impl_Row_own.k (v0 : List Int) : topL E (callT E tab) 109 Try.f109 (impl_Row_own.c v0) = impl_Row_own.t (fun b => some (impl_Row_own.mk b)) v0 := by kernel_rfl
theorem impl_Row_own.s (v0 : List Int) : Sub impl_Row_own.mk (impl_Row_own.t some v0) (impl_Row_own.t (fun b => some (impl_Row_own.mk b)) v0) := by
  unfold impl_Row_own.t
  repeat' first | exact Sub.ret | exact Sub.none | exact Sub.loop | apply Sub.cond | (apply Sub.bind; intro _)
theorem impl_Row_own.eq (v0 : List Int) {b : (List Int)} (h : impl_Row_own.t some v0 = some b) : impl_Row_own v0 = some b := tOf_intro impl_Row_own.un (fun _ => by kernel_rfl) (vlim_fn (callT_le E tab) rfl rfl rfl ((impl_Row_own.k v0).trans (impl_Row_own.s v0 b h)))
noncomputable def slices_Clone_int_int.t {γ : Type} (ret : ((List Int)) → Option γ) (v0 : List Int) : Option γ :=
  bif Decidable.decide (v0.length ≤ (4294967296 : Nat)) then
    ret (v0)
  else
    none
theorem slices_Clone_int_int.k (v0 : List Int) : extOf 142 (slices_Clone_int_int.c v0) = slices_Clone_int_int.t (fun b => some (slices_Clone_int_int.mk b)) v0 := by kernel_rfl
theorem slices_Clone_int_int.s (v0 : List Int) : Sub slices_Clone_int_int.mk (slices_Clone_int_int.t some v0) (slices_Clone_int_int.t (fun b => some (slices_Clone_int_int.mk b)) v0) := by
  unfold slices_Clone_int_int.t
  repeat' first | exact Sub.ret | exact Sub.none | exact Sub.loop | apply Sub.cond | (apply Sub.bind; intro _)
theorem slices_Clone_int_int.eq (v0 : List Int) {b : (List Int)} (h : slices_Clone_int_int.t some v0 = some b) : slices_Clone_int_int v0 = some b := tOf_intro slices_Clone_int_int.un (fun _ => by kernel_rfl) (vlim_ext (g := extOf 142) rfl ((slices_Clone_int_int.k v0).trans (slices_Clone_int_int.s v0 b h)))
noncomputable def impl_goodOrNone_467.t {γ : Type} (ret : (Int × (List (List Int × Int)) × Bool) → Option γ) (v0 : Int) (v1 : List (List Int × Int)) : Option γ :=
  (impl_GoodTable (v0) (v1)).bind fun (r0 : Bool) =>
  bif !r0 then
    ret ((0 : Int), [], Bool.false)
  else
    ret (v0, v1, Bool.true)
theorem impl_goodOrNone_467.k (v0 : Int) (v1 : List (List Int × Int)) : topL E (callT E tab) 67 Try.f67 (impl_goodOrNone_467.c v0 v1) = impl_goodOrNone_467.t (fun b => some (impl_goodOrNone_467.mk b)) v0 v1 := by kernel_rfl
theorem impl_goodOrNone_467.s (v0 : Int) (v1 : List (List Int × Int)) : Sub impl_goodOrNone_467.mk (impl_goodOrNone_467.t some v0 v1) (impl_goodOrNone_467.t (fun b => some (impl_goodOrNone_467.mk b)) v0 v1) := by
  unfold impl_goodOrNone_467.t
  repeat' first | exact Sub.ret | exact Sub.none | exact Sub.loop | apply Sub.cond | (apply Sub.bind; intro _)
theorem impl_goodOrNone_467.eq (v0 : Int) (v1 : List (List Int × Int)) {b : Int × (List (List Int × Int)) × Bool} (h : impl_goodOrNone_467.t some v0 v1 = some b) : impl_goodOrNone_467 v0 v1 = some b := tOf_intro impl_goodOrNone_467.un (fun _ => by kernel_rfl) (vlim_fn (callT_le E tab) rfl rfl rfl ((impl_goodOrNone_467.k v0 v1).trans (impl_goodOrNone_467.s v0 v1 b h)))
noncomputable def impl_GoodTable.q4 (v0 : Int) (v1 : List (List Int × Int)) (v2 : List (List Int × Int)) (v3 : Int) (v4 : Int) : Option R := loopAtL E (callT E tab) 62 Try.f62 1 [.r, .r, .l, .r, .b] (nn 1 (⟨(.box false), [iL v0, .d .fro (.sl (.pair (.sl (.int .i64)) (.int .i64))) v1], false, false, false, 0, 0⟩ :: nn 14 (vc (.d .fro (.sl (.pair (.sl (.int .i64)) (.int .i64))) v2) :: vc (iL v3) :: vc (iL v4) :: nn 39 ([]))))
noncomputable def impl_GoodTable.l4 (v0 : Int) (v1 : List (List Int × Int)) (v2 : List (List Int × Int)) (v3 : Int) (v4 : Int) : Option (Bool) := tOf impl_GoodTable.mk (impl_GoodTable.q4 v0 v1 v2 v3 v4)
noncomputable def impl_GoodTable.t {γ : Type} (ret : (Bool) → Option γ) (lp4 : Int → (List (List Int × Int)) → (List (List Int × Int)) → Int → Int → Option γ) (v0 : Int) (v1 : List (List Int × Int)) : Option γ :=
  (impl_isColumns (v0)).bind fun (r0 : Bool) =>
  bif !r0 then
    ret (Bool.false)
  else
    bif Decidable.decide ((↑v1.length : Int) > (60 : Int)) then
      ret (Bool.false)
    else
      lp4 (v0) (v1) (v1) ((↑v1.length : Int)) ((0 : Int))
noncomputable def impl_GoodTable.t4 {γ : Type} (ret : (Bool) → Option γ) (lp4 : Int → (List (List Int × Int)) → (List (List Int × Int)) → Int → Int → Option γ) (v0 : Int) (v1 : List (List Int × Int)) (v2 : List (List Int × Int)) (v3 : Int) (v4 : Int) : Option γ :=
  bif Decidable.decide (v4 < v3) then
    bif Decidable.decide ((0 : Int) ≤ v4) then
      bif Decidable.decide (v4.toNat < v2.length) then
        (impl_isRowOf ((v2.getD v4.toNat ([], (0 : Int))).fst) (v0)).bind fun (r1 : Bool) =>
        bif !r1 then
          ret (Bool.false)
        else
          (impl_isWeight ((v2.getD v4.toNat ([], (0 : Int))).snd)).bind fun (r2 : Bool) =>
          bif !r2 then
            ret (Bool.false)
          else
            bif (v2.getD v4.toNat ([], (0 : Int))).snd == (0 : Int) then
              ret (Bool.false)
            else
              bif Decidable.decide (v4 > (0 : Int)) then
                bif Decidable.decide ((0 : Int) ≤ Go.IntKind.i64.wrap (v4 - (1 : Int))) then
                  bif Decidable.decide ((Go.IntKind.i64.wrap (v4 - (1 : Int))).toNat < v1.length) then
                    (impl_compareRows ((v1.getD (Go.IntKind.i64.wrap (v4 - (1 : Int))).toNat ([], (0 : Int))).fst) ((v2.getD v4.toNat ([], (0 : Int))).fst)).bind fun (r3 : Int) =>
                    bif Decidable.decide (r3 ≥ (0 : Int)) then
                      ret (Bool.false)
                    else
                      lp4 (v0) (v1) (v2) (v3) (Go.IntKind.i64.wrap (v4 + (1 : Int)))
                  else
                    none
                else
                  none
              else
                lp4 (v0) (v1) (v2) (v3) (Go.IntKind.i64.wrap (v4 + (1 : Int)))
      else
        none
    else
      none
  else
    ret (Bool.true)
theorem impl_GoodTable.k (v0 : Int) (v1 : List (List Int × Int)) : topL E (callT E tab) 62 Try.f62 (impl_GoodTable.c v0 v1) = impl_GoodTable.t (fun b => some (impl_GoodTable.mk b)) impl_GoodTable.q4 v0 v1 := by kernel_rfl
theorem impl_GoodTable.k4 (v0 : Int) (v1 : List (List Int × Int)) (v2 : List (List Int × Int)) (v3 : Int) (v4 : Int) : roundL E (callT E tab) 62 Try.f62 1 [.r, .r, .l, .r, .b] (nn 1 (⟨(.box false), [iL v0, .d .fro (.sl (.pair (.sl (.int .i64)) (.int .i64))) v1], false, false, false, 0, 0⟩ :: nn 14 (vc (.d .fro (.sl (.pair (.sl (.int .i64)) (.int .i64))) v2) :: vc (iL v3) :: vc (iL v4) :: nn 39 ([])))) = impl_GoodTable.t4 (fun b => some (impl_GoodTable.mk b)) impl_GoodTable.q4 v0 v1 v2 v3 v4 := by kernel_rfl
theorem impl_GoodTable.s (v0 : Int) (v1 : List (List Int × Int)) : Sub impl_GoodTable.mk (impl_GoodTable.t some impl_GoodTable.l4 v0 v1) (impl_GoodTable.t (fun b => some (impl_GoodTable.mk b)) impl_GoodTable.q4 v0 v1) := by
  unfold impl_GoodTable.t
  repeat' first | exact Sub.ret | exact Sub.none | exact Sub.loop | apply Sub.cond | (apply Sub.bind; intro _)
theorem impl_GoodTable.eq (v0 : Int) (v1 : List (List Int × Int)) {b : Bool} (h : impl_GoodTable.t some impl_GoodTable.l4 v0 v1 = some b) : impl_GoodTable v0 v1 = some b := tOf_intro impl_GoodTable.un (fun _ => by kernel_rfl) (vlim_fn (callT_le E tab) rfl rfl rfl ((impl_GoodTable.k v0 v1).trans (impl_GoodTable.s v0 v1 b h)))
theorem impl_GoodTable.s4 (v0 : Int) (v1 : List (List Int × Int)) (v2 : List (List Int × Int)) (v3 : Int) (v4 : Int) : Sub impl_GoodTable.mk (impl_GoodTable.t4 some impl_GoodTable.l4 v0 v1 v2 v3 v4) (impl_GoodTable.t4 (fun b => some (impl_GoodTable.mk b)) impl_GoodTable.q4 v0 v1 v2 v3 v4) := by
  unfold impl_GoodTable.t4
  repeat' first | exact Sub.ret | exact Sub.none | exact Sub.loop | apply Sub.cond | (apply Sub.bind; intro _)
theorem impl_GoodTable.eq4 (v0 : Int) (v1 : List (List Int × Int)) (v2 : List (List Int × Int)) (v3 : Int) (v4 : Int) {b : Bool} (h : impl_GoodTable.t4 some impl_GoodTable.l4 v0 v1 v2 v3 v4 = some b) : impl_GoodTable.l4 v0 v1 v2 v3 v4 = some b := tOf_intro impl_GoodTable.un (fun _ => by kernel_rfl) (loopAtL_step ((impl_GoodTable.k4 v0 v1 v2 v3 v4).trans (impl_GoodTable.s4 v0 v1 v2 v3 v4 b h)))
noncomputable def laws_eqTable.t {γ : Type} (ret : (Bool) → Option γ) (v0 : Int) (v1 : List (List Int × Int)) (v2 : Int) (v3 : List (List Int × Int)) : Option γ :=
  bif v0 != v2 then
    ret (Bool.false)
  else
    (laws_eqWeightedS (v1) (v3)).bind fun (r0 : Bool) =>
    bif !r0 then
      ret (Bool.false)
    else
      ret (Bool.true)
theorem laws_eqTable.k (v0 : Int) (v1 : List (List Int × Int)) (v2 : Int) (v3 : List (List Int × Int)) : topL E (callT E tab) 19 Try.f19 (laws_eqTable.c v0 v1 v2 v3) = laws_eqTable.t (fun b => some (laws_eqTable.mk b)) v0 v1 v2 v3 := by kernel_rfl
theorem laws_eqTable.s (v0 : Int) (v1 : List (List Int × Int)) (v2 : Int) (v3 : List (List Int × Int)) : Sub laws_eqTable.mk (laws_eqTable.t some v0 v1 v2 v3) (laws_eqTable.t (fun b => some (laws_eqTable.mk b)) v0 v1 v2 v3) := by
  unfold laws_eqTable.t
  repeat' first | exact Sub.ret | exact Sub.none | exact Sub.loop | apply Sub.cond | (apply Sub.bind; intro _)
theorem laws_eqTable.eq (v0 : Int) (v1 : List (List Int × Int)) (v2 : Int) (v3 : List (List Int × Int)) {b : Bool} (h : laws_eqTable.t some v0 v1 v2 v3 = some b) : laws_eqTable v0 v1 v2 v3 = some b := tOf_intro laws_eqTable.un (fun _ => by kernel_rfl) (vlim_fn (callT_le E tab) rfl rfl rfl ((laws_eqTable.k v0 v1 v2 v3).trans (laws_eqTable.s v0 v1 v2 v3 b h)))
noncomputable def laws_eqWeightedS.q4 (v0 : List (List Int × Int)) (v1 : List (List Int × Int)) (v2 : Int) : Option R := loopAtL E (callT E tab) 40 Try.f40 2 [.r, .r, .l, .r, .b] (vc (.d .fro (.sl (.pair (.sl (.int .i64)) (.int .i64))) v0) :: vc (.d .fro (.sl (.pair (.sl (.int .i64)) (.int .i64))) v1) :: nn 3 (vc (iL v2) :: nn 21 ([])))
noncomputable def laws_eqWeightedS.l4 (v0 : List (List Int × Int)) (v1 : List (List Int × Int)) (v2 : Int) : Option (Bool) := tOf laws_eqWeightedS.mk (laws_eqWeightedS.q4 v0 v1 v2)
noncomputable def laws_eqWeightedS.t {γ : Type} (ret : (Bool) → Option γ) (lp4 : (List (List Int × Int)) → (List (List Int × Int)) → Int → Option γ) (v0 : List (List Int × Int)) (v1 : List (List Int × Int)) : Option γ :=
  bif (↑v0.length : Int) != (↑v1.length : Int) then
    ret (Bool.false)
  else
    lp4 (v0) (v1) ((0 : Int))
noncomputable def laws_eqWeightedS.t4 {γ : Type} (ret : (Bool) → Option γ) (lp4 : (List (List Int × Int)) → (List (List Int × Int)) → Int → Option γ) (v0 : List (List Int × Int)) (v1 : List (List Int × Int)) (v2 : Int) : Option γ :=
  bif Decidable.decide (v2 < (↑v0.length : Int)) then
    bif Decidable.decide ((0 : Int) ≤ v2) then
      bif Decidable.decide (v2.toNat < v0.length) then
        bif Decidable.decide ((0 : Int) ≤ v2) then
          bif Decidable.decide (v2.toNat < v1.length) then
            (laws_eqWeighted ((v0.getD v2.toNat ([], (0 : Int))).fst) ((v0.getD v2.toNat ([], (0 : Int))).snd) ((v1.getD v2.toNat ([], (0 : Int))).fst) ((v1.getD v2.toNat ([], (0 : Int))).snd)).bind fun (r0 : Bool) =>
            bif !r0 then
              ret (Bool.false)
            else
              lp4 (v0) (v1) (Go.IntKind.i64.wrap (v2 + (1 : Int)))
          else
            none
        else
          none
      else
        none
    else
      none
  else
    ret (Bool.true)
theorem laws_eqWeightedS.k (v0 : List (List Int × Int)) (v1 : List (List Int × Int)) : topL E (callT E tab) 40 Try.f40 (laws_eqWeightedS.c v0 v1) = laws_eqWeightedS.t (fun b => some (laws_eqWeightedS.mk b)) laws_eqWeightedS.q4 v0 v1 := by kernel_rfl
theorem laws_eqWeightedS.k4 (v0 : List (List Int × Int)) (v1 : List (List Int × Int)) (v2 : Int) : roundL E (callT E tab) 40 Try.f40 2 [.r, .r, .l, .r, .b] (vc (.d .fro (.sl (.pair (.sl (.int .i64)) (.int .i64))) v0) :: vc (.d .fro (.sl (.pair (.sl (.int .i64)) (.int .i64))) v1) :: nn 3 (vc (iL v2) :: nn 21 ([]))) = laws_eqWeightedS.t4 (fun b => some (laws_eqWeightedS.mk b)) laws_eqWeightedS.q4 v0 v1 v2 := by kernel_rfl
theorem laws_eqWeightedS.s (v0 : List (List Int × Int)) (v1 : List (List Int × Int)) : Sub laws_eqWeightedS.mk (laws_eqWeightedS.t some laws_eqWeightedS.l4 v0 v1) (laws_eqWeightedS.t (fun b => some (laws_eqWeightedS.mk b)) laws_eqWeightedS.q4 v0 v1) := by
  unfold laws_eqWeightedS.t
  repeat' first | exact Sub.ret | exact Sub.none | exact Sub.loop | apply Sub.cond | (apply Sub.bind; intro _)
theorem laws_eqWeightedS.eq (v0 : List (List Int × Int)) (v1 : List (List Int × Int)) {b : Bool} (h : laws_eqWeightedS.t some laws_eqWeightedS.l4 v0 v1 = some b) : laws_eqWeightedS v0 v1 = some b := tOf_intro laws_eqWeightedS.un (fun _ => by kernel_rfl) (vlim_fn (callT_le E tab) rfl rfl rfl ((laws_eqWeightedS.k v0 v1).trans (laws_eqWeightedS.s v0 v1 b h)))
theorem laws_eqWeightedS.s4 (v0 : List (List Int × Int)) (v1 : List (List Int × Int)) (v2 : Int) : Sub laws_eqWeightedS.mk (laws_eqWeightedS.t4 some laws_eqWeightedS.l4 v0 v1 v2) (laws_eqWeightedS.t4 (fun b => some (laws_eqWeightedS.mk b)) laws_eqWeightedS.q4 v0 v1 v2) := by
  unfold laws_eqWeightedS.t4
  repeat' first | exact Sub.ret | exact Sub.none | exact Sub.loop | apply Sub.cond | (apply Sub.bind; intro _)
theorem laws_eqWeightedS.eq4 (v0 : List (List Int × Int)) (v1 : List (List Int × Int)) (v2 : Int) {b : Bool} (h : laws_eqWeightedS.t4 some laws_eqWeightedS.l4 v0 v1 v2 = some b) : laws_eqWeightedS.l4 v0 v1 v2 = some b := tOf_intro laws_eqWeightedS.un (fun _ => by kernel_rfl) (loopAtL_step ((laws_eqWeightedS.k4 v0 v1 v2).trans (laws_eqWeightedS.s4 v0 v1 v2 b h)))
noncomputable def laws_eqWeighted.t {γ : Type} (ret : (Bool) → Option γ) (v0 : List Int) (v1 : Int) (v2 : List Int) (v3 : Int) : Option γ :=
  (laws_eqRow (v0) (v2)).bind fun (r0 : Bool) =>
  bif !r0 then
    ret (Bool.false)
  else
    bif v1 != v3 then
      ret (Bool.false)
    else
      ret (Bool.true)
theorem laws_eqWeighted.k (v0 : List Int) (v1 : Int) (v2 : List Int) (v3 : Int) : topL E (callT E tab) 94 Try.f94 (laws_eqWeighted.c v0 v1 v2 v3) = laws_eqWeighted.t (fun b => some (laws_eqWeighted.mk b)) v0 v1 v2 v3 := by kernel_rfl
theorem laws_eqWeighted.s (v0 : List Int) (v1 : Int) (v2 : List Int) (v3 : Int) : Sub laws_eqWeighted.mk (laws_eqWeighted.t some v0 v1 v2 v3) (laws_eqWeighted.t (fun b => some (laws_eqWeighted.mk b)) v0 v1 v2 v3) := by
  unfold laws_eqWeighted.t
  repeat' first | exact Sub.ret | exact Sub.none | exact Sub.loop | apply Sub.cond | (apply Sub.bind; intro _)
theorem laws_eqWeighted.eq (v0 : List Int) (v1 : Int) (v2 : List Int) (v3 : Int) {b : Bool} (h : laws_eqWeighted.t some v0 v1 v2 v3 = some b) : laws_eqWeighted v0 v1 v2 v3 = some b := tOf_intro laws_eqWeighted.un (fun _ => by kernel_rfl) (vlim_fn (callT_le E tab) rfl rfl rfl ((laws_eqWeighted.k v0 v1 v2 v3).trans (laws_eqWeighted.s v0 v1 v2 v3 b h)))
noncomputable def laws_eqRow.t {γ : Type} (ret : (Bool) → Option γ) (v0 : List Int) (v1 : List Int) : Option γ :=
  (laws_eqIntS (v0) (v1)).bind fun (r0 : Bool) =>
  bif !r0 then
    ret (Bool.false)
  else
    ret (Bool.true)
theorem laws_eqRow.k (v0 : List Int) (v1 : List Int) : topL E (callT E tab) 131 Try.f131 (laws_eqRow.c v0 v1) = laws_eqRow.t (fun b => some (laws_eqRow.mk b)) v0 v1 := by kernel_rfl
theorem laws_eqRow.s (v0 : List Int) (v1 : List Int) : Sub laws_eqRow.mk (laws_eqRow.t some v0 v1) (laws_eqRow.t (fun b => some (laws_eqRow.mk b)) v0 v1) := by
  unfold laws_eqRow.t
  repeat' first | exact Sub.ret | exact Sub.none | exact Sub.loop | apply Sub.cond | (apply Sub.bind; intro _)
theorem laws_eqRow.eq (v0 : List Int) (v1 : List Int) {b : Bool} (h : laws_eqRow.t some v0 v1 = some b) : laws_eqRow v0 v1 = some b := tOf_intro laws_eqRow.un (fun _ => by kernel_rfl) (vlim_fn (callT_le E tab) rfl rfl rfl ((laws_eqRow.k v0 v1).trans (laws_eqRow.s v0 v1 b h)))
noncomputable def laws_eqIntS.q4 (v0 : List Int) (v1 : List Int) (v2 : Int) : Option R := loopAtL E (callT E tab) 47 Try.f47 2 [.r, .r, .l, .r, .b] (vc (.d .fro (.sl (.int .i64)) v0) :: vc (.d .fro (.sl (.int .i64)) v1) :: nn 3 (vc (iL v2) :: nn 20 ([])))
noncomputable def laws_eqIntS.l4 (v0 : List Int) (v1 : List Int) (v2 : Int) : Option (Bool) := tOf laws_eqIntS.mk (laws_eqIntS.q4 v0 v1 v2)
noncomputable def laws_eqIntS.t {γ : Type} (ret : (Bool) → Option γ) (lp4 : (List Int) → (List Int) → Int → Option γ) (v0 : List Int) (v1 : List Int) : Option γ :=
  bif (↑v0.length : Int) != (↑v1.length : Int) then
    ret (Bool.false)
  else
    lp4 (v0) (v1) ((0 : Int))
noncomputable def laws_eqIntS.t4 {γ : Type} (ret : (Bool) → Option γ) (lp4 : (List Int) → (List Int) → Int → Option γ) (v0 : List Int) (v1 : List Int) (v2 : Int) : Option γ :=
  bif Decidable.decide (v2 < (↑v0.length : Int)) then
    bif Decidable.decide ((0 : Int) ≤ v2) then
      bif Decidable.decide (v2.toNat < v0.length) then
        bif Decidable.decide ((0 : Int) ≤ v2) then
          bif Decidable.decide (v2.toNat < v1.length) then
            bif v0.getD v2.toNat (0 : Int) != v1.getD v2.toNat (0 : Int) then
              ret (Bool.false)
            else
              lp4 (v0) (v1) (Go.IntKind.i64.wrap (v2 + (1 : Int)))
          else
            none
        else
          none
      else
        none
    else
      none
  else
    ret (Bool.true)
theorem laws_eqIntS.k (v0 : List Int) (v1 : List Int) : topL E (callT E tab) 47 Try.f47 (laws_eqIntS.c v0 v1) = laws_eqIntS.t (fun b => some (laws_eqIntS.mk b)) laws_eqIntS.q4 v0 v1 := by kernel_rfl
theorem laws_eqIntS.k4 (v0 : List Int) (v1 : List Int) (v2 : Int) : roundL E (callT E tab) 47 Try.f47 2 [.r, .r, .l, .r, .b] (vc (.d .fro (.sl (.int .i64)) v0) :: vc (.d .fro (.sl (.int .i64)) v1) :: nn 3 (vc (iL v2) :: nn 20 ([]))) = laws_eqIntS.t4 (fun b => some (laws_eqIntS.mk b)) laws_eqIntS.q4 v0 v1 v2 := by kernel_rfl
theorem laws_eqIntS.s (v0 : List Int) (v1 : List Int) : Sub laws_eqIntS.mk (laws_eqIntS.t some laws_eqIntS.l4 v0 v1) (laws_eqIntS.t (fun b => some (laws_eqIntS.mk b)) laws_eqIntS.q4 v0 v1) := by
  unfold laws_eqIntS.t
  repeat' first | exact Sub.ret | exact Sub.none | exact Sub.loop | apply Sub.cond | (apply Sub.bind; intro _)
theorem laws_eqIntS.eq (v0 : List Int) (v1 : List Int) {b : Bool} (h : laws_eqIntS.t some laws_eqIntS.l4 v0 v1 = some b) : laws_eqIntS v0 v1 = some b := tOf_intro laws_eqIntS.un (fun _ => by kernel_rfl) (vlim_fn (callT_le E tab) rfl rfl rfl ((laws_eqIntS.k v0 v1).trans (laws_eqIntS.s v0 v1 b h)))
theorem laws_eqIntS.s4 (v0 : List Int) (v1 : List Int) (v2 : Int) : Sub laws_eqIntS.mk (laws_eqIntS.t4 some laws_eqIntS.l4 v0 v1 v2) (laws_eqIntS.t4 (fun b => some (laws_eqIntS.mk b)) laws_eqIntS.q4 v0 v1 v2) := by
  unfold laws_eqIntS.t4
  repeat' first | exact Sub.ret | exact Sub.none | exact Sub.loop | apply Sub.cond | (apply Sub.bind; intro _)
theorem laws_eqIntS.eq4 (v0 : List Int) (v1 : List Int) (v2 : Int) {b : Bool} (h : laws_eqIntS.t4 some laws_eqIntS.l4 v0 v1 v2 = some b) : laws_eqIntS.l4 v0 v1 v2 = some b := tOf_intro laws_eqIntS.un (fun _ => by kernel_rfl) (loopAtL_step ((laws_eqIntS.k4 v0 v1 v2).trans (laws_eqIntS.s4 v0 v1 v2 b h)))
noncomputable def laws_markWeightedS_d97.q2 (v0 : List (List Int × Int)) (v1 : Int) (v2 : Int) : Option R := loopAtL E (callT E tab) 41 Try.f41 2 [.r, .l, .r, .b] (⟨(.val .one), [.d .deep (.sl (.pair (.sl (.int .i64)) (.int .i64))) v0], true, false, false, 0, 0⟩ :: vc (iL v1) :: nn 3 (vc (iL v2) :: nn 22 ([])))
noncomputable def laws_markWeightedS_d97.l2 (v0 : List (List Int × Int)) (v1 : Int) (v2 : Int) : Option (Int × (List (List Int × Int))) := tOf laws_markWeightedS_d97.mk (laws_markWeightedS_d97.q2 v0 v1 v2)
noncomputable def laws_markWeightedS_d97.t {γ : Type} (ret : (Int × (List (List Int × Int))) → Option γ) (lp2 : (List (List Int × Int)) → Int → Int → Option γ) (v0 : List (List Int × Int)) (v1 : Int) : Option γ :=
  lp2 (v0) (v1) ((0 : Int))
noncomputable def laws_markWeightedS_d97.t2 {γ : Type} (ret : (Int × (List (List Int × Int))) → Option γ) (lp2 : (List (List Int × Int)) → Int → Int → Option γ) (v0 : List (List Int × Int)) (v1 : Int) (v2 : Int) : Option γ :=
  bif Decidable.decide (v2 < (↑v0.length : Int)) then
    bif Decidable.decide ((0 : Int) ≤ v2) then
      bif Decidable.decide (v2.toNat < v0.length) then
        bif Decidable.decide (v2.toNat < v0.length) then
          bif Decidable.decide (v2.toNat < v0.length) then
            (laws_markIntS_83f ((v0.getD v2.toNat ([], (0 : Int))).fst) (v1)).bind fun (r0 : Int × (List Int)) =>
            bif Decidable.decide (v2.toNat = v2.toNat) &&   (Decidable.decide ((0 : Nat) + (0 : Nat) + (0 : Nat) = (0 : Nat) + (0 : Nat) + (0 : Nat)) &&     Decidable.decide ((1 : Nat) + (1 : Nat) = (1 : Nat) + (1 : Nat))) then
              bif Decidable.decide (v2.toNat < v0.length) then
                bif Decidable.decide ((0 : Int) ≤ v2) then
                  bif Decidable.decide (v2.toNat < (v0.set v2.toNat (r0.snd, (v0.getD v2.toNat ([], (0 : Int))).snd)).length) then
                    bif Decidable.decide (v2.toNat < (v0.set v2.toNat (r0.snd, (v0.getD v2.toNat ([], (0 : Int))).snd)).length) then
                      lp2 ((v0.set v2.toNat (r0.snd, (v0.getD v2.toNat ([], (0 : Int))).snd)).set v2.toNat   (((v0.set v2.toNat (r0.snd, (v0.getD v2.toNat ([], (0 : Int))).snd)).getD v2.toNat ([], (0 : Int))).fst, r0.fst)) (Go.IntKind.i64.wrap (r0.fst + (1 : Int))) (Go.IntKind.i64.wrap (v2 + (1 : Int)))
                    else
                      none
                  else
                    none
                else
                  none
              else
                none
            else
              none
          else
            none
        else
          none
      else
        none
    else
      none
  else
    ret (v1, v0)
theorem laws_markWeightedS_d97.k (v0 : List (List Int × Int)) (v1 : Int) : topL E (callT E tab) 41 Try.f41 (laws_markWeightedS_d97.c v0 v1) = laws_markWeightedS_d97.t (fun b => some (laws_markWeightedS_d97.mk b)) laws_markWeightedS_d97.q2 v0 v1 := by kernel_rfl
theorem laws_markWeightedS_d97.k2 (v0 : List (List Int × Int)) (v1 : Int) (v2 : Int) : roundL E (callT E tab) 41 Try.f41 2 [.r, .l, .r, .b] (⟨(.val .one), [.d .deep (.sl (.pair (.sl (.int .i64)) (.int .i64))) v0], true, false, false, 0, 0⟩ :: vc (iL v1) :: nn 3 (vc (iL v2) :: nn 22 ([]))) = laws_markWeightedS_d97.t2 (fun b => some (laws_markWeightedS_d97.mk b)) laws_markWeightedS_d97.q2 v0 v1 v2 := by kernel_rfl
theorem laws_markWeightedS_d97.s (v0 : List (List Int × Int)) (v1 : Int) : Sub laws_markWeightedS_d97.mk (laws_markWeightedS_d97.t some laws_markWeightedS_d97.l2 v0 v1) (laws_markWeightedS_d97.t (fun b => some (laws_markWeightedS_d97.mk b)) laws_markWeightedS_d97.q2 v0 v1) := by
  unfold laws_markWeightedS_d97.t
  repeat' first | exact Sub.ret | exact Sub.none | exact Sub.loop | apply Sub.cond | (apply Sub.bind; intro _)
theorem laws_markWeightedS_d97.eq (v0 : List (List Int × Int)) (v1 : Int) {b : Int × (List (List Int × Int))} (h : laws_markWeightedS_d97.t some laws_markWeightedS_d97.l2 v0 v1 = some b) : laws_markWeightedS_d97 v0 v1 = some b := tOf_intro laws_markWeightedS_d97.un (fun _ => by kernel_rfl) (vlim_fn (callT_le E tab) rfl rfl rfl ((laws_markWeightedS_d97.k v0 v1).trans (laws_markWeightedS_d97.s v0 v1 b h)))
theorem laws_markWeightedS_d97.s2 (v0 : List (List Int × Int)) (v1 : Int) (v2 : Int) : Sub laws_markWeightedS_d97.mk (laws_markWeightedS_d97.t2 some laws_markWeightedS_d97.l2 v0 v1 v2) (laws_markWeightedS_d97.t2 (fun b => some (laws_markWeightedS_d97.mk b)) laws_markWeightedS_d97.q2 v0 v1 v2) := by
  unfold laws_markWeightedS_d97.t2
  repeat' first | exact Sub.ret | exact Sub.none | exact Sub.loop | apply Sub.cond | (apply Sub.bind; intro _)
theorem laws_markWeightedS_d97.eq2 (v0 : List (List Int × Int)) (v1 : Int) (v2 : Int) {b : Int × (List (List Int × Int))} (h : laws_markWeightedS_d97.t2 some laws_markWeightedS_d97.l2 v0 v1 v2 = some b) : laws_markWeightedS_d97.l2 v0 v1 v2 = some b := tOf_intro laws_markWeightedS_d97.un (fun _ => by kernel_rfl) (loopAtL_step ((laws_markWeightedS_d97.k2 v0 v1 v2).trans (laws_markWeightedS_d97.s2 v0 v1 v2 b h)))
noncomputable def laws_markIntS_83f.q2 (v0 : List Int) (v1 : Int) (v2 : Int) : Option R := loopAtL E (callT E tab) 48 Try.f48 2 [.r, .l, .r, .b] (⟨(.val .one), [.d .deep (.sl (.int .i64)) v0], true, false, false, 0, 0⟩ :: vc (iL v1) :: nn 3 (vc (iL v2) :: nn 13 ([])))
noncomputable def laws_markIntS_83f.l2 (v0 : List Int) (v1 : Int) (v2 : Int) : Option (Int × (List Int)) := tOf laws_markIntS_83f.mk (laws_markIntS_83f.q2 v0 v1 v2)
noncomputable def laws_markIntS_83f.t {γ : Type} (ret : (Int × (List Int)) → Option γ) (lp2 : (List Int) → Int → Int → Option γ) (v0 : List Int) (v1 : Int) : Option γ :=
  lp2 (v0) (v1) ((0 : Int))
noncomputable def laws_markIntS_83f.t2 {γ : Type} (ret : (Int × (List Int)) → Option γ) (lp2 : (List Int) → Int → Int → Option γ) (v0 : List Int) (v1 : Int) (v2 : Int) : Option γ :=
  bif Decidable.decide (v2 < (↑v0.length : Int)) then
    bif Decidable.decide ((0 : Int) ≤ v2) then
      bif Decidable.decide (v2.toNat < v0.length) then
        bif Decidable.decide (v2.toNat < v0.length) then
          lp2 (v0.set v2.toNat v1) (Go.IntKind.i64.wrap (v1 + (1 : Int))) (Go.IntKind.i64.wrap (v2 + (1 : Int)))
        else
          none
      else
        none
    else
      none
  else
    ret (v1, v0)
theorem laws_markIntS_83f.k (v0 : List Int) (v1 : Int) : topL E (callT E tab) 48 Try.f48 (laws_markIntS_83f.c v0 v1) = laws_markIntS_83f.t (fun b => some (laws_markIntS_83f.mk b)) laws_markIntS_83f.q2 v0 v1 := by kernel_rfl
theorem laws_markIntS_83f.k2 (v0 : List Int) (v1 : Int) (v2 : Int) : roundL E (callT E tab) 48 Try.f48 2 [.r, .l, .r, .b] (⟨(.val .one), [.d .deep (.sl (.int .i64)) v0], true, false, false, 0, 0⟩ :: vc (iL v1) :: nn 3 (vc (iL v2) :: nn 13 ([]))) = laws_markIntS_83f.t2 (fun b => some (laws_markIntS_83f.mk b)) laws_markIntS_83f.q2 v0 v1 v2 := by kernel_rfl
theorem laws_markIntS_83f.s (v0 : List Int) (v1 : Int) : Sub laws_markIntS_83f.mk (laws_markIntS_83f.t some laws_markIntS_83f.l2 v0 v1) (laws_markIntS_83f.t (fun b => some (laws_markIntS_83f.mk b)) laws_markIntS_83f.q2 v0 v1) := by
  unfold laws_markIntS_83f.t
  repeat' first | exact Sub.ret | exact Sub.none | exact Sub.loop | apply Sub.cond | (apply Sub.bind; intro _)
theorem laws_markIntS_83f.eq (v0 : List Int) (v1 : Int) {b : Int × (List Int)} (h : laws_markIntS_83f.t some laws_markIntS_83f.l2 v0 v1 = some b) : laws_markIntS_83f v0 v1 = some b := tOf_intro laws_markIntS_83f.un (fun _ => by kernel_rfl) (vlim_fn (callT_le E tab) rfl rfl rfl ((laws_markIntS_83f.k v0 v1).trans (laws_markIntS_83f.s v0 v1 b h)))
theorem laws_markIntS_83f.s2 (v0 : List Int) (v1 : Int) (v2 : Int) : Sub laws_markIntS_83f.mk (laws_markIntS_83f.t2 some laws_markIntS_83f.l2 v0 v1 v2) (laws_markIntS_83f.t2 (fun b => some (laws_markIntS_83f.mk b)) laws_markIntS_83f.q2 v0 v1 v2) := by
  unfold laws_markIntS_83f.t2
  repeat' first | exact Sub.ret | exact Sub.none | exact Sub.loop | apply Sub.cond | (apply Sub.bind; intro _)
theorem laws_markIntS_83f.eq2 (v0 : List Int) (v1 : Int) (v2 : Int) {b : Int × (List Int)} (h : laws_markIntS_83f.t2 some laws_markIntS_83f.l2 v0 v1 v2 = some b) : laws_markIntS_83f.l2 v0 v1 v2 = some b := tOf_intro laws_markIntS_83f.un (fun _ => by kernel_rfl) (loopAtL_step ((laws_markIntS_83f.k2 v0 v1 v2).trans (laws_markIntS_83f.s2 v0 v1 v2 b h)))
noncomputable def laws_markTable_d7a.t {γ : Type} (ret : (Int × Int × (List (List Int × Int))) → Option γ) (v0 : Int) (v1 : List (List Int × Int)) (v2 : Int) : Option γ :=
  (laws_markWeightedS_d97 (v1) (v2)).bind fun (r0 : Int × (List (List Int × Int))) =>
  ret (r0.fst, v0, r0.snd)
theorem laws_markTable_d7a.k (v0 : Int) (v1 : List (List Int × Int)) (v2 : Int) : topL E (callT E tab) 20 Try.f20 (laws_markTable_d7a.c v0 v1 v2) = laws_markTable_d7a.t (fun b => some (laws_markTable_d7a.mk b)) v0 v1 v2 := by kernel_rfl
theorem laws_markTable_d7a.s (v0 : Int) (v1 : List (List Int × Int)) (v2 : Int) : Sub laws_markTable_d7a.mk (laws_markTable_d7a.t some v0 v1 v2) (laws_markTable_d7a.t (fun b => some (laws_markTable_d7a.mk b)) v0 v1 v2) := by
  unfold laws_markTable_d7a.t
  repeat' first | exact Sub.ret | exact Sub.none | exact Sub.loop | apply Sub.cond | (apply Sub.bind; intro _)
theorem laws_markTable_d7a.eq (v0 : Int) (v1 : List (List Int × Int)) (v2 : Int) {b : Int × Int × (List (List Int × Int))} (h : laws_markTable_d7a.t some v0 v1 v2 = some b) : laws_markTable_d7a v0 v1 v2 = some b := tOf_intro laws_markTable_d7a.un (fun _ => by kernel_rfl) (vlim_fn (callT_le E tab) rfl rfl rfl ((laws_markTable_d7a.k v0 v1 v2).trans (laws_markTable_d7a.s v0 v1 v2 b h)))
noncomputable def laws_heldTable.t {γ : Type} (ret : (Int) → Option γ) (v0 : Int) (v1 : List (List Int × Int)) (v2 : Int) : Option γ :=
  (laws_heldWeightedS (v1) (v2)).bind fun (r0 : Int) =>
  bif Decidable.decide (r0 < (0 : Int)) then
    ret ((-1 : Int))
  else
    ret (r0)
theorem laws_heldTable.k (v0 : Int) (v1 : List (List Int × Int)) (v2 : Int) : topL E (callT E tab) 21 Try.f21 (laws_heldTable.c v0 v1 v2) = laws_heldTable.t (fun b => some (laws_heldTable.mk b)) v0 v1 v2 := by kernel_rfl
theorem laws_heldTable.s (v0 : Int) (v1 : List (List Int × Int)) (v2 : Int) : Sub laws_heldTable.mk (laws_heldTable.t some v0 v1 v2) (laws_heldTable.t (fun b => some (laws_heldTable.mk b)) v0 v1 v2) := by
  unfold laws_heldTable.t
  repeat' first | exact Sub.ret | exact Sub.none | exact Sub.loop | apply Sub.cond | (apply Sub.bind; intro _)
theorem laws_heldTable.eq (v0 : Int) (v1 : List (List Int × Int)) (v2 : Int) {b : Int} (h : laws_heldTable.t some v0 v1 v2 = some b) : laws_heldTable v0 v1 v2 = some b := tOf_intro laws_heldTable.un (fun _ => by kernel_rfl) (vlim_fn (callT_le E tab) rfl rfl rfl ((laws_heldTable.k v0 v1 v2).trans (laws_heldTable.s v0 v1 v2 b h)))
noncomputable def laws_heldWeightedS.q2 (v0 : List (List Int × Int)) (v1 : Int) (v2 : Int) : Option R := loopAtL E (callT E tab) 64 Try.f64 2 [.r, .l, .r, .b] (vc (.d .fro (.sl (.pair (.sl (.int .i64)) (.int .i64))) v0) :: vc (iL v1) :: nn 3 (vc (iL v2) :: nn 26 ([])))
noncomputable def laws_heldWeightedS.l2 (v0 : List (List Int × Int)) (v1 : Int) (v2 : Int) : Option (Int) := tOf laws_heldWeightedS.mk (laws_heldWeightedS.q2 v0 v1 v2)
noncomputable def laws_heldWeightedS.t {γ : Type} (ret : (Int) → Option γ) (lp2 : (List (List Int × Int)) → Int → Int → Option γ) (v0 : List (List Int × Int)) (v1 : Int) : Option γ :=
  lp2 (v0) (v1) ((0 : Int))
noncomputable def laws_heldWeightedS.t2 {γ : Type} (ret : (Int) → Option γ) (lp2 : (List (List Int × Int)) → Int → Int → Option γ) (v0 : List (List Int × Int)) (v1 : Int) (v2 : Int) : Option γ :=
  bif Decidable.decide (v2 < (↑v0.length : Int)) then
    bif Decidable.decide ((0 : Int) ≤ v2) then
      bif Decidable.decide (v2.toNat < v0.length) then
        (laws_heldIntS ((v0.getD v2.toNat ([], (0 : Int))).fst) (v1)).bind fun (r0 : Int) =>
        bif Decidable.decide (r0 < (0 : Int)) then
          ret ((-1 : Int))
        else
          bif Decidable.decide ((0 : Int) ≤ v2) then
            bif Decidable.decide (v2.toNat < v0.length) then
              bif (v0.getD v2.toNat ([], (0 : Int))).snd != r0 then
                ret ((-1 : Int))
              else
                lp2 (v0) (Go.IntKind.i64.wrap (r0 + (1 : Int))) (Go.IntKind.i64.wrap (v2 + (1 : Int)))
            else
              none
          else
            none
      else
        none
    else
      none
  else
    ret (v1)
theorem laws_heldWeightedS.k (v0 : List (List Int × Int)) (v1 : Int) : topL E (callT E tab) 64 Try.f64 (laws_heldWeightedS.c v0 v1) = laws_heldWeightedS.t (fun b => some (laws_heldWeightedS.mk b)) laws_heldWeightedS.q2 v0 v1 := by kernel_rfl
theorem laws_heldWeightedS.k2 (v0 : List (List Int × Int)) (v1 : Int) (v2 : Int) : roundL E (callT E tab) 64 Try.f64 2 [.r, .l, .r, .b] (vc (.d .fro (.sl (.pair (.sl (.int .i64)) (.int .i64))) v0) :: vc (iL v1) :: nn 3 (vc (iL v2) :: nn 26 ([]))) = laws_heldWeightedS.t2 (fun b => some (laws_heldWeightedS.mk b)) laws_heldWeightedS.q2 v0 v1 v2 := by kernel_rfl
theorem laws_heldWeightedS.s (v0 : List (List Int × Int)) (v1 : Int) : Sub laws_heldWeightedS.mk (laws_heldWeightedS.t some laws_heldWeightedS.l2 v0 v1) (laws_heldWeightedS.t (fun b => some (laws_heldWeightedS.mk b)) laws_heldWeightedS.q2 v0 v1) := by
  unfold laws_heldWeightedS.t
  repeat' first | exact Sub.ret | exact Sub.none | exact Sub.loop | apply Sub.cond | (apply Sub.bind; intro _)
theorem laws_heldWeightedS.eq (v0 : List (List Int × Int)) (v1 : Int) {b : Int} (h : laws_heldWeightedS.t some laws_heldWeightedS.l2 v0 v1 = some b) : laws_heldWeightedS v0 v1 = some b := tOf_intro laws_heldWeightedS.un (fun _ => by kernel_rfl) (vlim_fn (callT_le E tab) rfl rfl rfl ((laws_heldWeightedS.k v0 v1).trans (laws_heldWeightedS.s v0 v1 b h)))
theorem laws_heldWeightedS.s2 (v0 : List (List Int × Int)) (v1 : Int) (v2 : Int) : Sub laws_heldWeightedS.mk (laws_heldWeightedS.t2 some laws_heldWeightedS.l2 v0 v1 v2) (laws_heldWeightedS.t2 (fun b => some (laws_heldWeightedS.mk b)) laws_heldWeightedS.q2 v0 v1 v2) := by
  unfold laws_heldWeightedS.t2
  repeat' first | exact Sub.ret | exact Sub.none | exact Sub.loop | apply Sub.cond | (apply Sub.bind; intro _)
theorem laws_heldWeightedS.eq2 (v0 : List (List Int × Int)) (v1 : Int) (v2 : Int) {b : Int} (h : laws_heldWeightedS.t2 some laws_heldWeightedS.l2 v0 v1 v2 = some b) : laws_heldWeightedS.l2 v0 v1 v2 = some b := tOf_intro laws_heldWeightedS.un (fun _ => by kernel_rfl) (loopAtL_step ((laws_heldWeightedS.k2 v0 v1 v2).trans (laws_heldWeightedS.s2 v0 v1 v2 b h)))
noncomputable def laws_heldIntS.q2 (v0 : List Int) (v1 : Int) (v2 : Int) : Option R := loopAtL E (callT E tab) 110 Try.f110 2 [.r, .l, .r, .b] (vc (.d .fro (.sl (.int .i64)) v0) :: vc (iL v1) :: nn 3 (vc (iL v2) :: nn 15 ([])))
noncomputable def laws_heldIntS.l2 (v0 : List Int) (v1 : Int) (v2 : Int) : Option (Int) := tOf laws_heldIntS.mk (laws_heldIntS.q2 v0 v1 v2)
noncomputable def laws_heldIntS.t {γ : Type} (ret : (Int) → Option γ) (lp2 : (List Int) → Int → Int → Option γ) (v0 : List Int) (v1 : Int) : Option γ :=
  lp2 (v0) (v1) ((0 : Int))
noncomputable def laws_heldIntS.t2 {γ : Type} (ret : (Int) → Option γ) (lp2 : (List Int) → Int → Int → Option γ) (v0 : List Int) (v1 : Int) (v2 : Int) : Option γ :=
  bif Decidable.decide (v2 < (↑v0.length : Int)) then
    bif Decidable.decide ((0 : Int) ≤ v2) then
      bif Decidable.decide (v2.toNat < v0.length) then
        bif v0.getD v2.toNat (0 : Int) != v1 then
          ret ((-1 : Int))
        else
          lp2 (v0) (Go.IntKind.i64.wrap (v1 + (1 : Int))) (Go.IntKind.i64.wrap (v2 + (1 : Int)))
      else
        none
    else
      none
  else
    ret (v1)
theorem laws_heldIntS.k (v0 : List Int) (v1 : Int) : topL E (callT E tab) 110 Try.f110 (laws_heldIntS.c v0 v1) = laws_heldIntS.t (fun b => some (laws_heldIntS.mk b)) laws_heldIntS.q2 v0 v1 := by kernel_rfl
theorem laws_heldIntS.k2 (v0 : List Int) (v1 : Int) (v2 : Int) : roundL E (callT E tab) 110 Try.f110 2 [.r, .l, .r, .b] (vc (.d .fro (.sl (.int .i64)) v0) :: vc (iL v1) :: nn 3 (vc (iL v2) :: nn 15 ([]))) = laws_heldIntS.t2 (fun b => some (laws_heldIntS.mk b)) laws_heldIntS.q2 v0 v1 v2 := by kernel_rfl
theorem laws_heldIntS.s (v0 : List Int) (v1 : Int) : Sub laws_heldIntS.mk (laws_heldIntS.t some laws_heldIntS.l2 v0 v1) (laws_heldIntS.t (fun b => some (laws_heldIntS.mk b)) laws_heldIntS.q2 v0 v1) := by
  unfold laws_heldIntS.t
  repeat' first | exact Sub.ret | exact Sub.none | exact Sub.loop | apply Sub.cond | (apply Sub.bind; intro _)
theorem laws_heldIntS.eq (v0 : List Int) (v1 : Int) {b : Int} (h : laws_heldIntS.t some laws_heldIntS.l2 v0 v1 = some b) : laws_heldIntS v0 v1 = some b := tOf_intro laws_heldIntS.un (fun _ => by kernel_rfl) (vlim_fn (callT_le E tab) rfl rfl rfl ((laws_heldIntS.k v0 v1).trans (laws_heldIntS.s v0 v1 b h)))
theorem laws_heldIntS.s2 (v0 : List Int) (v1 : Int) (v2 : Int) : Sub laws_heldIntS.mk (laws_heldIntS.t2 some laws_heldIntS.l2 v0 v1 v2) (laws_heldIntS.t2 (fun b => some (laws_heldIntS.mk b)) laws_heldIntS.q2 v0 v1 v2) := by
  unfold laws_heldIntS.t2
  repeat' first | exact Sub.ret | exact Sub.none | exact Sub.loop | apply Sub.cond | (apply Sub.bind; intro _)
theorem laws_heldIntS.eq2 (v0 : List Int) (v1 : Int) (v2 : Int) {b : Int} (h : laws_heldIntS.t2 some laws_heldIntS.l2 v0 v1 v2 = some b) : laws_heldIntS.l2 v0 v1 v2 = some b := tOf_intro laws_heldIntS.un (fun _ => by kernel_rfl) (loopAtL_step ((laws_heldIntS.k2 v0 v1 v2).trans (laws_heldIntS.s2 v0 v1 v2 b h)))
noncomputable def laws_szTable.t {γ : Type} (ret : (Int) → Option γ) (v0 : Int) (v1 : List (List Int × Int)) (v2 : Int) : Option γ :=
  (laws_szWeightedS (v1) (v2)).bind fun (r0 : Int) =>
  bif Decidable.decide (r0 < (0 : Int)) then
    ret ((-1 : Int))
  else
    ret (r0)
theorem laws_szTable.k (v0 : Int) (v1 : List (List Int × Int)) (v2 : Int) : topL E (callT E tab) 15 Try.f15 (laws_szTable.c v0 v1 v2) = laws_szTable.t (fun b => some (laws_szTable.mk b)) v0 v1 v2 := by kernel_rfl
theorem laws_szTable.s (v0 : Int) (v1 : List (List Int × Int)) (v2 : Int) : Sub laws_szTable.mk (laws_szTable.t some v0 v1 v2) (laws_szTable.t (fun b => some (laws_szTable.mk b)) v0 v1 v2) := by
  unfold laws_szTable.t
  repeat' first | exact Sub.ret | exact Sub.none | exact Sub.loop | apply Sub.cond | (apply Sub.bind; intro _)
theorem laws_szTable.eq (v0 : Int) (v1 : List (List Int × Int)) (v2 : Int) {b : Int} (h : laws_szTable.t some v0 v1 v2 = some b) : laws_szTable v0 v1 v2 = some b := tOf_intro laws_szTable.un (fun _ => by kernel_rfl) (vlim_fn (callT_le E tab) rfl rfl rfl ((laws_szTable.k v0 v1 v2).trans (laws_szTable.s v0 v1 v2 b h)))
noncomputable def laws_toTable.t {γ : Type} (ret : (Int × (List (List Int × Int))) → Option γ) (v0 : Int) (v1 : List (List Int × Int)) : Option γ :=
  (laws_toWeightedS (v1)).bind fun (r0 : (List (List Int × Int))) =>
  ret (v0, r0)
theorem laws_toTable.k (v0 : Int) (v1 : List (List Int × Int)) : topL E (callT E tab) 17 Try.f17 (laws_toTable.c v0 v1) = laws_toTable.t (fun b => some (laws_toTable.mk b)) v0 v1 := by kernel_rfl
theorem laws_toTable.s (v0 : Int) (v1 : List (List Int × Int)) : Sub laws_toTable.mk (laws_toTable.t some v0 v1) (laws_toTable.t (fun b => some (laws_toTable.mk b)) v0 v1) := by
  unfold laws_toTable.t
  repeat' first | exact Sub.ret | exact Sub.none | exact Sub.loop | apply Sub.cond | (apply Sub.bind; intro _)
theorem laws_toTable.eq (v0 : Int) (v1 : List (List Int × Int)) {b : Int × (List (List Int × Int))} (h : laws_toTable.t some v0 v1 = some b) : laws_toTable v0 v1 = some b := tOf_intro laws_toTable.un (fun _ => by kernel_rfl) (vlim_fn (callT_le E tab) rfl rfl rfl ((laws_toTable.k v0 v1).trans (laws_toTable.s v0 v1 b h)))
noncomputable def spec_ProjectTable.t {γ : Type} (ret : (Int × (List (List Int × Int)) × Bool) → Option γ) (v0 : Int) (v1 : List (List Int × Int)) (v2 : List Int) : Option γ :=
  (spec_GoodTable (v0) (v1)).bind fun (r0 : Bool) =>
  bif !r0 then
    ret ((0 : Int), [], Bool.false)
  else
    (spec_l1Columns (v2) (v0)).bind fun (r1 : Bool) =>
    bif !r1 then
      ret ((0 : Int), [], Bool.false)
    else
      (spec_l3Project (v1) (v2)).bind fun (r2 : (List (List Int × Int))) =>
      (spec_l2Tell ((↑v2.length : Int)) (r2)).bind fun (r3 : Int × (List (List Int × Int)) × Bool) =>
      ret (r3.fst, r3.snd.fst, r3.snd.snd)
theorem spec_ProjectTable.k (v0 : Int) (v1 : List (List Int × Int)) (v2 : List Int) : topL E (callT E tab) 44 Try.f44 (spec_ProjectTable.c v0 v1 v2) = spec_ProjectTable.t (fun b => some (spec_ProjectTable.mk b)) v0 v1 v2 := by kernel_rfl
theorem spec_ProjectTable.s (v0 : Int) (v1 : List (List Int × Int)) (v2 : List Int) : Sub spec_ProjectTable.mk (spec_ProjectTable.t some v0 v1 v2) (spec_ProjectTable.t (fun b => some (spec_ProjectTable.mk b)) v0 v1 v2) := by
  unfold spec_ProjectTable.t
  repeat' first | exact Sub.ret | exact Sub.none | exact Sub.loop | apply Sub.cond | (apply Sub.bind; intro _)
theorem spec_ProjectTable.eq (v0 : Int) (v1 : List (List Int × Int)) (v2 : List Int) {b : Int × (List (List Int × Int)) × Bool} (h : spec_ProjectTable.t some v0 v1 v2 = some b) : spec_ProjectTable v0 v1 v2 = some b := tOf_intro spec_ProjectTable.un (fun _ => by kernel_rfl) (vlim_fn (callT_le E tab) rfl rfl rfl ((spec_ProjectTable.k v0 v1 v2).trans (spec_ProjectTable.s v0 v1 v2 b h)))
noncomputable def spec_l1Columns.q2 (v0 : List Int) (v1 : Int) (v2 : List Int) (v3 : Int) (v4 : Int) : Option R := loopAtL E (callT E tab) 96 Try.f96 2 [.r, .l, .r, .b] (vc (.d .fro (.sl (.int .i64)) v0) :: vc (iL v1) :: nn 5 (vc (.d .fro (.sl (.int .i64)) v2) :: vc (iL v3) :: vc (iL v4) :: nn 14 ([])))
noncomputable def spec_l1Columns.l2 (v0 : List Int) (v1 : Int) (v2 : List Int) (v3 : Int) (v4 : Int) : Option (Bool) := tOf spec_l1Columns.mk (spec_l1Columns.q2 v0 v1 v2 v3 v4)
noncomputable def spec_l1Columns.t {γ : Type} (ret : (Bool) → Option γ) (lp2 : (List Int) → Int → (List Int) → Int → Int → Option γ) (v0 : List Int) (v1 : Int) : Option γ :=
  lp2 (v0) (v1) (v0) ((↑v0.length : Int)) ((0 : Int))
noncomputable def spec_l1Columns.t2 {γ : Type} (ret : (Bool) → Option γ) (lp2 : (List Int) → Int → (List Int) → Int → Int → Option γ) (v0 : List Int) (v1 : Int) (v2 : List Int) (v3 : Int) (v4 : Int) : Option γ :=
  bif Decidable.decide (v4 < v3) then
    bif Decidable.decide ((0 : Int) ≤ v4) then
      bif Decidable.decide (v4.toNat < v2.length) then
        bif Decidable.decide (v2.getD v4.toNat (0 : Int) < (0 : Int)) then
          ret (Bool.false)
        else
          bif Decidable.decide (v2.getD v4.toNat (0 : Int) ≥ v1) then
            ret (Bool.false)
          else
            lp2 (v0) (v1) (v2) (v3) (Go.IntKind.i64.wrap (v4 + (1 : Int)))
      else
        none
    else
      none
  else
    ret (Decidable.decide ((↑v0.length : Int) ≤ (6 : Int)))
theorem spec_l1Columns.k (v0 : List Int) (v1 : Int) : topL E (callT E tab) 96 Try.f96 (spec_l1Columns.c v0 v1) = spec_l1Columns.t (fun b => some (spec_l1Columns.mk b)) spec_l1Columns.q2 v0 v1 := by kernel_rfl
theorem spec_l1Columns.k2 (v0 : List Int) (v1 : Int) (v2 : List Int) (v3 : Int) (v4 : Int) : roundL E (callT E tab) 96 Try.f96 2 [.r, .l, .r, .b] (vc (.d .fro (.sl (.int .i64)) v0) :: vc (iL v1) :: nn 5 (vc (.d .fro (.sl (.int .i64)) v2) :: vc (iL v3) :: vc (iL v4) :: nn 14 ([]))) = spec_l1Columns.t2 (fun b => some (spec_l1Columns.mk b)) spec_l1Columns.q2 v0 v1 v2 v3 v4 := by kernel_rfl
theorem spec_l1Columns.s (v0 : List Int) (v1 : Int) : Sub spec_l1Columns.mk (spec_l1Columns.t some spec_l1Columns.l2 v0 v1) (spec_l1Columns.t (fun b => some (spec_l1Columns.mk b)) spec_l1Columns.q2 v0 v1) := by
  unfold spec_l1Columns.t
  repeat' first | exact Sub.ret | exact Sub.none | exact Sub.loop | apply Sub.cond | (apply Sub.bind; intro _)
theorem spec_l1Columns.eq (v0 : List Int) (v1 : Int) {b : Bool} (h : spec_l1Columns.t some spec_l1Columns.l2 v0 v1 = some b) : spec_l1Columns v0 v1 = some b := tOf_intro spec_l1Columns.un (fun _ => by kernel_rfl) (vlim_fn (callT_le E tab) rfl rfl rfl ((spec_l1Columns.k v0 v1).trans (spec_l1Columns.s v0 v1 b h)))
theorem spec_l1Columns.s2 (v0 : List Int) (v1 : Int) (v2 : List Int) (v3 : Int) (v4 : Int) : Sub spec_l1Columns.mk (spec_l1Columns.t2 some spec_l1Columns.l2 v0 v1 v2 v3 v4) (spec_l1Columns.t2 (fun b => some (spec_l1Columns.mk b)) spec_l1Columns.q2 v0 v1 v2 v3 v4) := by
  unfold spec_l1Columns.t2
  repeat' first | exact Sub.ret | exact Sub.none | exact Sub.loop | apply Sub.cond | (apply Sub.bind; intro _)
theorem spec_l1Columns.eq2 (v0 : List Int) (v1 : Int) (v2 : List Int) (v3 : Int) (v4 : Int) {b : Bool} (h : spec_l1Columns.t2 some spec_l1Columns.l2 v0 v1 v2 v3 v4 = some b) : spec_l1Columns.l2 v0 v1 v2 v3 v4 = some b := tOf_intro spec_l1Columns.un (fun _ => by kernel_rfl) (loopAtL_step ((spec_l1Columns.k2 v0 v1 v2 v3 v4).trans (spec_l1Columns.s2 v0 v1 v2 v3 v4 b h)))
noncomputable def spec_l3Project.q3 (v0 : List Int) (v1 : List (List Int × Int)) (v2 : List (List Int × Int)) (v3 : Int) (v4 : Int) : Option R := loopAtL E (callT E tab) 97 Try.f97 2 [.r, .r, .l, .r, .b] (nn 1 (vc (.d .fro (.sl (.int .i64)) v0) :: nn 3 (vc (.d .sha (.sl (.pair (.sl (.int .i64)) (.int .i64))) v1) :: nn 2 (vc (.d .fro (.sl (.pair (.sl (.int .i64)) (.int .i64))) v2) :: vc (iL v3) :: vc (iL v4) :: nn 13 ([])))))
noncomputable def spec_l3Project.l3 (v0 : List Int) (v1 : List (List Int × Int)) (v2 : List (List Int × Int)) (v3 : Int) (v4 : Int) : Option ((List (List Int × Int))) := tOf spec_l3Project.mk (spec_l3Project.q3 v0 v1 v2 v3 v4)
noncomputable def spec_l3Project.t {γ : Type} (ret : ((List (List Int × Int))) → Option γ) (lp3 : (List Int) → (List (List Int × Int)) → (List (List Int × Int)) → Int → Int → Option γ) (v0 : List (List Int × Int)) (v1 : List Int) : Option γ :=
  lp3 (v1) ([]) (v0) ((↑v0.length : Int)) ((0 : Int))
noncomputable def spec_l3Project.t3 {γ : Type} (ret : ((List (List Int × Int))) → Option γ) (lp3 : (List Int) → (List (List Int × Int)) → (List (List Int × Int)) → Int → Int → Option γ) (v0 : List Int) (v1 : List (List Int × Int)) (v2 : List (List Int × Int)) (v3 : Int) (v4 : Int) : Option γ :=
  bif Decidable.decide (v4 < v3) then
    bif Decidable.decide ((0 : Int) ≤ v4) then
      bif Decidable.decide (v4.toNat < v2.length) then
        (spec_l1Pick ((v2.getD v4.toNat ([], (0 : Int))).fst) (v0)).bind fun (r0 : (List Int)) =>
        (spec_l2Put (v1) (r0) ((v2.getD v4.toNat ([], (0 : Int))).snd)).bind fun (r1 : (List (List Int × Int))) =>
        lp3 (v0) (r1) (v2) (v3) (Go.IntKind.i64.wrap (v4 + (1 : Int)))
      else
        none
    else
      none
  else
    ret (v1)
theorem spec_l3Project.k (v0 : List (List Int × Int)) (v1 : List Int) : topL E (callT E tab) 97 Try.f97 (spec_l3Project.c v0 v1) = spec_l3Project.t (fun b => some (spec_l3Project.mk b)) spec_l3Project.q3 v0 v1 := by kernel_rfl
theorem spec_l3Project.k3 (v0 : List Int) (v1 : List (List Int × Int)) (v2 : List (List Int × Int)) (v3 : Int) (v4 : Int) : roundL E (callT E tab) 97 Try.f97 2 [.r, .r, .l, .r, .b] (nn 1 (vc (.d .fro (.sl (.int .i64)) v0) :: nn 3 (vc (.d .sha (.sl (.pair (.sl (.int .i64)) (.int .i64))) v1) :: nn 2 (vc (.d .fro (.sl (.pair (.sl (.int .i64)) (.int .i64))) v2) :: vc (iL v3) :: vc (iL v4) :: nn 13 ([]))))) = spec_l3Project.t3 (fun b => some (spec_l3Project.mk b)) spec_l3Project.q3 v0 v1 v2 v3 v4 := by kernel_rfl
theorem spec_l3Project.s (v0 : List (List Int × Int)) (v1 : List Int) : Sub spec_l3Project.mk (spec_l3Project.t some spec_l3Project.l3 v0 v1) (spec_l3Project.t (fun b => some (spec_l3Project.mk b)) spec_l3Project.q3 v0 v1) := by
  unfold spec_l3Project.t
  repeat' first | exact Sub.ret | exact Sub.none | exact Sub.loop | apply Sub.cond | (apply Sub.bind; intro _)
theorem spec_l3Project.eq (v0 : List (List Int × Int)) (v1 : List Int) {b : (List (List Int × Int))} (h : spec_l3Project.t some spec_l3Project.l3 v0 v1 = some b) : spec_l3Project v0 v1 = some b := tOf_intro spec_l3Project.un (fun _ => by kernel_rfl) (vlim_fn (callT_le E tab) rfl rfl rfl ((spec_l3Project.k v0 v1).trans (spec_l3Project.s v0 v1 b h)))
theorem spec_l3Project.s3 (v0 : List Int) (v1 : List (List Int × Int)) (v2 : List (List Int × Int)) (v3 : Int) (v4 : Int) : Sub spec_l3Project.mk (spec_l3Project.t3 some spec_l3Project.l3 v0 v1 v2 v3 v4) (spec_l3Project.t3 (fun b => some (spec_l3Project.mk b)) spec_l3Project.q3 v0 v1 v2 v3 v4) := by
  unfold spec_l3Project.t3
  repeat' first | exact Sub.ret | exact Sub.none | exact Sub.loop | apply Sub.cond | (apply Sub.bind; intro _)
theorem spec_l3Project.eq3 (v0 : List Int) (v1 : List (List Int × Int)) (v2 : List (List Int × Int)) (v3 : Int) (v4 : Int) {b : (List (List Int × Int))} (h : spec_l3Project.t3 some spec_l3Project.l3 v0 v1 v2 v3 v4 = some b) : spec_l3Project.l3 v0 v1 v2 v3 v4 = some b := tOf_intro spec_l3Project.un (fun _ => by kernel_rfl) (loopAtL_step ((spec_l3Project.k3 v0 v1 v2 v3 v4).trans (spec_l3Project.s3 v0 v1 v2 v3 v4 b h)))
end GoV

/- Equations of the program's functions (printed by wip/tools/emit.py). -/
namespace GoV
open Go Go.Proofs
set_option maxRecDepth 100000

noncomputable def spec_l1Pick.q3 (v0 : List Int) (v1 : List Int) (v2 : List Int) (v3 : List Int) (v4 : Int) (v5 : Int) : Option R := loopAtL E (callT E tab) 132 Try.f132 2 [.r, .r, .l, .r, .b] (nn 2 (⟨(.box false), [.d .fro (.sl (.int .i64)) v0], false, false, false, 0, 0⟩ :: nn 1 (⟨(.box false), [.d .deep (.sl (.int .i64)) v1], false, false, false, 0, 0⟩ :: ⟨(.box false), [.d .deep (.sl (.int .i64)) v2], false, false, false, 0, 0⟩ :: nn 3 (vc (.d .fro (.sl (.int .i64)) v3) :: vc (iL v4) :: vc (iL v5) :: nn 15 ([])))))
noncomputable def spec_l1Pick.l3 (v0 : List Int) (v1 : List Int) (v2 : List Int) (v3 : List Int) (v4 : Int) (v5 : Int) : Option ((List Int)) := tOf spec_l1Pick.mk (spec_l1Pick.q3 v0 v1 v2 v3 v4 v5)
noncomputable def spec_l1Pick.t {γ : Type} (ret : ((List Int)) → Option γ) (lp3 : (List Int) → (List Int) → (List Int) → (List Int) → Int → Int → Option γ) (v0 : List Int) (v1 : List Int) : Option γ :=
  lp3 (v0) ([]) ([]) (v1) ((↑v1.length : Int)) ((0 : Int))
noncomputable def spec_l1Pick.t3 {γ : Type} (ret : ((List Int)) → Option γ) (lp3 : (List Int) → (List Int) → (List Int) → (List Int) → Int → Int → Option γ) (v0 : List Int) (v1 : List Int) (v2 : List Int) (v3 : List Int) (v4 : Int) (v5 : Int) : Option γ :=
  bif Decidable.decide (v5 < v4) then
    bif Decidable.decide ((0 : Int) ≤ v5) then
      bif Decidable.decide (v5.toNat < v3.length) then
        bif Decidable.decide ((0 : Int) ≤ v3.getD v5.toNat (0 : Int)) then
          bif Decidable.decide ((v3.getD v5.toNat (0 : Int)).toNat < v0.length) then
            bif Decidable.decide (v2.length + [v0.getD (v3.getD v5.toNat (0 : Int)).toNat (0 : Int)].length ≤ (4294967296 : Nat)) then
              lp3 (v0) (v1) (v2 ++ [v0.getD (v3.getD v5.toNat (0 : Int)).toNat (0 : Int)]) (v3) (v4) (Go.IntKind.i64.wrap (v5 + (1 : Int)))
            else
              none
          else
            none
        else
          none
      else
        none
    else
      none
  else
    ret (v2)
theorem spec_l1Pick.k (v0 : List Int) (v1 : List Int) : topL E (callT E tab) 132 Try.f132 (spec_l1Pick.c v0 v1) = spec_l1Pick.t (fun b => some (spec_l1Pick.mk b)) spec_l1Pick.q3 v0 v1 := by kernel_rfl
theorem spec_l1Pick.k3 (v0 : List Int) (v1 : List Int) (v2 : List Int) (v3 : List Int) (v4 : Int) (v5 : Int) : roundL E (callT E tab) 132 Try.f132 2 [.r, .r, .l, .r, .b] (nn 2 (⟨(.box false), [.d .fro (.sl (.int .i64)) v0], false, false, false, 0, 0⟩ :: nn 1 (⟨(.box false), [.d .deep (.sl (.int .i64)) v1], false, false, false, 0, 0⟩ :: ⟨(.box false), [.d .deep (.sl (.int .i64)) v2], false, false, false, 0, 0⟩ :: nn 3 (vc (.d .fro (.sl (.int .i64)) v3) :: vc (iL v4) :: vc (iL v5) :: nn 15 ([]))))) = spec_l1Pick.t3 (fun b => some (spec_l1Pick.mk b)) spec_l1Pick.q3 v0 v1 v2 v3 v4 v5 := by kernel_rfl
theorem spec_l1Pick.s (v0 : List Int) (v1 : List Int) : Sub spec_l1Pick.mk (spec_l1Pick.t some spec_l1Pick.l3 v0 v1) (spec_l1Pick.t (fun b => some (spec_l1Pick.mk b)) spec_l1Pick.q3 v0 v1) := by
  unfold spec_l1Pick.t
  repeat' first | exact Sub.ret | exact Sub.none | exact Sub.loop | apply Sub.cond | (apply Sub.bind; intro _)
theorem spec_l1Pick.eq (v0 : List Int) (v1 : List Int) {b : (List Int)} (h : spec_l1Pick.t some spec_l1Pick.l3 v0 v1 = some b) : spec_l1Pick v0 v1 = some b := tOf_intro spec_l1Pick.un (fun _ => by kernel_rfl) (vlim_fn (callT_le E tab) rfl rfl rfl ((spec_l1Pick.k v0 v1).trans (spec_l1Pick.s v0 v1 b h)))
theorem spec_l1Pick.s3 (v0 : List Int) (v1 : List Int) (v2 : List Int) (v3 : List Int) (v4 : Int) (v5 : Int) : Sub spec_l1Pick.mk (spec_l1Pick.t3 some spec_l1Pick.l3 v0 v1 v2 v3 v4 v5) (spec_l1Pick.t3 (fun b => some (spec_l1Pick.mk b)) spec_l1Pick.q3 v0 v1 v2 v3 v4 v5) := by
  unfold spec_l1Pick.t3
  repeat' first | exact Sub.ret | exact Sub.none | exact Sub.loop | apply Sub.cond | (apply Sub.bind; intro _)
theorem spec_l1Pick.eq3 (v0 : List Int) (v1 : List Int) (v2 : List Int) (v3 : List Int) (v4 : Int) (v5 : Int) {b : (List Int)} (h : spec_l1Pick.t3 some spec_l1Pick.l3 v0 v1 v2 v3 v4 v5 = some b) : spec_l1Pick.l3 v0 v1 v2 v3 v4 v5 = some b := tOf_intro spec_l1Pick.un (fun _ => by kernel_rfl) (loopAtL_step ((spec_l1Pick.k3 v0 v1 v2 v3 v4 v5).trans (spec_l1Pick.s3 v0 v1 v2 v3 v4 v5 b h)))
noncomputable def impl_ProjectTable.t {γ : Type} (ret : (Int × (List (List Int × Int)) × Bool) → Option γ) (v0 : Int) (v1 : List (List Int × Int)) (v2 : List Int) : Option γ :=
  (impl_GoodTable (v0) (v1)).bind fun (r0 : Bool) =>
  bif !r0 then
    ret ((0 : Int), [], Bool.false)
  else
    (impl_areColumns (v2) (v0)).bind fun (r1 : Bool) =>
    bif !r1 then
      ret ((0 : Int), [], Bool.false)
    else
      (impl_Table_projected (v0) (v1) (v2)).bind fun (r2 : Int × (List (List Int × Int))) =>
      (impl_goodOrNone_467 (r2.fst) (r2.snd)).bind fun (r3 : Int × (List (List Int × Int)) × Bool) =>
      ret (r3.fst, r3.snd.fst, r3.snd.snd)
theorem impl_ProjectTable.k (v0 : Int) (v1 : List (List Int × Int)) (v2 : List Int) : topL E (callT E tab) 46 Try.f46 (impl_ProjectTable.c v0 v1 v2) = impl_ProjectTable.t (fun b => some (impl_ProjectTable.mk b)) v0 v1 v2 := by kernel_rfl
theorem impl_ProjectTable.s (v0 : Int) (v1 : List (List Int × Int)) (v2 : List Int) : Sub impl_ProjectTable.mk (impl_ProjectTable.t some v0 v1 v2) (impl_ProjectTable.t (fun b => some (impl_ProjectTable.mk b)) v0 v1 v2) := by
  unfold impl_ProjectTable.t
  repeat' first | exact Sub.ret | exact Sub.none | exact Sub.loop | apply Sub.cond | (apply Sub.bind; intro _)
theorem impl_ProjectTable.eq (v0 : Int) (v1 : List (List Int × Int)) (v2 : List Int) {b : Int × (List (List Int × Int)) × Bool} (h : impl_ProjectTable.t some v0 v1 v2 = some b) : impl_ProjectTable v0 v1 v2 = some b := tOf_intro impl_ProjectTable.un (fun _ => by kernel_rfl) (vlim_fn (callT_le E tab) rfl rfl rfl ((impl_ProjectTable.k v0 v1 v2).trans (impl_ProjectTable.s v0 v1 v2 b h)))
noncomputable def impl_areColumns.t {γ : Type} (ret : (Bool) → Option γ) (v0 : List Int) (v1 : Int) : Option γ :=
  bif Decidable.decide ((↑v0.length : Int) ≤ (6 : Int)) then
    (impl_areAll_int_impl_areColumns_1 (v0) (v1)).bind fun (r0 : Bool) =>
    ret (r0)
  else
    ret (Bool.false)
theorem impl_areColumns.k (v0 : List Int) (v1 : Int) : topL E (callT E tab) 98 Try.f98 (impl_areColumns.c v0 v1) = impl_areColumns.t (fun b => some (impl_areColumns.mk b)) v0 v1 := by kernel_rfl
theorem impl_areColumns.s (v0 : List Int) (v1 : Int) : Sub impl_areColumns.mk (impl_areColumns.t some v0 v1) (impl_areColumns.t (fun b => some (impl_areColumns.mk b)) v0 v1) := by
  unfold impl_areColumns.t
  repeat' first | exact Sub.ret | exact Sub.none | exact Sub.loop | apply Sub.cond | (apply Sub.bind; intro _)
theorem impl_areColumns.eq (v0 : List Int) (v1 : Int) {b : Bool} (h : impl_areColumns.t some v0 v1 = some b) : impl_areColumns v0 v1 = some b := tOf_intro impl_areColumns.un (fun _ => by kernel_rfl) (vlim_fn (callT_le E tab) rfl rfl rfl ((impl_areColumns.k v0 v1).trans (impl_areColumns.s v0 v1 b h)))
noncomputable def impl_areAll_int_impl_areColumns_1.t {γ : Type} (ret : (Bool) → Option γ) (v0 : List Int) (v1 : Int) : Option γ :=
  (slices_ContainsFunc_int_int_impl_areAll_int_1_impl_areColumns_1 (v0) (v1)).bind fun (r0 : Bool) =>
  ret (!r0)
theorem impl_areAll_int_impl_areColumns_1.k (v0 : List Int) (v1 : Int) : topL E (callT E tab) 133 Try.f133 (impl_areAll_int_impl_areColumns_1.c v0 v1) = impl_areAll_int_impl_areColumns_1.t (fun b => some (impl_areAll_int_impl_areColumns_1.mk b)) v0 v1 := by kernel_rfl
theorem impl_areAll_int_impl_areColumns_1.s (v0 : List Int) (v1 : Int) : Sub impl_areAll_int_impl_areColumns_1.mk (impl_areAll_int_impl_areColumns_1.t some v0 v1) (impl_areAll_int_impl_areColumns_1.t (fun b => some (impl_areAll_int_impl_areColumns_1.mk b)) v0 v1) := by
  unfold impl_areAll_int_impl_areColumns_1.t
  repeat' first | exact Sub.ret | exact Sub.none | exact Sub.loop | apply Sub.cond | (apply Sub.bind; intro _)
theorem impl_areAll_int_impl_areColumns_1.eq (v0 : List Int) (v1 : Int) {b : Bool} (h : impl_areAll_int_impl_areColumns_1.t some v0 v1 = some b) : impl_areAll_int_impl_areColumns_1 v0 v1 = some b := tOf_intro impl_areAll_int_impl_areColumns_1.un (fun _ => by kernel_rfl) (vlim_fn (callT_le E tab) rfl rfl rfl ((impl_areAll_int_impl_areColumns_1.k v0 v1).trans (impl_areAll_int_impl_areColumns_1.s v0 v1 b h)))
noncomputable def slices_ContainsFunc_int_int_impl_areAll_int_1_impl_areColumns_1.t {γ : Type} (ret : (Bool) → Option γ) (v0 : List Int) (v1 : Int) : Option γ :=
  (slices_IndexFunc_int_int_impl_areAll_int_1_impl_areColumns_1 (v0) (v1)).bind fun (r0 : Int) =>
  ret (Decidable.decide (r0 ≥ (0 : Int)))
theorem slices_ContainsFunc_int_int_impl_areAll_int_1_impl_areColumns_1.k (v0 : List Int) (v1 : Int) : topL E (callT E tab) 148 Try.f148 (slices_ContainsFunc_int_int_impl_areAll_int_1_impl_areColumns_1.c v0 v1) = slices_ContainsFunc_int_int_impl_areAll_int_1_impl_areColumns_1.t (fun b => some (slices_ContainsFunc_int_int_impl_areAll_int_1_impl_areColumns_1.mk b)) v0 v1 := by kernel_rfl
theorem slices_ContainsFunc_int_int_impl_areAll_int_1_impl_areColumns_1.s (v0 : List Int) (v1 : Int) : Sub slices_ContainsFunc_int_int_impl_areAll_int_1_impl_areColumns_1.mk (slices_ContainsFunc_int_int_impl_areAll_int_1_impl_areColumns_1.t some v0 v1) (slices_ContainsFunc_int_int_impl_areAll_int_1_impl_areColumns_1.t (fun b => some (slices_ContainsFunc_int_int_impl_areAll_int_1_impl_areColumns_1.mk b)) v0 v1) := by
  unfold slices_ContainsFunc_int_int_impl_areAll_int_1_impl_areColumns_1.t
  repeat' first | exact Sub.ret | exact Sub.none | exact Sub.loop | apply Sub.cond | (apply Sub.bind; intro _)
theorem slices_ContainsFunc_int_int_impl_areAll_int_1_impl_areColumns_1.eq (v0 : List Int) (v1 : Int) {b : Bool} (h : slices_ContainsFunc_int_int_impl_areAll_int_1_impl_areColumns_1.t some v0 v1 = some b) : slices_ContainsFunc_int_int_impl_areAll_int_1_impl_areColumns_1 v0 v1 = some b := tOf_intro slices_ContainsFunc_int_int_impl_areAll_int_1_impl_areColumns_1.un (fun _ => by kernel_rfl) (vlim_fn (callT_le E tab) rfl rfl rfl ((slices_ContainsFunc_int_int_impl_areAll_int_1_impl_areColumns_1.k v0 v1).trans (slices_ContainsFunc_int_int_impl_areAll_int_1_impl_areColumns_1.s v0 v1 b h)))
noncomputable def slices_IndexFunc_int_int_impl_areAll_int_1_impl_areColumns_1.q2 (v0 : List Int) (v1 : Int) (v2 : Int) (v3 : Int) : Option R := loopAtL E (callT E tab) 159 Try.f159 2 [.r, .l, .r, .b] (vc (.d .fro (.sl (.int .i64)) v0) :: vc (.fn 149 [.rp [.fn 134 [.rp [iL v1] 0]] 0]) :: nn 5 (vc (iL v2) :: vc (iL v3) :: nn 10 ([])))
noncomputable def slices_IndexFunc_int_int_impl_areAll_int_1_impl_areColumns_1.l2 (v0 : List Int) (v1 : Int) (v2 : Int) (v3 : Int) : Option (Int) := tOf slices_IndexFunc_int_int_impl_areAll_int_1_impl_areColumns_1.mk (slices_IndexFunc_int_int_impl_areAll_int_1_impl_areColumns_1.q2 v0 v1 v2 v3)
noncomputable def slices_IndexFunc_int_int_impl_areAll_int_1_impl_areColumns_1.t {γ : Type} (ret : (Int) → Option γ) (lp2 : (List Int) → Int → Int → Int → Option γ) (v0 : List Int) (v1 : Int) : Option γ :=
  lp2 (v0) (v1) ((↑v0.length : Int)) ((0 : Int))
noncomputable def slices_IndexFunc_int_int_impl_areAll_int_1_impl_areColumns_1.t2 {γ : Type} (ret : (Int) → Option γ) (lp2 : (List Int) → Int → Int → Int → Option γ) (v0 : List Int) (v1 : Int) (v2 : Int) (v3 : Int) : Option γ :=
  bif Decidable.decide (v3 < v2) then
    bif Decidable.decide ((0 : Int) ≤ v3) then
      bif Decidable.decide (v3.toNat < v0.length) then
        (impl_areAll_int_1_impl_areColumns_1 (v0.getD v3.toNat (0 : Int)) (v1)).bind fun (r0 : Bool) =>
        bif r0 then
          ret (v3)
        else
          lp2 (v0) (v1) (v2) (Go.IntKind.i64.wrap (v3 + (1 : Int)))
      else
        none
    else
      none
  else
    ret ((-1 : Int))
theorem slices_IndexFunc_int_int_impl_areAll_int_1_impl_areColumns_1.k (v0 : List Int) (v1 : Int) : topL E (callT E tab) 159 Try.f159 (slices_IndexFunc_int_int_impl_areAll_int_1_impl_areColumns_1.c v0 v1) = slices_IndexFunc_int_int_impl_areAll_int_1_impl_areColumns_1.t (fun b => some (slices_IndexFunc_int_int_impl_areAll_int_1_impl_areColumns_1.mk b)) slices_IndexFunc_int_int_impl_areAll_int_1_impl_areColumns_1.q2 v0 v1 := by kernel_rfl
theorem slices_IndexFunc_int_int_impl_areAll_int_1_impl_areColumns_1.k2 (v0 : List Int) (v1 : Int) (v2 : Int) (v3 : Int) : roundL E (callT E tab) 159 Try.f159 2 [.r, .l, .r, .b] (vc (.d .fro (.sl (.int .i64)) v0) :: vc (.fn 149 [.rp [.fn 134 [.rp [iL v1] 0]] 0]) :: nn 5 (vc (iL v2) :: vc (iL v3) :: nn 10 ([]))) = slices_IndexFunc_int_int_impl_areAll_int_1_impl_areColumns_1.t2 (fun b => some (slices_IndexFunc_int_int_impl_areAll_int_1_impl_areColumns_1.mk b)) slices_IndexFunc_int_int_impl_areAll_int_1_impl_areColumns_1.q2 v0 v1 v2 v3 := by kernel_rfl
theorem slices_IndexFunc_int_int_impl_areAll_int_1_impl_areColumns_1.s (v0 : List Int) (v1 : Int) : Sub slices_IndexFunc_int_int_impl_areAll_int_1_impl_areColumns_1.mk (slices_IndexFunc_int_int_impl_areAll_int_1_impl_areColumns_1.t some slices_IndexFunc_int_int_impl_areAll_int_1_impl_areColumns_1.l2 v0 v1) (slices_IndexFunc_int_int_impl_areAll_int_1_impl_areColumns_1.t (fun b => some (slices_IndexFunc_int_int_impl_areAll_int_1_impl_areColumns_1.mk b)) slices_IndexFunc_int_int_impl_areAll_int_1_impl_areColumns_1.q2 v0 v1) := by
  unfold slices_IndexFunc_int_int_impl_areAll_int_1_impl_areColumns_1.t
  repeat' first | exact Sub.ret | exact Sub.none | exact Sub.loop | apply Sub.cond | (apply Sub.bind; intro _)
theorem slices_IndexFunc_int_int_impl_areAll_int_1_impl_areColumns_1.eq (v0 : List Int) (v1 : Int) {b : Int} (h : slices_IndexFunc_int_int_impl_areAll_int_1_impl_areColumns_1.t some slices_IndexFunc_int_int_impl_areAll_int_1_impl_areColumns_1.l2 v0 v1 = some b) : slices_IndexFunc_int_int_impl_areAll_int_1_impl_areColumns_1 v0 v1 = some b := tOf_intro slices_IndexFunc_int_int_impl_areAll_int_1_impl_areColumns_1.un (fun _ => by kernel_rfl) (vlim_fn (callT_le E tab) rfl rfl rfl ((slices_IndexFunc_int_int_impl_areAll_int_1_impl_areColumns_1.k v0 v1).trans (slices_IndexFunc_int_int_impl_areAll_int_1_impl_areColumns_1.s v0 v1 b h)))
theorem slices_IndexFunc_int_int_impl_areAll_int_1_impl_areColumns_1.s2 (v0 : List Int) (v1 : Int) (v2 : Int) (v3 : Int) : Sub slices_IndexFunc_int_int_impl_areAll_int_1_impl_areColumns_1.mk (slices_IndexFunc_int_int_impl_areAll_int_1_impl_areColumns_1.t2 some slices_IndexFunc_int_int_impl_areAll_int_1_impl_areColumns_1.l2 v0 v1 v2 v3) (slices_IndexFunc_int_int_impl_areAll_int_1_impl_areColumns_1.t2 (fun b => some (slices_IndexFunc_int_int_impl_areAll_int_1_impl_areColumns_1.mk b)) slices_IndexFunc_int_int_impl_areAll_int_1_impl_areColumns_1.q2 v0 v1 v2 v3) := by
  unfold slices_IndexFunc_int_int_impl_areAll_int_1_impl_areColumns_1.t2
  repeat' first | exact Sub.ret | exact Sub.none | exact Sub.loop | apply Sub.cond | (apply Sub.bind; intro _)
theorem slices_IndexFunc_int_int_impl_areAll_int_1_impl_areColumns_1.eq2 (v0 : List Int) (v1 : Int) (v2 : Int) (v3 : Int) {b : Int} (h : slices_IndexFunc_int_int_impl_areAll_int_1_impl_areColumns_1.t2 some slices_IndexFunc_int_int_impl_areAll_int_1_impl_areColumns_1.l2 v0 v1 v2 v3 = some b) : slices_IndexFunc_int_int_impl_areAll_int_1_impl_areColumns_1.l2 v0 v1 v2 v3 = some b := tOf_intro slices_IndexFunc_int_int_impl_areAll_int_1_impl_areColumns_1.un (fun _ => by kernel_rfl) (loopAtL_step ((slices_IndexFunc_int_int_impl_areAll_int_1_impl_areColumns_1.k2 v0 v1 v2 v3).trans (slices_IndexFunc_int_int_impl_areAll_int_1_impl_areColumns_1.s2 v0 v1 v2 v3 b h)))
noncomputable def impl_areAll_int_1_impl_areColumns_1.t {γ : Type} (ret : (Bool) → Option γ) (v0 : Int) (v1 : Int) : Option γ :=
  (impl_areColumns_1 (v0) (v1)).bind fun (r0 : Bool) =>
  ret (!r0)
theorem impl_areAll_int_1_impl_areColumns_1.k (v0 : Int) (v1 : Int) : topL E (callT E tab) 149 Try.f149 (impl_areAll_int_1_impl_areColumns_1.c v0 v1) = impl_areAll_int_1_impl_areColumns_1.t (fun b => some (impl_areAll_int_1_impl_areColumns_1.mk b)) v0 v1 := by kernel_rfl
theorem impl_areAll_int_1_impl_areColumns_1.s (v0 : Int) (v1 : Int) : Sub impl_areAll_int_1_impl_areColumns_1.mk (impl_areAll_int_1_impl_areColumns_1.t some v0 v1) (impl_areAll_int_1_impl_areColumns_1.t (fun b => some (impl_areAll_int_1_impl_areColumns_1.mk b)) v0 v1) := by
  unfold impl_areAll_int_1_impl_areColumns_1.t
  repeat' first | exact Sub.ret | exact Sub.none | exact Sub.loop | apply Sub.cond | (apply Sub.bind; intro _)
theorem impl_areAll_int_1_impl_areColumns_1.eq (v0 : Int) (v1 : Int) {b : Bool} (h : impl_areAll_int_1_impl_areColumns_1.t some v0 v1 = some b) : impl_areAll_int_1_impl_areColumns_1 v0 v1 = some b := tOf_intro impl_areAll_int_1_impl_areColumns_1.un (fun _ => by kernel_rfl) (vlim_fn (callT_le E tab) rfl rfl rfl ((impl_areAll_int_1_impl_areColumns_1.k v0 v1).trans (impl_areAll_int_1_impl_areColumns_1.s v0 v1 b h)))
noncomputable def impl_areColumns_1.t {γ : Type} (ret : (Bool) → Option γ) (v0 : Int) (v1 : Int) : Option γ :=
  (impl_isPlace (v0) (v1)).bind fun (r0 : Bool) =>
  ret (r0)
theorem impl_areColumns_1.k (v0 : Int) (v1 : Int) : topL E (callT E tab) 134 Try.f134 (impl_areColumns_1.c v0 v1) = impl_areColumns_1.t (fun b => some (impl_areColumns_1.mk b)) v0 v1 := by kernel_rfl
theorem impl_areColumns_1.s (v0 : Int) (v1 : Int) : Sub impl_areColumns_1.mk (impl_areColumns_1.t some v0 v1) (impl_areColumns_1.t (fun b => some (impl_areColumns_1.mk b)) v0 v1) := by
  unfold impl_areColumns_1.t
  repeat' first | exact Sub.ret | exact Sub.none | exact Sub.loop | apply Sub.cond | (apply Sub.bind; intro _)
theorem impl_areColumns_1.eq (v0 : Int) (v1 : Int) {b : Bool} (h : impl_areColumns_1.t some v0 v1 = some b) : impl_areColumns_1 v0 v1 = some b := tOf_intro impl_areColumns_1.un (fun _ => by kernel_rfl) (vlim_fn (callT_le E tab) rfl rfl rfl ((impl_areColumns_1.k v0 v1).trans (impl_areColumns_1.s v0 v1 b h)))
noncomputable def impl_isPlace.t {γ : Type} (ret : (Bool) → Option γ) (v0 : Int) (v1 : Int) : Option γ :=
  bif Decidable.decide (v0 ≥ (0 : Int)) then
    ret (Decidable.decide (v0 < v1))
  else
    ret (Bool.false)
theorem impl_isPlace.k (v0 : Int) (v1 : Int) : topL E (callT E tab) 118 Try.f118 (impl_isPlace.c v0 v1) = impl_isPlace.t (fun b => some (impl_isPlace.mk b)) v0 v1 := by kernel_rfl
theorem impl_isPlace.s (v0 : Int) (v1 : Int) : Sub impl_isPlace.mk (impl_isPlace.t some v0 v1) (impl_isPlace.t (fun b => some (impl_isPlace.mk b)) v0 v1) := by
  unfold impl_isPlace.t
  repeat' first | exact Sub.ret | exact Sub.none | exact Sub.loop | apply Sub.cond | (apply Sub.bind; intro _)
theorem impl_isPlace.eq (v0 : Int) (v1 : Int) {b : Bool} (h : impl_isPlace.t some v0 v1 = some b) : impl_isPlace v0 v1 = some b := tOf_intro impl_isPlace.un (fun _ => by kernel_rfl) (vlim_fn (callT_le E tab) rfl rfl rfl ((impl_isPlace.k v0 v1).trans (impl_isPlace.s v0 v1 b h)))
noncomputable def impl_Table_projected.q3 (v0 : List Int) (v1 : Int) (v2 : List (List Int × Int)) (v3 : List (List Int × Int)) (v4 : List (List Int × Int)) (v5 : Int) (v6 : Int) : Option R := loopAtL E (callT E tab) 99 Try.f99 2 [.r, .r, .l, .r, .b] (nn 1 (vc (.d .fro (.sl (.int .i64)) v0) :: nn 2 (⟨(.box false), [iL v1, .d .deep (.sl (.pair (.sl (.int .i64)) (.int .i64))) v2], false, false, false, 0, 0⟩ :: vc (.d .deep (.sl (.pair (.sl (.int .i64)) (.int .i64))) v3) :: nn 3 (vc (.d .fro (.sl (.pair (.sl (.int .i64)) (.int .i64))) v4) :: vc (iL v5) :: vc (iL v6) :: nn 19 ([])))))
noncomputable def impl_Table_projected.l3 (v0 : List Int) (v1 : Int) (v2 : List (List Int × Int)) (v3 : List (List Int × Int)) (v4 : List (List Int × Int)) (v5 : Int) (v6 : Int) : Option (Int × (List (List Int × Int))) := tOf impl_Table_projected.mk (impl_Table_projected.q3 v0 v1 v2 v3 v4 v5 v6)
noncomputable def impl_Table_projected.t {γ : Type} (ret : (Int × (List (List Int × Int))) → Option γ) (lp3 : (List Int) → Int → (List (List Int × Int)) → (List (List Int × Int)) → (List (List Int × Int)) → Int → Int → Option γ) (v0 : Int) (v1 : List (List Int × Int)) (v2 : List Int) : Option γ :=
  lp3 (v2) ((0 : Int)) ([]) ([]) (v1) ((↑v1.length : Int)) ((0 : Int))
noncomputable def impl_Table_projected.t3 {γ : Type} (ret : (Int × (List (List Int × Int))) → Option γ) (lp3 : (List Int) → Int → (List (List Int × Int)) → (List (List Int × Int)) → (List (List Int × Int)) → Int → Int → Option γ) (v0 : List Int) (v1 : Int) (v2 : List (List Int × Int)) (v3 : List (List Int × Int)) (v4 : List (List Int × Int)) (v5 : Int) (v6 : Int) : Option γ :=
  bif Decidable.decide (v6 < v5) then
    bif Decidable.decide ((0 : Int) ≤ v6) then
      bif Decidable.decide (v6.toNat < v4.length) then
        (impl_Row_picked ((v4.getD v6.toNat ([], (0 : Int))).fst) (v0)).bind fun (r0 : (List Int)) =>
        bif Decidable.decide (v3.length + [(r0, (v4.getD v6.toNat ([], (0 : Int))).snd)].length ≤ (4294967296 : Nat)) then
          lp3 (v0) (v1) (v2) (v3 ++ [(r0, (v4.getD v6.toNat ([], (0 : Int))).snd)]) (v4) (v5) (Go.IntKind.i64.wrap (v6 + (1 : Int)))
        else
          none
      else
        none
    else
      none
  else
    (impl_summed ((↑v0.length : Int)) ([v3])).bind fun (r1 : Int × (List (List Int × Int))) =>
    ret (r1.fst, r1.snd)
theorem impl_Table_projected.k (v0 : Int) (v1 : List (List Int × Int)) (v2 : List Int) : topL E (callT E tab) 99 Try.f99 (impl_Table_projected.c v0 v1 v2) = impl_Table_projected.t (fun b => some (impl_Table_projected.mk b)) impl_Table_projected.q3 v0 v1 v2 := by kernel_rfl
theorem impl_Table_projected.k3 (v0 : List Int) (v1 : Int) (v2 : List (List Int × Int)) (v3 : List (List Int × Int)) (v4 : List (List Int × Int)) (v5 : Int) (v6 : Int) : roundL E (callT E tab) 99 Try.f99 2 [.r, .r, .l, .r, .b] (nn 1 (vc (.d .fro (.sl (.int .i64)) v0) :: nn 2 (⟨(.box false), [iL v1, .d .deep (.sl (.pair (.sl (.int .i64)) (.int .i64))) v2], false, false, false, 0, 0⟩ :: vc (.d .deep (.sl (.pair (.sl (.int .i64)) (.int .i64))) v3) :: nn 3 (vc (.d .fro (.sl (.pair (.sl (.int .i64)) (.int .i64))) v4) :: vc (iL v5) :: vc (iL v6) :: nn 19 ([]))))) = impl_Table_projected.t3 (fun b => some (impl_Table_projected.mk b)) impl_Table_projected.q3 v0 v1 v2 v3 v4 v5 v6 := by kernel_rfl
theorem impl_Table_projected.s (v0 : Int) (v1 : List (List Int × Int)) (v2 : List Int) : Sub impl_Table_projected.mk (impl_Table_projected.t some impl_Table_projected.l3 v0 v1 v2) (impl_Table_projected.t (fun b => some (impl_Table_projected.mk b)) impl_Table_projected.q3 v0 v1 v2) := by
  unfold impl_Table_projected.t
  repeat' first | exact Sub.ret | exact Sub.none | exact Sub.loop | apply Sub.cond | (apply Sub.bind; intro _)
theorem impl_Table_projected.eq (v0 : Int) (v1 : List (List Int × Int)) (v2 : List Int) {b : Int × (List (List Int × Int))} (h : impl_Table_projected.t some impl_Table_projected.l3 v0 v1 v2 = some b) : impl_Table_projected v0 v1 v2 = some b := tOf_intro impl_Table_projected.un (fun _ => by kernel_rfl) (vlim_fn (callT_le E tab) rfl rfl rfl ((impl_Table_projected.k v0 v1 v2).trans (impl_Table_projected.s v0 v1 v2 b h)))
theorem impl_Table_projected.s3 (v0 : List Int) (v1 : Int) (v2 : List (List Int × Int)) (v3 : List (List Int × Int)) (v4 : List (List Int × Int)) (v5 : Int) (v6 : Int) : Sub impl_Table_projected.mk (impl_Table_projected.t3 some impl_Table_projected.l3 v0 v1 v2 v3 v4 v5 v6) (impl_Table_projected.t3 (fun b => some (impl_Table_projected.mk b)) impl_Table_projected.q3 v0 v1 v2 v3 v4 v5 v6) := by
  unfold impl_Table_projected.t3
  repeat' first | exact Sub.ret | exact Sub.none | exact Sub.loop | apply Sub.cond | (apply Sub.bind; intro _)
theorem impl_Table_projected.eq3 (v0 : List Int) (v1 : Int) (v2 : List (List Int × Int)) (v3 : List (List Int × Int)) (v4 : List (List Int × Int)) (v5 : Int) (v6 : Int) {b : Int × (List (List Int × Int))} (h : impl_Table_projected.t3 some impl_Table_projected.l3 v0 v1 v2 v3 v4 v5 v6 = some b) : impl_Table_projected.l3 v0 v1 v2 v3 v4 v5 v6 = some b := tOf_intro impl_Table_projected.un (fun _ => by kernel_rfl) (loopAtL_step ((impl_Table_projected.k3 v0 v1 v2 v3 v4 v5 v6).trans (impl_Table_projected.s3 v0 v1 v2 v3 v4 v5 v6 b h)))
noncomputable def impl_Row_picked.q3 (v0 : List Int) (v1 : List Int) (v2 : List Int) (v3 : List Int) (v4 : Int) (v5 : Int) : Option R := loopAtL E (callT E tab) 135 Try.f135 2 [.r, .r, .l, .r, .b] (nn 2 (⟨(.box false), [.d .fro (.sl (.int .i64)) v0], false, false, false, 0, 0⟩ :: nn 1 (⟨(.box false), [.d .deep (.sl (.int .i64)) v1], false, false, false, 0, 0⟩ :: ⟨(.box false), [.d .deep (.sl (.int .i64)) v2], false, false, false, 0, 0⟩ :: nn 2 (vc (.d .fro (.sl (.int .i64)) v3) :: vc (iL v4) :: vc (iL v5) :: nn 15 ([])))))
noncomputable def impl_Row_picked.l3 (v0 : List Int) (v1 : List Int) (v2 : List Int) (v3 : List Int) (v4 : Int) (v5 : Int) : Option ((List Int)) := tOf impl_Row_picked.mk (impl_Row_picked.q3 v0 v1 v2 v3 v4 v5)
noncomputable def impl_Row_picked.t {γ : Type} (ret : ((List Int)) → Option γ) (lp3 : (List Int) → (List Int) → (List Int) → (List Int) → Int → Int → Option γ) (v0 : List Int) (v1 : List Int) : Option γ :=
  lp3 (v0) ([]) ([]) (v1) ((↑v1.length : Int)) ((0 : Int))
noncomputable def impl_Row_picked.t3 {γ : Type} (ret : ((List Int)) → Option γ) (lp3 : (List Int) → (List Int) → (List Int) → (List Int) → Int → Int → Option γ) (v0 : List Int) (v1 : List Int) (v2 : List Int) (v3 : List Int) (v4 : Int) (v5 : Int) : Option γ :=
  bif Decidable.decide (v5 < v4) then
    bif Decidable.decide ((0 : Int) ≤ v5) then
      bif Decidable.decide (v5.toNat < v3.length) then
        bif Decidable.decide ((0 : Int) ≤ v3.getD v5.toNat (0 : Int)) then
          bif Decidable.decide ((v3.getD v5.toNat (0 : Int)).toNat < v0.length) then
            bif Decidable.decide (v2.length + [v0.getD (v3.getD v5.toNat (0 : Int)).toNat (0 : Int)].length ≤ (4294967296 : Nat)) then
              lp3 (v0) (v1) (v2 ++ [v0.getD (v3.getD v5.toNat (0 : Int)).toNat (0 : Int)]) (v3) (v4) (Go.IntKind.i64.wrap (v5 + (1 : Int)))
            else
              none
          else
            none
        else
          none
      else
        none
    else
      none
  else
    ret (v2)
theorem impl_Row_picked.k (v0 : List Int) (v1 : List Int) : topL E (callT E tab) 135 Try.f135 (impl_Row_picked.c v0 v1) = impl_Row_picked.t (fun b => some (impl_Row_picked.mk b)) impl_Row_picked.q3 v0 v1 := by kernel_rfl
theorem impl_Row_picked.k3 (v0 : List Int) (v1 : List Int) (v2 : List Int) (v3 : List Int) (v4 : Int) (v5 : Int) : roundL E (callT E tab) 135 Try.f135 2 [.r, .r, .l, .r, .b] (nn 2 (⟨(.box false), [.d .fro (.sl (.int .i64)) v0], false, false, false, 0, 0⟩ :: nn 1 (⟨(.box false), [.d .deep (.sl (.int .i64)) v1], false, false, false, 0, 0⟩ :: ⟨(.box false), [.d .deep (.sl (.int .i64)) v2], false, false, false, 0, 0⟩ :: nn 2 (vc (.d .fro (.sl (.int .i64)) v3) :: vc (iL v4) :: vc (iL v5) :: nn 15 ([]))))) = impl_Row_picked.t3 (fun b => some (impl_Row_picked.mk b)) impl_Row_picked.q3 v0 v1 v2 v3 v4 v5 := by kernel_rfl
theorem impl_Row_picked.s (v0 : List Int) (v1 : List Int) : Sub impl_Row_picked.mk (impl_Row_picked.t some impl_Row_picked.l3 v0 v1) (impl_Row_picked.t (fun b => some (impl_Row_picked.mk b)) impl_Row_picked.q3 v0 v1) := by
  unfold impl_Row_picked.t
  repeat' first | exact Sub.ret | exact Sub.none | exact Sub.loop | apply Sub.cond | (apply Sub.bind; intro _)
theorem impl_Row_picked.eq (v0 : List Int) (v1 : List Int) {b : (List Int)} (h : impl_Row_picked.t some impl_Row_picked.l3 v0 v1 = some b) : impl_Row_picked v0 v1 = some b := tOf_intro impl_Row_picked.un (fun _ => by kernel_rfl) (vlim_fn (callT_le E tab) rfl rfl rfl ((impl_Row_picked.k v0 v1).trans (impl_Row_picked.s v0 v1 b h)))
theorem impl_Row_picked.s3 (v0 : List Int) (v1 : List Int) (v2 : List Int) (v3 : List Int) (v4 : Int) (v5 : Int) : Sub impl_Row_picked.mk (impl_Row_picked.t3 some impl_Row_picked.l3 v0 v1 v2 v3 v4 v5) (impl_Row_picked.t3 (fun b => some (impl_Row_picked.mk b)) impl_Row_picked.q3 v0 v1 v2 v3 v4 v5) := by
  unfold impl_Row_picked.t3
  repeat' first | exact Sub.ret | exact Sub.none | exact Sub.loop | apply Sub.cond | (apply Sub.bind; intro _)
theorem impl_Row_picked.eq3 (v0 : List Int) (v1 : List Int) (v2 : List Int) (v3 : List Int) (v4 : Int) (v5 : Int) {b : (List Int)} (h : impl_Row_picked.t3 some impl_Row_picked.l3 v0 v1 v2 v3 v4 v5 = some b) : impl_Row_picked.l3 v0 v1 v2 v3 v4 v5 = some b := tOf_intro impl_Row_picked.un (fun _ => by kernel_rfl) (loopAtL_step ((impl_Row_picked.k3 v0 v1 v2 v3 v4 v5).trans (impl_Row_picked.s3 v0 v1 v2 v3 v4 v5 b h)))
noncomputable def laws_FnExactProjectDelta.t {γ : Type} (ret : (Bool) → Option γ) (v0 : Int) (v1 : List (List Int × Int)) (v2 : List Int) : Option γ :=
  bif Decidable.decide ((↑v2.length : Int) > (1048576 : Int)) then
    ret (Bool.true)
  else
    (laws_szTable (v0) (v1) ((1048576 : Int))).bind fun (r0 : Int) =>
    bif Decidable.decide (r0 < (0 : Int)) then
      ret (Bool.true)
    else
      (laws_toTable (v0) (v1)).bind fun (r1 : Int × (List (List Int × Int))) =>
      (laws_toIntS (v2)).bind fun (r2 : (List Int)) =>
      (spec_ProjectDelta (r1.fst) (r1.snd) (r2)).bind fun (r3 : Int × (List (List Int × Int)) × Bool) =>
      (laws_toTable (v0) (v1)).bind fun (r4 : Int × (List (List Int × Int))) =>
      (laws_toIntS (v2)).bind fun (r5 : (List Int)) =>
      (impl_ProjectDelta (r4.fst) (r4.snd) (r5)).bind fun (r6 : Int × (List (List Int × Int)) × Bool) =>
      (laws_eqTable (r6.fst) (r6.snd.fst) (r3.fst) (r3.snd.fst)).bind fun (r7 : Bool) =>
      bif !r7 then
        ret (Bool.false)
      else
        bif !r6.snd.snd == r3.snd.snd then
          ret (Bool.false)
        else
          (laws_toTable (v0) (v1)).bind fun (r8 : Int × (List (List Int × Int))) =>
          (laws_eqTable (r4.fst) (r4.snd) (r8.fst) (r8.snd)).bind fun (r9 : Bool) =>
          bif !r9 then
            ret (Bool.false)
          else
            (laws_toIntS (v2)).bind fun (r10 : (List Int)) =>
            (laws_eqIntS (r5) (r10)).bind fun (r11 : Bool) =>
            bif !r11 then
              ret (Bool.false)
            else
              (laws_markTable_d7a (r4.fst) (r4.snd) ((1 : Int))).bind fun (r12 : Int × Int × (List (List Int × Int))) =>
              (laws_markIntS_83f (r5) (r12.fst)).bind fun (r13 : Int × (List Int)) =>
              bif Decidable.decide (r13.fst < (0 : Int)) then
                ret (Bool.false)
              else
                (laws_eqTable (r6.fst) (r6.snd.fst) (r3.fst) (r3.snd.fst)).bind fun (r14 : Bool) =>
                bif !r14 then
                  ret (Bool.false)
                else
                  bif !r6.snd.snd == r3.snd.snd then
                    ret (Bool.false)
                  else
                    (laws_markTable_d7a (r6.fst) (r6.snd.fst) ((1 : Int))).bind fun (r15 : Int × Int × (List (List Int × Int))) =>
                    (laws_heldTable (r6.fst) (r15.snd.snd) ((1 : Int))).bind fun (r16 : Int) =>
                    bif Decidable.decide (r16 < (0 : Int)) then
                      ret (Bool.false)
                    else
                      bif r16 != r15.fst then
                        ret (Bool.false)
                      else
                        (laws_toTable (v0) (v1)).bind fun (r17 : Int × (List (List Int × Int))) =>
                        (laws_toIntS (v2)).bind fun (r18 : (List Int)) =>
                        (impl_ProjectDelta (r17.fst) (r17.snd) (r18)).bind fun (r19 : Int × (List (List Int × Int)) × Bool) =>
                        (laws_eqTable (r19.fst) (r19.snd.fst) (r3.fst) (r3.snd.fst)).bind fun (r20 : Bool) =>
                        bif !r20 then
                          ret (Bool.false)
                        else
                          bif !r19.snd.snd == r3.snd.snd then
                            ret (Bool.false)
                          else
                            (laws_heldTable (r6.fst) (r15.snd.snd) ((1 : Int))).bind fun (r21 : Int) =>
                            bif Decidable.decide (r21 < (0 : Int)) then
                              ret (Bool.false)
                            else
                              bif r21 != r15.fst then
                                ret (Bool.false)
                              else
                                ret (Bool.true)
theorem laws_FnExactProjectDelta.k (v0 : Int) (v1 : List (List Int × Int)) (v2 : List Int) : topL E (callT E tab) 12 Try.f12 (laws_FnExactProjectDelta.c v0 v1 v2) = laws_FnExactProjectDelta.t (fun b => some (laws_FnExactProjectDelta.mk b)) v0 v1 v2 := by kernel_rfl
theorem laws_FnExactProjectDelta.s (v0 : Int) (v1 : List (List Int × Int)) (v2 : List Int) : Sub laws_FnExactProjectDelta.mk (laws_FnExactProjectDelta.t some v0 v1 v2) (laws_FnExactProjectDelta.t (fun b => some (laws_FnExactProjectDelta.mk b)) v0 v1 v2) := by
  unfold laws_FnExactProjectDelta.t
  repeat' first | exact Sub.ret | exact Sub.none | exact Sub.loop | apply Sub.cond | (apply Sub.bind; intro _)
theorem laws_FnExactProjectDelta.eq (v0 : Int) (v1 : List (List Int × Int)) (v2 : List Int) {b : Bool} (h : laws_FnExactProjectDelta.t some v0 v1 v2 = some b) : laws_FnExactProjectDelta v0 v1 v2 = some b := tOf_intro laws_FnExactProjectDelta.un (fun _ => by kernel_rfl) (vlim_fn (callT_le E tab) rfl rfl rfl ((laws_FnExactProjectDelta.k v0 v1 v2).trans (laws_FnExactProjectDelta.s v0 v1 v2 b h)))
noncomputable def spec_ProjectDelta.t {γ : Type} (ret : (Int × (List (List Int × Int)) × Bool) → Option γ) (v0 : Int) (v1 : List (List Int × Int)) (v2 : List Int) : Option γ :=
  (spec_ProjectTable (v0) (v1) (v2)).bind fun (r0 : Int × (List (List Int × Int)) × Bool) =>
  ret (r0.fst, r0.snd.fst, r0.snd.snd)
theorem spec_ProjectDelta.k (v0 : Int) (v1 : List (List Int × Int)) (v2 : List Int) : topL E (callT E tab) 49 Try.f49 (spec_ProjectDelta.c v0 v1 v2) = spec_ProjectDelta.t (fun b => some (spec_ProjectDelta.mk b)) v0 v1 v2 := by kernel_rfl
theorem spec_ProjectDelta.s (v0 : Int) (v1 : List (List Int × Int)) (v2 : List Int) : Sub spec_ProjectDelta.mk (spec_ProjectDelta.t some v0 v1 v2) (spec_ProjectDelta.t (fun b => some (spec_ProjectDelta.mk b)) v0 v1 v2) := by
  unfold spec_ProjectDelta.t
  repeat' first | exact Sub.ret | exact Sub.none | exact Sub.loop | apply Sub.cond | (apply Sub.bind; intro _)
theorem spec_ProjectDelta.eq (v0 : Int) (v1 : List (List Int × Int)) (v2 : List Int) {b : Int × (List (List Int × Int)) × Bool} (h : spec_ProjectDelta.t some v0 v1 v2 = some b) : spec_ProjectDelta v0 v1 v2 = some b := tOf_intro spec_ProjectDelta.un (fun _ => by kernel_rfl) (vlim_fn (callT_le E tab) rfl rfl rfl ((spec_ProjectDelta.k v0 v1 v2).trans (spec_ProjectDelta.s v0 v1 v2 b h)))
noncomputable def impl_ProjectDelta.t {γ : Type} (ret : (Int × (List (List Int × Int)) × Bool) → Option γ) (v0 : Int) (v1 : List (List Int × Int)) (v2 : List Int) : Option γ :=
  (impl_ProjectTable (v0) (v1) (v2)).bind fun (r0 : Int × (List (List Int × Int)) × Bool) =>
  ret (r0.fst, r0.snd.fst, r0.snd.snd)
theorem impl_ProjectDelta.k (v0 : Int) (v1 : List (List Int × Int)) (v2 : List Int) : topL E (callT E tab) 50 Try.f50 (impl_ProjectDelta.c v0 v1 v2) = impl_ProjectDelta.t (fun b => some (impl_ProjectDelta.mk b)) v0 v1 v2 := by kernel_rfl
theorem impl_ProjectDelta.s (v0 : Int) (v1 : List (List Int × Int)) (v2 : List Int) : Sub impl_ProjectDelta.mk (impl_ProjectDelta.t some v0 v1 v2) (impl_ProjectDelta.t (fun b => some (impl_ProjectDelta.mk b)) v0 v1 v2) := by
  unfold impl_ProjectDelta.t
  repeat' first | exact Sub.ret | exact Sub.none | exact Sub.loop | apply Sub.cond | (apply Sub.bind; intro _)
theorem impl_ProjectDelta.eq (v0 : Int) (v1 : List (List Int × Int)) (v2 : List Int) {b : Int × (List (List Int × Int)) × Bool} (h : impl_ProjectDelta.t some v0 v1 v2 = some b) : impl_ProjectDelta v0 v1 v2 = some b := tOf_intro impl_ProjectDelta.un (fun _ => by kernel_rfl) (vlim_fn (callT_le E tab) rfl rfl rfl ((impl_ProjectDelta.k v0 v1 v2).trans (impl_ProjectDelta.s v0 v1 v2 b h)))
end GoV
