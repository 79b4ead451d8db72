/- A part of the proof of FnExactNewTable: an interpreter of the model over plain data, its soundness, and what it makes of the functions that the statement reaches. Conditions: none beyond what the given statement itself says. -/
import Derived.Test.YtgblilbjpjidfaaTI
set_option linter.unusedVariables false
set_option linter.unusedSimpArgs false
set_option linter.unnecessarySimpa false
set_option linter.unusedSectionVars false
/- Equations of the program's functions (printed by wip/tools/emit.py). -/
namespace GoV
open Go Go.Proofs
set_option maxRecDepth 100000

noncomputable def impl_summed_1.t {γ : Type} (ret : (Int) → Option γ) (v0 : List Int) (v1 : Int) (v2 : List Int) (v3 : Int) : Option γ :=
  (impl_compareRows (v0) (v2)).bind fun (r0 : Int) =>
  ret (r0)
theorem impl_summed_1.k (v0 : List Int) (v1 : Int) (v2 : List Int) (v3 : Int) : topL E (callT E tab) 130 Try.f130 (impl_summed_1.c v0 v1 v2 v3) = impl_summed_1.t (fun b => some (impl_summed_1.mk b)) v0 v1 v2 v3 := by kernel_rfl
theorem impl_summed_1.s (v0 : List Int) (v1 : Int) (v2 : List Int) (v3 : Int) : Sub impl_summed_1.mk (impl_summed_1.t some v0 v1 v2 v3) (impl_summed_1.t (fun b => some (impl_summed_1.mk b)) v0 v1 v2 v3) := by
  unfold impl_summed_1.t
  repeat' first | exact Sub.ret | exact Sub.none | exact Sub.loop | apply Sub.cond | (apply Sub.bind; intro _)
theorem impl_summed_1.eq (v0 : List Int) (v1 : Int) (v2 : List Int) (v3 : Int) {b : Int} (h : impl_summed_1.t some v0 v1 v2 v3 = some b) : impl_summed_1 v0 v1 v2 v3 = some b := tOf_intro impl_summed_1.un (fun _ => by kernel_rfl) (vlim_fn (callT_le E tab) rfl rfl rfl ((impl_summed_1.k v0 v1 v2 v3).trans (impl_summed_1.s v0 v1 v2 v3 b h)))
noncomputable def impl_compareRows.t {γ : Type} (ret : (Int) → Option γ) (v0 : List Int) (v1 : List Int) : Option γ :=
  (slices_Compare_int_int (v0) (v1)).bind fun (r0 : Int) =>
  ret (r0)
theorem impl_compareRows.k (v0 : List Int) (v1 : List Int) : topL E (callT E tab) 108 Try.f108 (impl_compareRows.c v0 v1) = impl_compareRows.t (fun b => some (impl_compareRows.mk b)) v0 v1 := by kernel_rfl
theorem impl_compareRows.s (v0 : List Int) (v1 : List Int) : Sub impl_compareRows.mk (impl_compareRows.t some v0 v1) (impl_compareRows.t (fun b => some (impl_compareRows.mk b)) v0 v1) := by
  unfold impl_compareRows.t
  repeat' first | exact Sub.ret | exact Sub.none | exact Sub.loop | apply Sub.cond | (apply Sub.bind; intro _)
theorem impl_compareRows.eq (v0 : List Int) (v1 : List Int) {b : Int} (h : impl_compareRows.t some v0 v1 = some b) : impl_compareRows v0 v1 = some b := tOf_intro impl_compareRows.un (fun _ => by kernel_rfl) (vlim_fn (callT_le E tab) rfl rfl rfl ((impl_compareRows.k v0 v1).trans (impl_compareRows.s v0 v1 b h)))
noncomputable def slices_Compare_int_int.q2 (v0 : List Int) (v1 : List Int) (v2 : List Int) (v3 : Int) (v4 : Int) : Option R := loopAtL E (callT E tab) 141 Try.f141 2 [.r, .l, .r, .b] (vc (.d .fro (.sl (.int .i64)) v0) :: vc (.d .fro (.sl (.int .i64)) v1) :: nn 7 (vc (.d .fro (.sl (.int .i64)) v2) :: vc (iL v3) :: vc (iL v4) :: nn 24 ([])))
noncomputable def slices_Compare_int_int.l2 (v0 : List Int) (v1 : List Int) (v2 : List Int) (v3 : Int) (v4 : Int) : Option (Int) := tOf slices_Compare_int_int.mk (slices_Compare_int_int.q2 v0 v1 v2 v3 v4)
noncomputable def slices_Compare_int_int.t {γ : Type} (ret : (Int) → Option γ) (lp2 : (List Int) → (List Int) → (List Int) → Int → Int → Option γ) (v0 : List Int) (v1 : List Int) : Option γ :=
  lp2 (v0) (v1) (v0) ((↑v0.length : Int)) ((0 : Int))
noncomputable def slices_Compare_int_int.t2 {γ : Type} (ret : (Int) → Option γ) (lp2 : (List Int) → (List Int) → (List Int) → Int → Int → Option γ) (v0 : List Int) (v1 : List Int) (v2 : List Int) (v3 : Int) (v4 : Int) : Option γ :=
  bif Decidable.decide (v4 < v3) then
    bif Decidable.decide ((0 : Int) ≤ v4) then
      bif Decidable.decide (v4.toNat < v2.length) then
        bif Decidable.decide (v4 ≥ (↑v1.length : Int)) then
          ret ((1 : Int))
        else
          bif Decidable.decide ((0 : Int) ≤ v4) then
            bif Decidable.decide (v4.toNat < v1.length) then
              (cmp_Compare_int (v2.getD v4.toNat (0 : Int)) (v1.getD v4.toNat (0 : Int))).bind fun (r0 : Int) =>
              bif r0 != (0 : Int) then
                ret (r0)
              else
                lp2 (v0) (v1) (v2) (v3) (Go.IntKind.i64.wrap (v4 + (1 : Int)))
            else
              none
          else
            none
      else
        none
    else
      none
  else
    bif Decidable.decide ((↑v0.length : Int) < (↑v1.length : Int)) then
      ret ((-1 : Int))
    else
      ret ((0 : Int))
theorem slices_Compare_int_int.k (v0 : List Int) (v1 : List Int) : topL E (callT E tab) 141 Try.f141 (slices_Compare_int_int.c v0 v1) = slices_Compare_int_int.t (fun b => some (slices_Compare_int_int.mk b)) slices_Compare_int_int.q2 v0 v1 := by kernel_rfl
theorem slices_Compare_int_int.k2 (v0 : List Int) (v1 : List Int) (v2 : List Int) (v3 : Int) (v4 : Int) : roundL E (callT E tab) 141 Try.f141 2 [.r, .l, .r, .b] (vc (.d .fro (.sl (.int .i64)) v0) :: vc (.d .fro (.sl (.int .i64)) v1) :: nn 7 (vc (.d .fro (.sl (.int .i64)) v2) :: vc (iL v3) :: vc (iL v4) :: nn 24 ([]))) = slices_Compare_int_int.t2 (fun b => some (slices_Compare_int_int.mk b)) slices_Compare_int_int.q2 v0 v1 v2 v3 v4 := by kernel_rfl
theorem slices_Compare_int_int.s (v0 : List Int) (v1 : List Int) : Sub slices_Compare_int_int.mk (slices_Compare_int_int.t some slices_Compare_int_int.l2 v0 v1) (slices_Compare_int_int.t (fun b => some (slices_Compare_int_int.mk b)) slices_Compare_int_int.q2 v0 v1) := by
  unfold slices_Compare_int_int.t
  repeat' first | exact Sub.ret | exact Sub.none | exact Sub.loop | apply Sub.cond | (apply Sub.bind; intro _)
theorem slices_Compare_int_int.eq (v0 : List Int) (v1 : List Int) {b : Int} (h : slices_Compare_int_int.t some slices_Compare_int_int.l2 v0 v1 = some b) : slices_Compare_int_int v0 v1 = some b := tOf_intro slices_Compare_int_int.un (fun _ => by kernel_rfl) (vlim_fn (callT_le E tab) rfl rfl rfl ((slices_Compare_int_int.k v0 v1).trans (slices_Compare_int_int.s v0 v1 b h)))
theorem slices_Compare_int_int.s2 (v0 : List Int) (v1 : List Int) (v2 : List Int) (v3 : Int) (v4 : Int) : Sub slices_Compare_int_int.mk (slices_Compare_int_int.t2 some slices_Compare_int_int.l2 v0 v1 v2 v3 v4) (slices_Compare_int_int.t2 (fun b => some (slices_Compare_int_int.mk b)) slices_Compare_int_int.q2 v0 v1 v2 v3 v4) := by
  unfold slices_Compare_int_int.t2
  repeat' first | exact Sub.ret | exact Sub.none | exact Sub.loop | apply Sub.cond | (apply Sub.bind; intro _)
theorem slices_Compare_int_int.eq2 (v0 : List Int) (v1 : List Int) (v2 : List Int) (v3 : Int) (v4 : Int) {b : Int} (h : slices_Compare_int_int.t2 some slices_Compare_int_int.l2 v0 v1 v2 v3 v4 = some b) : slices_Compare_int_int.l2 v0 v1 v2 v3 v4 = some b := tOf_intro slices_Compare_int_int.un (fun _ => by kernel_rfl) (loopAtL_step ((slices_Compare_int_int.k2 v0 v1 v2 v3 v4).trans (slices_Compare_int_int.s2 v0 v1 v2 v3 v4 b h)))
noncomputable def cmp_Compare_int.t {γ : Type} (ret : (Int) → Option γ) (v0 : Int) (v1 : Int) : Option γ :=
  (cmp_isNaN_int (v0)).bind fun (r0 : Bool) =>
  (cmp_isNaN_int (v1)).bind fun (r1 : Bool) =>
  bif r0 then
    bif r1 then
      ret ((0 : Int))
    else
      ret ((-1 : Int))
  else
    bif r1 then
      ret ((1 : Int))
    else
      bif Decidable.decide (v0 < v1) then
        ret ((-1 : Int))
      else
        bif Decidable.decide (v0 > v1) then
          ret ((1 : Int))
        else
          ret ((0 : Int))
theorem cmp_Compare_int.k (v0 : Int) (v1 : Int) : topL E (callT E tab) 155 Try.f155 (cmp_Compare_int.c v0 v1) = cmp_Compare_int.t (fun b => some (cmp_Compare_int.mk b)) v0 v1 := by kernel_rfl
theorem cmp_Compare_int.s (v0 : Int) (v1 : Int) : Sub cmp_Compare_int.mk (cmp_Compare_int.t some v0 v1) (cmp_Compare_int.t (fun b => some (cmp_Compare_int.mk b)) v0 v1) := by
  unfold cmp_Compare_int.t
  repeat' first | exact Sub.ret | exact Sub.none | exact Sub.loop | apply Sub.cond | (apply Sub.bind; intro _)
theorem cmp_Compare_int.eq (v0 : Int) (v1 : Int) {b : Int} (h : cmp_Compare_int.t some v0 v1 = some b) : cmp_Compare_int v0 v1 = some b := tOf_intro cmp_Compare_int.un (fun _ => by kernel_rfl) (vlim_fn (callT_le E tab) rfl rfl rfl ((cmp_Compare_int.k v0 v1).trans (cmp_Compare_int.s v0 v1 b h)))
noncomputable def cmp_isNaN_int.t {γ : Type} (ret : (Bool) → Option γ) (v0 : Int) : Option γ :=
  ret (v0 != v0)
theorem cmp_isNaN_int.k (v0 : Int) : topL E (callT E tab) 163 Try.f163 (cmp_isNaN_int.c v0) = cmp_isNaN_int.t (fun b => some (cmp_isNaN_int.mk b)) v0 := by kernel_rfl
theorem cmp_isNaN_int.s (v0 : Int) : Sub cmp_isNaN_int.mk (cmp_isNaN_int.t some v0) (cmp_isNaN_int.t (fun b => some (cmp_isNaN_int.mk b)) v0) := by
  unfold cmp_isNaN_int.t
  repeat' first | exact Sub.ret | exact Sub.none | exact Sub.loop | apply Sub.cond | (apply Sub.bind; intro _)
theorem cmp_isNaN_int.eq (v0 : Int) {b : Bool} (h : cmp_isNaN_int.t some v0 = some b) : cmp_isNaN_int v0 = some b := tOf_intro cmp_isNaN_int.un (fun _ => by kernel_rfl) (vlim_fn (callT_le E tab) rfl rfl rfl ((cmp_isNaN_int.k v0).trans (cmp_isNaN_int.s v0 b h)))
noncomputable def slices_symMergeCmpFunc_impl_Weighted_impl_summed_1_70b.q9 (v0 : List (List Int × Int)) (v1 : Int) (v2 : Int) : Option R := loopAtL E (callT E tab) 158 Try.f158 5 [.l, .r, .l, .r, .r, .r, .l, .r, .b] (⟨(.val .one), [.d .sha (.sl (.pair (.sl (.int .i64)) (.int .i64))) v0], true, false, false, 0, 0⟩ :: nn 9 (vc (iL v1) :: nn 2 (vc (iL v2) :: nn 206 ([]))))
noncomputable def slices_symMergeCmpFunc_impl_Weighted_impl_summed_1_70b.l9 (v0 : List (List Int × Int)) (v1 : Int) (v2 : Int) : Option ((List (List Int × Int))) := tOf slices_symMergeCmpFunc_impl_Weighted_impl_summed_1_70b.mk (slices_symMergeCmpFunc_impl_Weighted_impl_summed_1_70b.q9 v0 v1 v2)
noncomputable def slices_symMergeCmpFunc_impl_Weighted_impl_summed_1_70b.q3 (v0 : List (List Int × Int)) (v1 : Int) (v2 : Int) (v3 : Int) : Option R := loopAtL E (callT E tab) 158 Try.f158 5 [.l, .r, .l, .r, .r, .l, .b] (⟨(.val .one), [.d .sha (.sl (.pair (.sl (.int .i64)) (.int .i64))) v0], true, false, false, 0, 0⟩ :: vc (iL v1) :: nn 2 (vc (.fn 130 []) :: nn 5 (vc (iL v2) :: vc (iL v3) :: nn 208 ([]))))
noncomputable def slices_symMergeCmpFunc_impl_Weighted_impl_summed_1_70b.l3 (v0 : List (List Int × Int)) (v1 : Int) (v2 : Int) (v3 : Int) : Option ((List (List Int × Int))) := tOf slices_symMergeCmpFunc_impl_Weighted_impl_summed_1_70b.mk (slices_symMergeCmpFunc_impl_Weighted_impl_summed_1_70b.q3 v0 v1 v2 v3)
noncomputable def slices_symMergeCmpFunc_impl_Weighted_impl_summed_1_70b.q21 (v0 : List (List Int × Int)) (v1 : Int) (v2 : Int) : Option R := loopAtL E (callT E tab) 158 Try.f158 5 [.r, .l, .r, .l, .r, .r, .r, .l, .r, .b] (⟨(.val .one), [.d .sha (.sl (.pair (.sl (.int .i64)) (.int .i64))) v0], true, false, false, 0, 0⟩ :: nn 13 (vc (iL v1) :: nn 2 (vc (iL v2) :: nn 202 ([]))))
noncomputable def slices_symMergeCmpFunc_impl_Weighted_impl_summed_1_70b.l21 (v0 : List (List Int × Int)) (v1 : Int) (v2 : Int) : Option ((List (List Int × Int))) := tOf slices_symMergeCmpFunc_impl_Weighted_impl_summed_1_70b.mk (slices_symMergeCmpFunc_impl_Weighted_impl_summed_1_70b.q21 v0 v1 v2)
noncomputable def slices_symMergeCmpFunc_impl_Weighted_impl_summed_1_70b.q15 (v0 : List (List Int × Int)) (v1 : Int) (v2 : Int) (v3 : Int) : Option R := loopAtL E (callT E tab) 158 Try.f158 5 [.r, .l, .r, .l, .r, .r, .l, .b] (⟨(.val .one), [.d .sha (.sl (.pair (.sl (.int .i64)) (.int .i64))) v0], true, false, false, 0, 0⟩ :: nn 1 (vc (iL v1) :: nn 1 (vc (.fn 130 []) :: nn 9 (vc (iL v2) :: vc (iL v3) :: nn 204 ([])))))
noncomputable def slices_symMergeCmpFunc_impl_Weighted_impl_summed_1_70b.l15 (v0 : List (List Int × Int)) (v1 : Int) (v2 : Int) (v3 : Int) : Option ((List (List Int × Int))) := tOf slices_symMergeCmpFunc_impl_Weighted_impl_summed_1_70b.mk (slices_symMergeCmpFunc_impl_Weighted_impl_summed_1_70b.q15 v0 v1 v2 v3)
noncomputable def slices_symMergeCmpFunc_impl_Weighted_impl_summed_1_70b.q33 (v0 : List (List Int × Int)) (v1 : Int) (v2 : Int) (v3 : Int) (v4 : Int) (v5 : Int) (v6 : Int) (v7 : Int) (v8 : Int) : Option R := loopAtL E (callT E tab) 158 Try.f158 5 [.r, .r, .r, .r, .r, .r, .r, .l, .b] (⟨(.val .one), [.d .sha (.sl (.pair (.sl (.int .i64)) (.int .i64))) v0], true, false, false, 0, 0⟩ :: vc (iL v1) :: vc (iL v2) :: vc (iL v3) :: vc (.fn 130 []) :: nn 13 (vc (iL v4) :: vc (iL v5) :: vc (iL v6) :: vc (iL v7) :: vc (iL v8) :: nn 197 ([])))
noncomputable def slices_symMergeCmpFunc_impl_Weighted_impl_summed_1_70b.l33 (v0 : List (List Int × Int)) (v1 : Int) (v2 : Int) (v3 : Int) (v4 : Int) (v5 : Int) (v6 : Int) (v7 : Int) (v8 : Int) : Option ((List (List Int × Int))) := tOf slices_symMergeCmpFunc_impl_Weighted_impl_summed_1_70b.mk (slices_symMergeCmpFunc_impl_Weighted_impl_summed_1_70b.q33 v0 v1 v2 v3 v4 v5 v6 v7 v8)
noncomputable def slices_symMergeCmpFunc_impl_Weighted_impl_summed_1_70b.t {γ : Type} (ret : ((List (List Int × Int))) → Option γ) (lp9 : (List (List Int × Int)) → Int → Int → Option γ) (lp3 : (List (List Int × Int)) → Int → Int → Int → Option γ) (lp21 : (List (List Int × Int)) → Int → Int → Option γ) (lp15 : (List (List Int × Int)) → Int → Int → Int → Option γ) (lp33 : (List (List Int × Int)) → Int → Int → Int → Int → Int → Int → Int → Int → Option γ) (v0 : List (List Int × Int)) (v1 : Int) (v2 : Int) (v3 : Int) : Option γ :=
  bif Go.IntKind.i64.wrap (v2 - v1) == (1 : Int) then
    lp3 (v0) (v1) (v2) (v3)
  else
    bif Go.IntKind.i64.wrap (v3 - v2) == (1 : Int) then
      lp15 (v0) (v2) (v1) (v2)
    else
      bif Decidable.decide   (v2 >     Go.IntKind.i64.wrap       ((Go.IntKind.u64.wrap (Go.IntKind.i64.wrap (v1 + v3))).fdiv         ((2 : Int) ^ Min.min (Int.toNat (1 : Int)) Go.IntKind.u64.bits))) then
        lp33 (v0) (v1) (v2) (v3) (Go.IntKind.i64.wrap   ((Go.IntKind.u64.wrap (Go.IntKind.i64.wrap (v1 + v3))).fdiv     ((2 : Int) ^ Min.min (Int.toNat (1 : Int)) Go.IntKind.u64.bits))) (Go.IntKind.i64.wrap   (Go.IntKind.i64.wrap       ((Go.IntKind.u64.wrap (Go.IntKind.i64.wrap (v1 + v3))).fdiv         ((2 : Int) ^ Min.min (Int.toNat (1 : Int)) Go.IntKind.u64.bits)) +     v2)) (Go.IntKind.i64.wrap   (Go.IntKind.i64.wrap       (Go.IntKind.i64.wrap           ((Go.IntKind.u64.wrap (Go.IntKind.i64.wrap (v1 + v3))).fdiv             ((2 : Int) ^ Min.min (Int.toNat (1 : Int)) Go.IntKind.u64.bits)) +         v2) -     v3)) (Go.IntKind.i64.wrap   ((Go.IntKind.u64.wrap (Go.IntKind.i64.wrap (v1 + v3))).fdiv     ((2 : Int) ^ Min.min (Int.toNat (1 : Int)) Go.IntKind.u64.bits))) (Go.IntKind.i64.wrap   (Go.IntKind.i64.wrap       (Go.IntKind.i64.wrap           ((Go.IntKind.u64.wrap (Go.IntKind.i64.wrap (v1 + v3))).fdiv             ((2 : Int) ^ Min.min (Int.toNat (1 : Int)) Go.IntKind.u64.bits)) +         v2) -     (1 : Int)))
      else
        lp33 (v0) (v1) (v2) (v3) (Go.IntKind.i64.wrap   ((Go.IntKind.u64.wrap (Go.IntKind.i64.wrap (v1 + v3))).fdiv     ((2 : Int) ^ Min.min (Int.toNat (1 : Int)) Go.IntKind.u64.bits))) (Go.IntKind.i64.wrap   (Go.IntKind.i64.wrap       ((Go.IntKind.u64.wrap (Go.IntKind.i64.wrap (v1 + v3))).fdiv         ((2 : Int) ^ Min.min (Int.toNat (1 : Int)) Go.IntKind.u64.bits)) +     v2)) (v1) (v2) (Go.IntKind.i64.wrap   (Go.IntKind.i64.wrap       (Go.IntKind.i64.wrap           ((Go.IntKind.u64.wrap (Go.IntKind.i64.wrap (v1 + v3))).fdiv             ((2 : Int) ^ Min.min (Int.toNat (1 : Int)) Go.IntKind.u64.bits)) +         v2) -     (1 : Int)))
noncomputable def slices_symMergeCmpFunc_impl_Weighted_impl_summed_1_70b.t9 {γ : Type} (ret : ((List (List Int × Int))) → Option γ) (lp9 : (List (List Int × Int)) → Int → Int → Option γ) (lp3 : (List (List Int × Int)) → Int → Int → Int → Option γ) (lp21 : (List (List Int × Int)) → Int → Int → Option γ) (lp15 : (List (List Int × Int)) → Int → Int → Int → Option γ) (lp33 : (List (List Int × Int)) → Int → Int → Int → Int → Int → Int → Int → Int → Option γ) (v0 : List (List Int × Int)) (v1 : Int) (v2 : Int) : Option γ :=
  bif Decidable.decide (v2 < Go.IntKind.i64.wrap (v1 - (1 : Int))) then
    bif Decidable.decide ((0 : Int) ≤ Go.IntKind.i64.wrap (v2 + (1 : Int))) then
      bif Decidable.decide ((Go.IntKind.i64.wrap (v2 + (1 : Int))).toNat < v0.length) then
        bif Decidable.decide ((Go.IntKind.i64.wrap (v2 + (1 : Int))).toNat < v0.length) then
          bif Decidable.decide ((0 : Int) ≤ v2) then
            bif Decidable.decide (v2.toNat < v0.length) then
              bif Decidable.decide (v2.toNat < v0.length) then
                bif Decidable.decide ((0 : Int) ≤ v2) then
                  bif Decidable.decide (v2.toNat < v0.length) then
                    bif Decidable.decide (v2.toNat < v0.length) then
                      bif Decidable.decide ((0 : Int) ≤ Go.IntKind.i64.wrap (v2 + (1 : Int))) then
                        bif Decidable.decide   ((Go.IntKind.i64.wrap (v2 + (1 : Int))).toNat <     (v0.set v2.toNat         ((v0.getD (Go.IntKind.i64.wrap (v2 + (1 : Int))).toNat ([], (0 : Int))).fst,           (v0.getD (Go.IntKind.i64.wrap (v2 + (1 : Int))).toNat ([], (0 : Int))).snd)).length) then
                          bif Decidable.decide   ((Go.IntKind.i64.wrap (v2 + (1 : Int))).toNat <     (v0.set v2.toNat         ((v0.getD (Go.IntKind.i64.wrap (v2 + (1 : Int))).toNat ([], (0 : Int))).fst,           (v0.getD (Go.IntKind.i64.wrap (v2 + (1 : Int))).toNat ([], (0 : Int))).snd)).length) then
                            lp9 ((v0.set v2.toNat       ((v0.getD (Go.IntKind.i64.wrap (v2 + (1 : Int))).toNat ([], (0 : Int))).fst,         (v0.getD (Go.IntKind.i64.wrap (v2 + (1 : Int))).toNat ([], (0 : Int))).snd)).set   (Go.IntKind.i64.wrap (v2 + (1 : Int))).toNat   ((v0.getD v2.toNat ([], (0 : Int))).fst, (v0.getD v2.toNat ([], (0 : Int))).snd)) (v1) (Go.IntKind.i64.wrap (v2 + (1 : Int)))
                          else
                            none
                        else
                          none
                      else
                        none
                    else
                      none
                  else
                    none
                else
                  none
              else
                none
            else
              none
          else
            none
        else
          none
      else
        none
    else
      none
  else
    ret (v0)
noncomputable def slices_symMergeCmpFunc_impl_Weighted_impl_summed_1_70b.t3 {γ : Type} (ret : ((List (List Int × Int))) → Option γ) (lp9 : (List (List Int × Int)) → Int → Int → Option γ) (lp3 : (List (List Int × Int)) → Int → Int → Int → Option γ) (lp21 : (List (List Int × Int)) → Int → Int → Option γ) (lp15 : (List (List Int × Int)) → Int → Int → Int → Option γ) (lp33 : (List (List Int × Int)) → Int → Int → Int → Int → Int → Int → Int → Int → Option γ) (v0 : List (List Int × Int)) (v1 : Int) (v2 : Int) (v3 : Int) : Option γ :=
  bif Decidable.decide (v2 < v3) then
    bif Decidable.decide   ((0 : Int) ≤     Go.IntKind.i64.wrap       ((Go.IntKind.u64.wrap (Go.IntKind.i64.wrap (v2 + v3))).fdiv         ((2 : Int) ^ Min.min (Int.toNat (1 : Int)) Go.IntKind.u64.bits))) then
      bif Decidable.decide   ((Go.IntKind.i64.wrap         ((Go.IntKind.u64.wrap (Go.IntKind.i64.wrap (v2 + v3))).fdiv           ((2 : Int) ^ Min.min (Int.toNat (1 : Int)) Go.IntKind.u64.bits))).toNat <     v0.length) then
        bif Decidable.decide   ((Go.IntKind.i64.wrap         ((Go.IntKind.u64.wrap (Go.IntKind.i64.wrap (v2 + v3))).fdiv           ((2 : Int) ^ Min.min (Int.toNat (1 : Int)) Go.IntKind.u64.bits))).toNat <     v0.length) then
          bif Decidable.decide ((0 : Int) ≤ v1) then
            bif Decidable.decide (v1.toNat < v0.length) then
              bif Decidable.decide (v1.toNat < v0.length) then
                (impl_summed_1 ((v0.getD     (Go.IntKind.i64.wrap         ((Go.IntKind.u64.wrap (Go.IntKind.i64.wrap (v2 + v3))).fdiv           ((2 : Int) ^ Min.min (Int.toNat (1 : Int)) Go.IntKind.u64.bits))).toNat     ([], (0 : Int))).fst) ((v0.getD     (Go.IntKind.i64.wrap         ((Go.IntKind.u64.wrap (Go.IntKind.i64.wrap (v2 + v3))).fdiv           ((2 : Int) ^ Min.min (Int.toNat (1 : Int)) Go.IntKind.u64.bits))).toNat     ([], (0 : Int))).snd) ((v0.getD v1.toNat ([], (0 : Int))).fst) ((v0.getD v1.toNat ([], (0 : Int))).snd)).bind fun (r0 : Int) =>
                bif Decidable.decide (r0 < (0 : Int)) then
                  lp3 (v0) (v1) (Go.IntKind.i64.wrap   (Go.IntKind.i64.wrap       ((Go.IntKind.u64.wrap (Go.IntKind.i64.wrap (v2 + v3))).fdiv         ((2 : Int) ^ Min.min (Int.toNat (1 : Int)) Go.IntKind.u64.bits)) +     (1 : Int))) (v3)
                else
                  lp3 (v0) (v1) (v2) (Go.IntKind.i64.wrap   ((Go.IntKind.u64.wrap (Go.IntKind.i64.wrap (v2 + v3))).fdiv     ((2 : Int) ^ Min.min (Int.toNat (1 : Int)) Go.IntKind.u64.bits)))
              else
                none
            else
              none
          else
            none
        else
          none
      else
        none
    else
      none
  else
    lp9 (v0) (v2) (v1)
noncomputable def slices_symMergeCmpFunc_impl_Weighted_impl_summed_1_70b.t21 {γ : Type} (ret : ((List (List Int × Int))) → Option γ) (lp9 : (List (List Int × Int)) → Int → Int → Option γ) (lp3 : (List (List Int × Int)) → Int → Int → Int → Option γ) (lp21 : (List (List Int × Int)) → Int → Int → Option γ) (lp15 : (List (List Int × Int)) → Int → Int → Int → Option γ) (lp33 : (List (List Int × Int)) → Int → Int → Int → Int → Int → Int → Int → Int → Option γ) (v0 : List (List Int × Int)) (v1 : Int) (v2 : Int) : Option γ :=
  bif Decidable.decide (v2 > v1) then
    bif Decidable.decide ((0 : Int) ≤ Go.IntKind.i64.wrap (v2 - (1 : Int))) then
      bif Decidable.decide ((Go.IntKind.i64.wrap (v2 - (1 : Int))).toNat < v0.length) then
        bif Decidable.decide ((Go.IntKind.i64.wrap (v2 - (1 : Int))).toNat < v0.length) then
          bif Decidable.decide ((0 : Int) ≤ v2) then
            bif Decidable.decide (v2.toNat < v0.length) then
              bif Decidable.decide (v2.toNat < v0.length) then
                bif Decidable.decide ((0 : Int) ≤ v2) then
                  bif Decidable.decide (v2.toNat < v0.length) then
                    bif Decidable.decide (v2.toNat < v0.length) then
                      bif Decidable.decide ((0 : Int) ≤ Go.IntKind.i64.wrap (v2 - (1 : Int))) then
                        bif Decidable.decide   ((Go.IntKind.i64.wrap (v2 - (1 : Int))).toNat <     (v0.set v2.toNat         ((v0.getD (Go.IntKind.i64.wrap (v2 - (1 : Int))).toNat ([], (0 : Int))).fst,           (v0.getD (Go.IntKind.i64.wrap (v2 - (1 : Int))).toNat ([], (0 : Int))).snd)).length) then
                          bif Decidable.decide   ((Go.IntKind.i64.wrap (v2 - (1 : Int))).toNat <     (v0.set v2.toNat         ((v0.getD (Go.IntKind.i64.wrap (v2 - (1 : Int))).toNat ([], (0 : Int))).fst,           (v0.getD (Go.IntKind.i64.wrap (v2 - (1 : Int))).toNat ([], (0 : Int))).snd)).length) then
                            lp21 ((v0.set v2.toNat       ((v0.getD (Go.IntKind.i64.wrap (v2 - (1 : Int))).toNat ([], (0 : Int))).fst,         (v0.getD (Go.IntKind.i64.wrap (v2 - (1 : Int))).toNat ([], (0 : Int))).snd)).set   (Go.IntKind.i64.wrap (v2 - (1 : Int))).toNat   ((v0.getD v2.toNat ([], (0 : Int))).fst, (v0.getD v2.toNat ([], (0 : Int))).snd)) (v1) (Go.IntKind.i64.wrap (v2 - (1 : Int)))
                          else
                            none
                        else
                          none
                      else
                        none
                    else
                      none
                  else
                    none
                else
                  none
              else
                none
            else
              none
          else
            none
        else
          none
      else
        none
    else
      none
  else
    ret (v0)
noncomputable def slices_symMergeCmpFunc_impl_Weighted_impl_summed_1_70b.t15 {γ : Type} (ret : ((List (List Int × Int))) → Option γ) (lp9 : (List (List Int × Int)) → Int → Int → Option γ) (lp3 : (List (List Int × Int)) → Int → Int → Int → Option γ) (lp21 : (List (List Int × Int)) → Int → Int → Option γ) (lp15 : (List (List Int × Int)) → Int → Int → Int → Option γ) (lp33 : (List (List Int × Int)) → Int → Int → Int → Int → Int → Int → Int → Int → Option γ) (v0 : List (List Int × Int)) (v1 : Int) (v2 : Int) (v3 : Int) : Option γ :=
  bif Decidable.decide (v2 < v3) then
    bif Decidable.decide ((0 : Int) ≤ v1) then
      bif Decidable.decide (v1.toNat < v0.length) then
        bif Decidable.decide (v1.toNat < v0.length) then
          bif Decidable.decide   ((0 : Int) ≤     Go.IntKind.i64.wrap       ((Go.IntKind.u64.wrap (Go.IntKind.i64.wrap (v2 + v3))).fdiv         ((2 : Int) ^ Min.min (Int.toNat (1 : Int)) Go.IntKind.u64.bits))) then
            bif Decidable.decide   ((Go.IntKind.i64.wrap         ((Go.IntKind.u64.wrap (Go.IntKind.i64.wrap (v2 + v3))).fdiv           ((2 : Int) ^ Min.min (Int.toNat (1 : Int)) Go.IntKind.u64.bits))).toNat <     v0.length) then
              bif Decidable.decide   ((Go.IntKind.i64.wrap         ((Go.IntKind.u64.wrap (Go.IntKind.i64.wrap (v2 + v3))).fdiv           ((2 : Int) ^ Min.min (Int.toNat (1 : Int)) Go.IntKind.u64.bits))).toNat <     v0.length) then
                (impl_summed_1 ((v0.getD v1.toNat ([], (0 : Int))).fst) ((v0.getD v1.toNat ([], (0 : Int))).snd) ((v0.getD     (Go.IntKind.i64.wrap         ((Go.IntKind.u64.wrap (Go.IntKind.i64.wrap (v2 + v3))).fdiv           ((2 : Int) ^ Min.min (Int.toNat (1 : Int)) Go.IntKind.u64.bits))).toNat     ([], (0 : Int))).fst) ((v0.getD     (Go.IntKind.i64.wrap         ((Go.IntKind.u64.wrap (Go.IntKind.i64.wrap (v2 + v3))).fdiv           ((2 : Int) ^ Min.min (Int.toNat (1 : Int)) Go.IntKind.u64.bits))).toNat     ([], (0 : Int))).snd)).bind fun (r1 : Int) =>
                bif !Decidable.decide (r1 < (0 : Int)) then
                  lp15 (v0) (v1) (Go.IntKind.i64.wrap   (Go.IntKind.i64.wrap       ((Go.IntKind.u64.wrap (Go.IntKind.i64.wrap (v2 + v3))).fdiv         ((2 : Int) ^ Min.min (Int.toNat (1 : Int)) Go.IntKind.u64.bits)) +     (1 : Int))) (v3)
                else
                  lp15 (v0) (v1) (v2) (Go.IntKind.i64.wrap   ((Go.IntKind.u64.wrap (Go.IntKind.i64.wrap (v2 + v3))).fdiv     ((2 : Int) ^ Min.min (Int.toNat (1 : Int)) Go.IntKind.u64.bits)))
              else
                none
            else
              none
          else
            none
        else
          none
      else
        none
    else
      none
  else
    lp21 (v0) (v2) (v1)
noncomputable def slices_symMergeCmpFunc_impl_Weighted_impl_summed_1_70b.t33 {γ : Type} (ret : ((List (List Int × Int))) → Option γ) (lp9 : (List (List Int × Int)) → Int → Int → Option γ) (lp3 : (List (List Int × Int)) → Int → Int → Int → Option γ) (lp21 : (List (List Int × Int)) → Int → Int → Option γ) (lp15 : (List (List Int × Int)) → Int → Int → Int → Option γ) (lp33 : (List (List Int × Int)) → Int → Int → Int → Int → Int → Int → Int → Int → Option γ) (v0 : List (List Int × Int)) (v1 : Int) (v2 : Int) (v3 : Int) (v4 : Int) (v5 : Int) (v6 : Int) (v7 : Int) (v8 : Int) : Option γ :=
  bif Decidable.decide (v6 < v7) then
    bif Decidable.decide   ((0 : Int) ≤     Go.IntKind.i64.wrap       (v8 -         Go.IntKind.i64.wrap           ((Go.IntKind.u64.wrap (Go.IntKind.i64.wrap (v6 + v7))).fdiv             ((2 : Int) ^ Min.min (Int.toNat (1 : Int)) Go.IntKind.u64.bits)))) then
      bif Decidable.decide   ((Go.IntKind.i64.wrap         (v8 -           Go.IntKind.i64.wrap             ((Go.IntKind.u64.wrap (Go.IntKind.i64.wrap (v6 + v7))).fdiv               ((2 : Int) ^ Min.min (Int.toNat (1 : Int)) Go.IntKind.u64.bits)))).toNat <     v0.length) then
        bif Decidable.decide   ((Go.IntKind.i64.wrap         (v8 -           Go.IntKind.i64.wrap             ((Go.IntKind.u64.wrap (Go.IntKind.i64.wrap (v6 + v7))).fdiv               ((2 : Int) ^ Min.min (Int.toNat (1 : Int)) Go.IntKind.u64.bits)))).toNat <     v0.length) then
          bif Decidable.decide   ((0 : Int) ≤     Go.IntKind.i64.wrap       ((Go.IntKind.u64.wrap (Go.IntKind.i64.wrap (v6 + v7))).fdiv         ((2 : Int) ^ Min.min (Int.toNat (1 : Int)) Go.IntKind.u64.bits))) then
            bif Decidable.decide   ((Go.IntKind.i64.wrap         ((Go.IntKind.u64.wrap (Go.IntKind.i64.wrap (v6 + v7))).fdiv           ((2 : Int) ^ Min.min (Int.toNat (1 : Int)) Go.IntKind.u64.bits))).toNat <     v0.length) then
              bif Decidable.decide   ((Go.IntKind.i64.wrap         ((Go.IntKind.u64.wrap (Go.IntKind.i64.wrap (v6 + v7))).fdiv           ((2 : Int) ^ Min.min (Int.toNat (1 : Int)) Go.IntKind.u64.bits))).toNat <     v0.length) then
                (impl_summed_1 ((v0.getD     (Go.IntKind.i64.wrap         (v8 -           Go.IntKind.i64.wrap             ((Go.IntKind.u64.wrap (Go.IntKind.i64.wrap (v6 + v7))).fdiv               ((2 : Int) ^ Min.min (Int.toNat (1 : Int)) Go.IntKind.u64.bits)))).toNat     ([], (0 : Int))).fst) ((v0.getD     (Go.IntKind.i64.wrap         (v8 -           Go.IntKind.i64.wrap             ((Go.IntKind.u64.wrap (Go.IntKind.i64.wrap (v6 + v7))).fdiv               ((2 : Int) ^ Min.min (Int.toNat (1 : Int)) Go.IntKind.u64.bits)))).toNat     ([], (0 : Int))).snd) ((v0.getD     (Go.IntKind.i64.wrap         ((Go.IntKind.u64.wrap (Go.IntKind.i64.wrap (v6 + v7))).fdiv           ((2 : Int) ^ Min.min (Int.toNat (1 : Int)) Go.IntKind.u64.bits))).toNat     ([], (0 : Int))).fst) ((v0.getD     (Go.IntKind.i64.wrap         ((Go.IntKind.u64.wrap (Go.IntKind.i64.wrap (v6 + v7))).fdiv           ((2 : Int) ^ Min.min (Int.toNat (1 : Int)) Go.IntKind.u64.bits))).toNat     ([], (0 : Int))).snd)).bind fun (r2 : Int) =>
                bif !Decidable.decide (r2 < (0 : Int)) then
                  lp33 (v0) (v1) (v2) (v3) (v4) (v5) (Go.IntKind.i64.wrap   (Go.IntKind.i64.wrap       ((Go.IntKind.u64.wrap (Go.IntKind.i64.wrap (v6 + v7))).fdiv         ((2 : Int) ^ Min.min (Int.toNat (1 : Int)) Go.IntKind.u64.bits)) +     (1 : Int))) (v7) (v8)
                else
                  lp33 (v0) (v1) (v2) (v3) (v4) (v5) (v6) (Go.IntKind.i64.wrap   ((Go.IntKind.u64.wrap (Go.IntKind.i64.wrap (v6 + v7))).fdiv     ((2 : Int) ^ Min.min (Int.toNat (1 : Int)) Go.IntKind.u64.bits))) (v8)
              else
                none
            else
              none
          else
            none
        else
          none
      else
        none
    else
      none
  else
    bif Decidable.decide (v6 < v2) then
      bif Decidable.decide (v2 < Go.IntKind.i64.wrap (v5 - v6)) then
        (slices_rotateCmpFunc_impl_Weighted_impl_summed_1_70b (v0) (v6) (v2) (Go.IntKind.i64.wrap (v5 - v6))).bind fun (r3 : (List (List Int × Int))) =>
        bif Decidable.decide (v1 < v6) then
          bif Decidable.decide (v6 < v4) then
            (slices_symMergeCmpFunc_impl_Weighted_impl_summed_1_70b (r3) (v1) (v6) (v4)).bind fun (r4 : (List (List Int × Int))) =>
            bif Decidable.decide (v4 < Go.IntKind.i64.wrap (v5 - v6)) then
              bif Decidable.decide (Go.IntKind.i64.wrap (v5 - v6) < v3) then
                (slices_symMergeCmpFunc_impl_Weighted_impl_summed_1_70b (r4) (v4) (Go.IntKind.i64.wrap (v5 - v6)) (v3)).bind fun (r5 : (List (List Int × Int))) =>
                ret (r5)
              else
                ret (r4)
            else
              ret (r4)
          else
            bif Decidable.decide (v4 < Go.IntKind.i64.wrap (v5 - v6)) then
              bif Decidable.decide (Go.IntKind.i64.wrap (v5 - v6) < v3) then
                (slices_symMergeCmpFunc_impl_Weighted_impl_summed_1_70b (r3) (v4) (Go.IntKind.i64.wrap (v5 - v6)) (v3)).bind fun (r6 : (List (List Int × Int))) =>
                ret (r6)
              else
                ret (r3)
            else
              ret (r3)
        else
          bif Decidable.decide (v4 < Go.IntKind.i64.wrap (v5 - v6)) then
            bif Decidable.decide (Go.IntKind.i64.wrap (v5 - v6) < v3) then
              (slices_symMergeCmpFunc_impl_Weighted_impl_summed_1_70b (r3) (v4) (Go.IntKind.i64.wrap (v5 - v6)) (v3)).bind fun (r7 : (List (List Int × Int))) =>
              ret (r7)
            else
              ret (r3)
          else
            ret (r3)
      else
        bif Decidable.decide (v1 < v6) then
          bif Decidable.decide (v6 < v4) then
            (slices_symMergeCmpFunc_impl_Weighted_impl_summed_1_70b (v0) (v1) (v6) (v4)).bind fun (r8 : (List (List Int × Int))) =>
            bif Decidable.decide (v4 < Go.IntKind.i64.wrap (v5 - v6)) then
              bif Decidable.decide (Go.IntKind.i64.wrap (v5 - v6) < v3) then
                (slices_symMergeCmpFunc_impl_Weighted_impl_summed_1_70b (r8) (v4) (Go.IntKind.i64.wrap (v5 - v6)) (v3)).bind fun (r9 : (List (List Int × Int))) =>
                ret (r9)
              else
                ret (r8)
            else
              ret (r8)
          else
            bif Decidable.decide (v4 < Go.IntKind.i64.wrap (v5 - v6)) then
              bif Decidable.decide (Go.IntKind.i64.wrap (v5 - v6) < v3) then
                (slices_symMergeCmpFunc_impl_Weighted_impl_summed_1_70b (v0) (v4) (Go.IntKind.i64.wrap (v5 - v6)) (v3)).bind fun (r10 : (List (List Int × Int))) =>
                ret (r10)
              else
                ret (v0)
            else
              ret (v0)
        else
          bif Decidable.decide (v4 < Go.IntKind.i64.wrap (v5 - v6)) then
            bif Decidable.decide (Go.IntKind.i64.wrap (v5 - v6) < v3) then
              (slices_symMergeCmpFunc_impl_Weighted_impl_summed_1_70b (v0) (v4) (Go.IntKind.i64.wrap (v5 - v6)) (v3)).bind fun (r11 : (List (List Int × Int))) =>
              ret (r11)
            else
              ret (v0)
          else
            ret (v0)
    else
      bif Decidable.decide (v1 < v6) then
        bif Decidable.decide (v6 < v4) then
          (slices_symMergeCmpFunc_impl_Weighted_impl_summed_1_70b (v0) (v1) (v6) (v4)).bind fun (r12 : (List (List Int × Int))) =>
          bif Decidable.decide (v4 < Go.IntKind.i64.wrap (v5 - v6)) then
            bif Decidable.decide (Go.IntKind.i64.wrap (v5 - v6) < v3) then
              (slices_symMergeCmpFunc_impl_Weighted_impl_summed_1_70b (r12) (v4) (Go.IntKind.i64.wrap (v5 - v6)) (v3)).bind fun (r13 : (List (List Int × Int))) =>
              ret (r13)
            else
              ret (r12)
          else
            ret (r12)
        else
          bif Decidable.decide (v4 < Go.IntKind.i64.wrap (v5 - v6)) then
            bif Decidable.decide (Go.IntKind.i64.wrap (v5 - v6) < v3) then
              (slices_symMergeCmpFunc_impl_Weighted_impl_summed_1_70b (v0) (v4) (Go.IntKind.i64.wrap (v5 - v6)) (v3)).bind fun (r14 : (List (List Int × Int))) =>
              ret (r14)
            else
              ret (v0)
          else
            ret (v0)
      else
        bif Decidable.decide (v4 < Go.IntKind.i64.wrap (v5 - v6)) then
          bif Decidable.decide (Go.IntKind.i64.wrap (v5 - v6) < v3) then
            (slices_symMergeCmpFunc_impl_Weighted_impl_summed_1_70b (v0) (v4) (Go.IntKind.i64.wrap (v5 - v6)) (v3)).bind fun (r15 : (List (List Int × Int))) =>
            ret (r15)
          else
            ret (v0)
        else
          ret (v0)
theorem slices_symMergeCmpFunc_impl_Weighted_impl_summed_1_70b.k (v0 : List (List Int × Int)) (v1 : Int) (v2 : Int) (v3 : Int) : topL E (callT E tab) 158 Try.f158 (slices_symMergeCmpFunc_impl_Weighted_impl_summed_1_70b.c v0 v1 v2 v3) = slices_symMergeCmpFunc_impl_Weighted_impl_summed_1_70b.t (fun b => some (slices_symMergeCmpFunc_impl_Weighted_impl_summed_1_70b.mk b)) slices_symMergeCmpFunc_impl_Weighted_impl_summed_1_70b.q9 slices_symMergeCmpFunc_impl_Weighted_impl_summed_1_70b.q3 slices_symMergeCmpFunc_impl_Weighted_impl_summed_1_70b.q21 slices_symMergeCmpFunc_impl_Weighted_impl_summed_1_70b.q15 slices_symMergeCmpFunc_impl_Weighted_impl_summed_1_70b.q33 v0 v1 v2 v3 := by kernel_rfl
theorem slices_symMergeCmpFunc_impl_Weighted_impl_summed_1_70b.k9 (v0 : List (List Int × Int)) (v1 : Int) (v2 : Int) : roundL E (callT E tab) 158 Try.f158 5 [.l, .r, .l, .r, .r, .r, .l, .r, .b] (⟨(.val .one), [.d .sha (.sl (.pair (.sl (.int .i64)) (.int .i64))) v0], true, false, false, 0, 0⟩ :: nn 9 (vc (iL v1) :: nn 2 (vc (iL v2) :: nn 206 ([])))) = slices_symMergeCmpFunc_impl_Weighted_impl_summed_1_70b.t9 (fun b => some (slices_symMergeCmpFunc_impl_Weighted_impl_summed_1_70b.mk b)) slices_symMergeCmpFunc_impl_Weighted_impl_summed_1_70b.q9 slices_symMergeCmpFunc_impl_Weighted_impl_summed_1_70b.q3 slices_symMergeCmpFunc_impl_Weighted_impl_summed_1_70b.q21 slices_symMergeCmpFunc_impl_Weighted_impl_summed_1_70b.q15 slices_symMergeCmpFunc_impl_Weighted_impl_summed_1_70b.q33 v0 v1 v2 := by kernel_rfl
theorem slices_symMergeCmpFunc_impl_Weighted_impl_summed_1_70b.k3 (v0 : List (List Int × Int)) (v1 : Int) (v2 : Int) (v3 : Int) : roundL E (callT E tab) 158 Try.f158 5 [.l, .r, .l, .r, .r, .l, .b] (⟨(.val .one), [.d .sha (.sl (.pair (.sl (.int .i64)) (.int .i64))) v0], true, false, false, 0, 0⟩ :: vc (iL v1) :: nn 2 (vc (.fn 130 []) :: nn 5 (vc (iL v2) :: vc (iL v3) :: nn 208 ([])))) = slices_symMergeCmpFunc_impl_Weighted_impl_summed_1_70b.t3 (fun b => some (slices_symMergeCmpFunc_impl_Weighted_impl_summed_1_70b.mk b)) slices_symMergeCmpFunc_impl_Weighted_impl_summed_1_70b.q9 slices_symMergeCmpFunc_impl_Weighted_impl_summed_1_70b.q3 slices_symMergeCmpFunc_impl_Weighted_impl_summed_1_70b.q21 slices_symMergeCmpFunc_impl_Weighted_impl_summed_1_70b.q15 slices_symMergeCmpFunc_impl_Weighted_impl_summed_1_70b.q33 v0 v1 v2 v3 := by kernel_rfl
theorem slices_symMergeCmpFunc_impl_Weighted_impl_summed_1_70b.k21 (v0 : List (List Int × Int)) (v1 : Int) (v2 : Int) : roundL E (callT E tab) 158 Try.f158 5 [.r, .l, .r, .l, .r, .r, .r, .l, .r, .b] (⟨(.val .one), [.d .sha (.sl (.pair (.sl (.int .i64)) (.int .i64))) v0], true, false, false, 0, 0⟩ :: nn 13 (vc (iL v1) :: nn 2 (vc (iL v2) :: nn 202 ([])))) = slices_symMergeCmpFunc_impl_Weighted_impl_summed_1_70b.t21 (fun b => some (slices_symMergeCmpFunc_impl_Weighted_impl_summed_1_70b.mk b)) slices_symMergeCmpFunc_impl_Weighted_impl_summed_1_70b.q9 slices_symMergeCmpFunc_impl_Weighted_impl_summed_1_70b.q3 slices_symMergeCmpFunc_impl_Weighted_impl_summed_1_70b.q21 slices_symMergeCmpFunc_impl_Weighted_impl_summed_1_70b.q15 slices_symMergeCmpFunc_impl_Weighted_impl_summed_1_70b.q33 v0 v1 v2 := by kernel_rfl
theorem slices_symMergeCmpFunc_impl_Weighted_impl_summed_1_70b.k15 (v0 : List (List Int × Int)) (v1 : Int) (v2 : Int) (v3 : Int) : roundL E (callT E tab) 158 Try.f158 5 [.r, .l, .r, .l, .r, .r, .l, .b] (⟨(.val .one), [.d .sha (.sl (.pair (.sl (.int .i64)) (.int .i64))) v0], true, false, false, 0, 0⟩ :: nn 1 (vc (iL v1) :: nn 1 (vc (.fn 130 []) :: nn 9 (vc (iL v2) :: vc (iL v3) :: nn 204 ([]))))) = slices_symMergeCmpFunc_impl_Weighted_impl_summed_1_70b.t15 (fun b => some (slices_symMergeCmpFunc_impl_Weighted_impl_summed_1_70b.mk b)) slices_symMergeCmpFunc_impl_Weighted_impl_summed_1_70b.q9 slices_symMergeCmpFunc_impl_Weighted_impl_summed_1_70b.q3 slices_symMergeCmpFunc_impl_Weighted_impl_summed_1_70b.q21 slices_symMergeCmpFunc_impl_Weighted_impl_summed_1_70b.q15 slices_symMergeCmpFunc_impl_Weighted_impl_summed_1_70b.q33 v0 v1 v2 v3 := by kernel_rfl
theorem slices_symMergeCmpFunc_impl_Weighted_impl_summed_1_70b.k33 (v0 : List (List Int × Int)) (v1 : Int) (v2 : Int) (v3 : Int) (v4 : Int) (v5 : Int) (v6 : Int) (v7 : Int) (v8 : Int) : roundL E (callT E tab) 158 Try.f158 5 [.r, .r, .r, .r, .r, .r, .r, .l, .b] (⟨(.val .one), [.d .sha (.sl (.pair (.sl (.int .i64)) (.int .i64))) v0], true, false, false, 0, 0⟩ :: vc (iL v1) :: vc (iL v2) :: vc (iL v3) :: vc (.fn 130 []) :: nn 13 (vc (iL v4) :: vc (iL v5) :: vc (iL v6) :: vc (iL v7) :: vc (iL v8) :: nn 197 ([]))) = slices_symMergeCmpFunc_impl_Weighted_impl_summed_1_70b.t33 (fun b => some (slices_symMergeCmpFunc_impl_Weighted_impl_summed_1_70b.mk b)) slices_symMergeCmpFunc_impl_Weighted_impl_summed_1_70b.q9 slices_symMergeCmpFunc_impl_Weighted_impl_summed_1_70b.q3 slices_symMergeCmpFunc_impl_Weighted_impl_summed_1_70b.q21 slices_symMergeCmpFunc_impl_Weighted_impl_summed_1_70b.q15 slices_symMergeCmpFunc_impl_Weighted_impl_summed_1_70b.q33 v0 v1 v2 v3 v4 v5 v6 v7 v8 := by kernel_rfl
theorem slices_symMergeCmpFunc_impl_Weighted_impl_summed_1_70b.s (v0 : List (List Int × Int)) (v1 : Int) (v2 : Int) (v3 : Int) : Sub slices_symMergeCmpFunc_impl_Weighted_impl_summed_1_70b.mk (slices_symMergeCmpFunc_impl_Weighted_impl_summed_1_70b.t some slices_symMergeCmpFunc_impl_Weighted_impl_summed_1_70b.l9 slices_symMergeCmpFunc_impl_Weighted_impl_summed_1_70b.l3 slices_symMergeCmpFunc_impl_Weighted_impl_summed_1_70b.l21 slices_symMergeCmpFunc_impl_Weighted_impl_summed_1_70b.l15 slices_symMergeCmpFunc_impl_Weighted_impl_summed_1_70b.l33 v0 v1 v2 v3) (slices_symMergeCmpFunc_impl_Weighted_impl_summed_1_70b.t (fun b => some (slices_symMergeCmpFunc_impl_Weighted_impl_summed_1_70b.mk b)) slices_symMergeCmpFunc_impl_Weighted_impl_summed_1_70b.q9 slices_symMergeCmpFunc_impl_Weighted_impl_summed_1_70b.q3 slices_symMergeCmpFunc_impl_Weighted_impl_summed_1_70b.q21 slices_symMergeCmpFunc_impl_Weighted_impl_summed_1_70b.q15 slices_symMergeCmpFunc_impl_Weighted_impl_summed_1_70b.q33 v0 v1 v2 v3) := by
  unfold slices_symMergeCmpFunc_impl_Weighted_impl_summed_1_70b.t
  repeat' first | exact Sub.ret | exact Sub.none | exact Sub.loop | apply Sub.cond | (apply Sub.bind; intro _)
theorem slices_symMergeCmpFunc_impl_Weighted_impl_summed_1_70b.eq (v0 : List (List Int × Int)) (v1 : Int) (v2 : Int) (v3 : Int) {b : (List (List Int × Int))} (h : slices_symMergeCmpFunc_impl_Weighted_impl_summed_1_70b.t some slices_symMergeCmpFunc_impl_Weighted_impl_summed_1_70b.l9 slices_symMergeCmpFunc_impl_Weighted_impl_summed_1_70b.l3 slices_symMergeCmpFunc_impl_Weighted_impl_summed_1_70b.l21 slices_symMergeCmpFunc_impl_Weighted_impl_summed_1_70b.l15 slices_symMergeCmpFunc_impl_Weighted_impl_summed_1_70b.l33 v0 v1 v2 v3 = some b) : slices_symMergeCmpFunc_impl_Weighted_impl_summed_1_70b v0 v1 v2 v3 = some b := tOf_intro slices_symMergeCmpFunc_impl_Weighted_impl_summed_1_70b.un (fun _ => by kernel_rfl) (vlim_fn (callT_le E tab) rfl rfl rfl ((slices_symMergeCmpFunc_impl_Weighted_impl_summed_1_70b.k v0 v1 v2 v3).trans (slices_symMergeCmpFunc_impl_Weighted_impl_summed_1_70b.s v0 v1 v2 v3 b h)))
theorem slices_symMergeCmpFunc_impl_Weighted_impl_summed_1_70b.s9 (v0 : List (List Int × Int)) (v1 : Int) (v2 : Int) : Sub slices_symMergeCmpFunc_impl_Weighted_impl_summed_1_70b.mk (slices_symMergeCmpFunc_impl_Weighted_impl_summed_1_70b.t9 some slices_symMergeCmpFunc_impl_Weighted_impl_summed_1_70b.l9 slices_symMergeCmpFunc_impl_Weighted_impl_summed_1_70b.l3 slices_symMergeCmpFunc_impl_Weighted_impl_summed_1_70b.l21 slices_symMergeCmpFunc_impl_Weighted_impl_summed_1_70b.l15 slices_symMergeCmpFunc_impl_Weighted_impl_summed_1_70b.l33 v0 v1 v2) (slices_symMergeCmpFunc_impl_Weighted_impl_summed_1_70b.t9 (fun b => some (slices_symMergeCmpFunc_impl_Weighted_impl_summed_1_70b.mk b)) slices_symMergeCmpFunc_impl_Weighted_impl_summed_1_70b.q9 slices_symMergeCmpFunc_impl_Weighted_impl_summed_1_70b.q3 slices_symMergeCmpFunc_impl_Weighted_impl_summed_1_70b.q21 slices_symMergeCmpFunc_impl_Weighted_impl_summed_1_70b.q15 slices_symMergeCmpFunc_impl_Weighted_impl_summed_1_70b.q33 v0 v1 v2) := by
  unfold slices_symMergeCmpFunc_impl_Weighted_impl_summed_1_70b.t9
  repeat' first | exact Sub.ret | exact Sub.none | exact Sub.loop | apply Sub.cond | (apply Sub.bind; intro _)
theorem slices_symMergeCmpFunc_impl_Weighted_impl_summed_1_70b.eq9 (v0 : List (List Int × Int)) (v1 : Int) (v2 : Int) {b : (List (List Int × Int))} (h : slices_symMergeCmpFunc_impl_Weighted_impl_summed_1_70b.t9 some slices_symMergeCmpFunc_impl_Weighted_impl_summed_1_70b.l9 slices_symMergeCmpFunc_impl_Weighted_impl_summed_1_70b.l3 slices_symMergeCmpFunc_impl_Weighted_impl_summed_1_70b.l21 slices_symMergeCmpFunc_impl_Weighted_impl_summed_1_70b.l15 slices_symMergeCmpFunc_impl_Weighted_impl_summed_1_70b.l33 v0 v1 v2 = some b) : slices_symMergeCmpFunc_impl_Weighted_impl_summed_1_70b.l9 v0 v1 v2 = some b := tOf_intro slices_symMergeCmpFunc_impl_Weighted_impl_summed_1_70b.un (fun _ => by kernel_rfl) (loopAtL_step ((slices_symMergeCmpFunc_impl_Weighted_impl_summed_1_70b.k9 v0 v1 v2).trans (slices_symMergeCmpFunc_impl_Weighted_impl_summed_1_70b.s9 v0 v1 v2 b h)))
theorem slices_symMergeCmpFunc_impl_Weighted_impl_summed_1_70b.s3 (v0 : List (List Int × Int)) (v1 : Int) (v2 : Int) (v3 : Int) : Sub slices_symMergeCmpFunc_impl_Weighted_impl_summed_1_70b.mk (slices_symMergeCmpFunc_impl_Weighted_impl_summed_1_70b.t3 some slices_symMergeCmpFunc_impl_Weighted_impl_summed_1_70b.l9 slices_symMergeCmpFunc_impl_Weighted_impl_summed_1_70b.l3 slices_symMergeCmpFunc_impl_Weighted_impl_summed_1_70b.l21 slices_symMergeCmpFunc_impl_Weighted_impl_summed_1_70b.l15 slices_symMergeCmpFunc_impl_Weighted_impl_summed_1_70b.l33 v0 v1 v2 v3) (slices_symMergeCmpFunc_impl_Weighted_impl_summed_1_70b.t3 (fun b => some (slices_symMergeCmpFunc_impl_Weighted_impl_summed_1_70b.mk b)) slices_symMergeCmpFunc_impl_Weighted_impl_summed_1_70b.q9 slices_symMergeCmpFunc_impl_Weighted_impl_summed_1_70b.q3 slices_symMergeCmpFunc_impl_Weighted_impl_summed_1_70b.q21 slices_symMergeCmpFunc_impl_Weighted_impl_summed_1_70b.q15 slices_symMergeCmpFunc_impl_Weighted_impl_summed_1_70b.q33 v0 v1 v2 v3) := by
  unfold slices_symMergeCmpFunc_impl_Weighted_impl_summed_1_70b.t3
  repeat' first | exact Sub.ret | exact Sub.none | exact Sub.loop | apply Sub.cond | (apply Sub.bind; intro _)
theorem slices_symMergeCmpFunc_impl_Weighted_impl_summed_1_70b.eq3 (v0 : List (List Int × Int)) (v1 : Int) (v2 : Int) (v3 : Int) {b : (List (List Int × Int))} (h : slices_symMergeCmpFunc_impl_Weighted_impl_summed_1_70b.t3 some slices_symMergeCmpFunc_impl_Weighted_impl_summed_1_70b.l9 slices_symMergeCmpFunc_impl_Weighted_impl_summed_1_70b.l3 slices_symMergeCmpFunc_impl_Weighted_impl_summed_1_70b.l21 slices_symMergeCmpFunc_impl_Weighted_impl_summed_1_70b.l15 slices_symMergeCmpFunc_impl_Weighted_impl_summed_1_70b.l33 v0 v1 v2 v3 = some b) : slices_symMergeCmpFunc_impl_Weighted_impl_summed_1_70b.l3 v0 v1 v2 v3 = some b := tOf_intro slices_symMergeCmpFunc_impl_Weighted_impl_summed_1_70b.un (fun _ => by kernel_rfl) (loopAtL_step ((slices_symMergeCmpFunc_impl_Weighted_impl_summed_1_70b.k3 v0 v1 v2 v3).trans (slices_symMergeCmpFunc_impl_Weighted_impl_summed_1_70b.s3 v0 v1 v2 v3 b h)))
theorem slices_symMergeCmpFunc_impl_Weighted_impl_summed_1_70b.s21 (v0 : List (List Int × Int)) (v1 : Int) (v2 : Int) : Sub slices_symMergeCmpFunc_impl_Weighted_impl_summed_1_70b.mk (slices_symMergeCmpFunc_impl_Weighted_impl_summed_1_70b.t21 some slices_symMergeCmpFunc_impl_Weighted_impl_summed_1_70b.l9 slices_symMergeCmpFunc_impl_Weighted_impl_summed_1_70b.l3 slices_symMergeCmpFunc_impl_Weighted_impl_summed_1_70b.l21 slices_symMergeCmpFunc_impl_Weighted_impl_summed_1_70b.l15 slices_symMergeCmpFunc_impl_Weighted_impl_summed_1_70b.l33 v0 v1 v2) (slices_symMergeCmpFunc_impl_Weighted_impl_summed_1_70b.t21 (fun b => some (slices_symMergeCmpFunc_impl_Weighted_impl_summed_1_70b.mk b)) slices_symMergeCmpFunc_impl_Weighted_impl_summed_1_70b.q9 slices_symMergeCmpFunc_impl_Weighted_impl_summed_1_70b.q3 slices_symMergeCmpFunc_impl_Weighted_impl_summed_1_70b.q21 slices_symMergeCmpFunc_impl_Weighted_impl_summed_1_70b.q15 slices_symMergeCmpFunc_impl_Weighted_impl_summed_1_70b.q33 v0 v1 v2) := by
  unfold slices_symMergeCmpFunc_impl_Weighted_impl_summed_1_70b.t21
  repeat' first | exact Sub.ret | exact Sub.none | exact Sub.loop | apply Sub.cond | (apply Sub.bind; intro _)
theorem slices_symMergeCmpFunc_impl_Weighted_impl_summed_1_70b.eq21 (v0 : List (List Int × Int)) (v1 : Int) (v2 : Int) {b : (List (List Int × Int))} (h : slices_symMergeCmpFunc_impl_Weighted_impl_summed_1_70b.t21 some slices_symMergeCmpFunc_impl_Weighted_impl_summed_1_70b.l9 slices_symMergeCmpFunc_impl_Weighted_impl_summed_1_70b.l3 slices_symMergeCmpFunc_impl_Weighted_impl_summed_1_70b.l21 slices_symMergeCmpFunc_impl_Weighted_impl_summed_1_70b.l15 slices_symMergeCmpFunc_impl_Weighted_impl_summed_1_70b.l33 v0 v1 v2 = some b) : slices_symMergeCmpFunc_impl_Weighted_impl_summed_1_70b.l21 v0 v1 v2 = some b := tOf_intro slices_symMergeCmpFunc_impl_Weighted_impl_summed_1_70b.un (fun _ => by kernel_rfl) (loopAtL_step ((slices_symMergeCmpFunc_impl_Weighted_impl_summed_1_70b.k21 v0 v1 v2).trans (slices_symMergeCmpFunc_impl_Weighted_impl_summed_1_70b.s21 v0 v1 v2 b h)))
theorem slices_symMergeCmpFunc_impl_Weighted_impl_summed_1_70b.s15 (v0 : List (List Int × Int)) (v1 : Int) (v2 : Int) (v3 : Int) : Sub slices_symMergeCmpFunc_impl_Weighted_impl_summed_1_70b.mk (slices_symMergeCmpFunc_impl_Weighted_impl_summed_1_70b.t15 some slices_symMergeCmpFunc_impl_Weighted_impl_summed_1_70b.l9 slices_symMergeCmpFunc_impl_Weighted_impl_summed_1_70b.l3 slices_symMergeCmpFunc_impl_Weighted_impl_summed_1_70b.l21 slices_symMergeCmpFunc_impl_Weighted_impl_summed_1_70b.l15 slices_symMergeCmpFunc_impl_Weighted_impl_summed_1_70b.l33 v0 v1 v2 v3) (slices_symMergeCmpFunc_impl_Weighted_impl_summed_1_70b.t15 (fun b => some (slices_symMergeCmpFunc_impl_Weighted_impl_summed_1_70b.mk b)) slices_symMergeCmpFunc_impl_Weighted_impl_summed_1_70b.q9 slices_symMergeCmpFunc_impl_Weighted_impl_summed_1_70b.q3 slices_symMergeCmpFunc_impl_Weighted_impl_summed_1_70b.q21 slices_symMergeCmpFunc_impl_Weighted_impl_summed_1_70b.q15 slices_symMergeCmpFunc_impl_Weighted_impl_summed_1_70b.q33 v0 v1 v2 v3) := by
  unfold slices_symMergeCmpFunc_impl_Weighted_impl_summed_1_70b.t15
  repeat' first | exact Sub.ret | exact Sub.none | exact Sub.loop | apply Sub.cond | (apply Sub.bind; intro _)
theorem slices_symMergeCmpFunc_impl_Weighted_impl_summed_1_70b.eq15 (v0 : List (List Int × Int)) (v1 : Int) (v2 : Int) (v3 : Int) {b : (List (List Int × Int))} (h : slices_symMergeCmpFunc_impl_Weighted_impl_summed_1_70b.t15 some slices_symMergeCmpFunc_impl_Weighted_impl_summed_1_70b.l9 slices_symMergeCmpFunc_impl_Weighted_impl_summed_1_70b.l3 slices_symMergeCmpFunc_impl_Weighted_impl_summed_1_70b.l21 slices_symMergeCmpFunc_impl_Weighted_impl_summed_1_70b.l15 slices_symMergeCmpFunc_impl_Weighted_impl_summed_1_70b.l33 v0 v1 v2 v3 = some b) : slices_symMergeCmpFunc_impl_Weighted_impl_summed_1_70b.l15 v0 v1 v2 v3 = some b := tOf_intro slices_symMergeCmpFunc_impl_Weighted_impl_summed_1_70b.un (fun _ => by kernel_rfl) (loopAtL_step ((slices_symMergeCmpFunc_impl_Weighted_impl_summed_1_70b.k15 v0 v1 v2 v3).trans (slices_symMergeCmpFunc_impl_Weighted_impl_summed_1_70b.s15 v0 v1 v2 v3 b h)))
theorem slices_symMergeCmpFunc_impl_Weighted_impl_summed_1_70b.s33 (v0 : List (List Int × Int)) (v1 : Int) (v2 : Int) (v3 : Int) (v4 : Int) (v5 : Int) (v6 : Int) (v7 : Int) (v8 : Int) : Sub slices_symMergeCmpFunc_impl_Weighted_impl_summed_1_70b.mk (slices_symMergeCmpFunc_impl_Weighted_impl_summed_1_70b.t33 some slices_symMergeCmpFunc_impl_Weighted_impl_summed_1_70b.l9 slices_symMergeCmpFunc_impl_Weighted_impl_summed_1_70b.l3 slices_symMergeCmpFunc_impl_Weighted_impl_summed_1_70b.l21 slices_symMergeCmpFunc_impl_Weighted_impl_summed_1_70b.l15 slices_symMergeCmpFunc_impl_Weighted_impl_summed_1_70b.l33 v0 v1 v2 v3 v4 v5 v6 v7 v8) (slices_symMergeCmpFunc_impl_Weighted_impl_summed_1_70b.t33 (fun b => some (slices_symMergeCmpFunc_impl_Weighted_impl_summed_1_70b.mk b)) slices_symMergeCmpFunc_impl_Weighted_impl_summed_1_70b.q9 slices_symMergeCmpFunc_impl_Weighted_impl_summed_1_70b.q3 slices_symMergeCmpFunc_impl_Weighted_impl_summed_1_70b.q21 slices_symMergeCmpFunc_impl_Weighted_impl_summed_1_70b.q15 slices_symMergeCmpFunc_impl_Weighted_impl_summed_1_70b.q33 v0 v1 v2 v3 v4 v5 v6 v7 v8) := by
  unfold slices_symMergeCmpFunc_impl_Weighted_impl_summed_1_70b.t33
  repeat' first | exact Sub.ret | exact Sub.none | exact Sub.loop | apply Sub.cond | (apply Sub.bind; intro _)
theorem slices_symMergeCmpFunc_impl_Weighted_impl_summed_1_70b.eq33 (v0 : List (List Int × Int)) (v1 : Int) (v2 : Int) (v3 : Int) (v4 : Int) (v5 : Int) (v6 : Int) (v7 : Int) (v8 : Int) {b : (List (List Int × Int))} (h : slices_symMergeCmpFunc_impl_Weighted_impl_summed_1_70b.t33 some slices_symMergeCmpFunc_impl_Weighted_impl_summed_1_70b.l9 slices_symMergeCmpFunc_impl_Weighted_impl_summed_1_70b.l3 slices_symMergeCmpFunc_impl_Weighted_impl_summed_1_70b.l21 slices_symMergeCmpFunc_impl_Weighted_impl_summed_1_70b.l15 slices_symMergeCmpFunc_impl_Weighted_impl_summed_1_70b.l33 v0 v1 v2 v3 v4 v5 v6 v7 v8 = some b) : slices_symMergeCmpFunc_impl_Weighted_impl_summed_1_70b.l33 v0 v1 v2 v3 v4 v5 v6 v7 v8 = some b := tOf_intro slices_symMergeCmpFunc_impl_Weighted_impl_summed_1_70b.un (fun _ => by kernel_rfl) (loopAtL_step ((slices_symMergeCmpFunc_impl_Weighted_impl_summed_1_70b.k33 v0 v1 v2 v3 v4 v5 v6 v7 v8).trans (slices_symMergeCmpFunc_impl_Weighted_impl_summed_1_70b.s33 v0 v1 v2 v3 v4 v5 v6 v7 v8 b h)))
noncomputable def slices_rotateCmpFunc_impl_Weighted_impl_summed_1_70b.q2 (v0 : List (List Int × Int)) (v1 : Int) (v2 : Int) (v3 : Int) : Option R := loopAtL E (callT E tab) 164 Try.f164 5 [.r, .r, .l, .b] (⟨(.val .one), [.d .sha (.sl (.pair (.sl (.int .i64)) (.int .i64))) v0], true, false, false, 0, 0⟩ :: nn 1 (vc (iL v1) :: nn 1 (vc (.fn 130 []) :: nn 5 (vc (iL v2) :: vc (iL v3) :: nn 46 ([])))))
noncomputable def slices_rotateCmpFunc_impl_Weighted_impl_summed_1_70b.l2 (v0 : List (List Int × Int)) (v1 : Int) (v2 : Int) (v3 : Int) : Option ((List (List Int × Int))) := tOf slices_rotateCmpFunc_impl_Weighted_impl_summed_1_70b.mk (slices_rotateCmpFunc_impl_Weighted_impl_summed_1_70b.q2 v0 v1 v2 v3)
noncomputable def slices_rotateCmpFunc_impl_Weighted_impl_summed_1_70b.t {γ : Type} (ret : ((List (List Int × Int))) → Option γ) (lp2 : (List (List Int × Int)) → Int → Int → Int → Option γ) (v0 : List (List Int × Int)) (v1 : Int) (v2 : Int) (v3 : Int) : Option γ :=
  lp2 (v0) (v2) (Go.IntKind.i64.wrap (v2 - v1)) (Go.IntKind.i64.wrap (v3 - v2))
noncomputable def slices_rotateCmpFunc_impl_Weighted_impl_summed_1_70b.t2 {γ : Type} (ret : ((List (List Int × Int))) → Option γ) (lp2 : (List (List Int × Int)) → Int → Int → Int → Option γ) (v0 : List (List Int × Int)) (v1 : Int) (v2 : Int) (v3 : Int) : Option γ :=
  bif v2 != v3 then
    bif Decidable.decide (v2 > v3) then
      (slices_swapRangeCmpFunc_impl_Weighted_impl_summed_1_70b (v0) (Go.IntKind.i64.wrap (v1 - v2)) (v1) (v3)).bind fun (r0 : (List (List Int × Int))) =>
      lp2 (r0) (v1) (Go.IntKind.i64.wrap (v2 - v3)) (v3)
    else
      (slices_swapRangeCmpFunc_impl_Weighted_impl_summed_1_70b (v0) (Go.IntKind.i64.wrap (v1 - v2)) (Go.IntKind.i64.wrap (Go.IntKind.i64.wrap (v1 + v3) - v2)) (v2)).bind fun (r1 : (List (List Int × Int))) =>
      lp2 (r1) (v1) (v2) (Go.IntKind.i64.wrap (v3 - v2))
  else
    (slices_swapRangeCmpFunc_impl_Weighted_impl_summed_1_70b (v0) (Go.IntKind.i64.wrap (v1 - v2)) (v1) (v2)).bind fun (r2 : (List (List Int × Int))) =>
    ret (r2)
theorem slices_rotateCmpFunc_impl_Weighted_impl_summed_1_70b.k (v0 : List (List Int × Int)) (v1 : Int) (v2 : Int) (v3 : Int) : topL E (callT E tab) 164 Try.f164 (slices_rotateCmpFunc_impl_Weighted_impl_summed_1_70b.c v0 v1 v2 v3) = slices_rotateCmpFunc_impl_Weighted_impl_summed_1_70b.t (fun b => some (slices_rotateCmpFunc_impl_Weighted_impl_summed_1_70b.mk b)) slices_rotateCmpFunc_impl_Weighted_impl_summed_1_70b.q2 v0 v1 v2 v3 := by kernel_rfl
theorem slices_rotateCmpFunc_impl_Weighted_impl_summed_1_70b.k2 (v0 : List (List Int × Int)) (v1 : Int) (v2 : Int) (v3 : Int) : roundL E (callT E tab) 164 Try.f164 5 [.r, .r, .l, .b] (⟨(.val .one), [.d .sha (.sl (.pair (.sl (.int .i64)) (.int .i64))) v0], true, false, false, 0, 0⟩ :: nn 1 (vc (iL v1) :: nn 1 (vc (.fn 130 []) :: nn 5 (vc (iL v2) :: vc (iL v3) :: nn 46 ([]))))) = slices_rotateCmpFunc_impl_Weighted_impl_summed_1_70b.t2 (fun b => some (slices_rotateCmpFunc_impl_Weighted_impl_summed_1_70b.mk b)) slices_rotateCmpFunc_impl_Weighted_impl_summed_1_70b.q2 v0 v1 v2 v3 := by kernel_rfl
theorem slices_rotateCmpFunc_impl_Weighted_impl_summed_1_70b.s (v0 : List (List Int × Int)) (v1 : Int) (v2 : Int) (v3 : Int) : Sub slices_rotateCmpFunc_impl_Weighted_impl_summed_1_70b.mk (slices_rotateCmpFunc_impl_Weighted_impl_summed_1_70b.t some slices_rotateCmpFunc_impl_Weighted_impl_summed_1_70b.l2 v0 v1 v2 v3) (slices_rotateCmpFunc_impl_Weighted_impl_summed_1_70b.t (fun b => some (slices_rotateCmpFunc_impl_Weighted_impl_summed_1_70b.mk b)) slices_rotateCmpFunc_impl_Weighted_impl_summed_1_70b.q2 v0 v1 v2 v3) := by
  unfold slices_rotateCmpFunc_impl_Weighted_impl_summed_1_70b.t
  repeat' first | exact Sub.ret | exact Sub.none | exact Sub.loop | apply Sub.cond | (apply Sub.bind; intro _)
theorem slices_rotateCmpFunc_impl_Weighted_impl_summed_1_70b.eq (v0 : List (List Int × Int)) (v1 : Int) (v2 : Int) (v3 : Int) {b : (List (List Int × Int))} (h : slices_rotateCmpFunc_impl_Weighted_impl_summed_1_70b.t some slices_rotateCmpFunc_impl_Weighted_impl_summed_1_70b.l2 v0 v1 v2 v3 = some b) : slices_rotateCmpFunc_impl_Weighted_impl_summed_1_70b v0 v1 v2 v3 = some b := tOf_intro slices_rotateCmpFunc_impl_Weighted_impl_summed_1_70b.un (fun _ => by kernel_rfl) (vlim_fn (callT_le E tab) rfl rfl rfl ((slices_rotateCmpFunc_impl_Weighted_impl_summed_1_70b.k v0 v1 v2 v3).trans (slices_rotateCmpFunc_impl_Weighted_impl_summed_1_70b.s v0 v1 v2 v3 b h)))
theorem slices_rotateCmpFunc_impl_Weighted_impl_summed_1_70b.s2 (v0 : List (List Int × Int)) (v1 : Int) (v2 : Int) (v3 : Int) : Sub slices_rotateCmpFunc_impl_Weighted_impl_summed_1_70b.mk (slices_rotateCmpFunc_impl_Weighted_impl_summed_1_70b.t2 some slices_rotateCmpFunc_impl_Weighted_impl_summed_1_70b.l2 v0 v1 v2 v3) (slices_rotateCmpFunc_impl_Weighted_impl_summed_1_70b.t2 (fun b => some (slices_rotateCmpFunc_impl_Weighted_impl_summed_1_70b.mk b)) slices_rotateCmpFunc_impl_Weighted_impl_summed_1_70b.q2 v0 v1 v2 v3) := by
  unfold slices_rotateCmpFunc_impl_Weighted_impl_summed_1_70b.t2
  repeat' first | exact Sub.ret | exact Sub.none | exact Sub.loop | apply Sub.cond | (apply Sub.bind; intro _)
theorem slices_rotateCmpFunc_impl_Weighted_impl_summed_1_70b.eq2 (v0 : List (List Int × Int)) (v1 : Int) (v2 : Int) (v3 : Int) {b : (List (List Int × Int))} (h : slices_rotateCmpFunc_impl_Weighted_impl_summed_1_70b.t2 some slices_rotateCmpFunc_impl_Weighted_impl_summed_1_70b.l2 v0 v1 v2 v3 = some b) : slices_rotateCmpFunc_impl_Weighted_impl_summed_1_70b.l2 v0 v1 v2 v3 = some b := tOf_intro slices_rotateCmpFunc_impl_Weighted_impl_summed_1_70b.un (fun _ => by kernel_rfl) (loopAtL_step ((slices_rotateCmpFunc_impl_Weighted_impl_summed_1_70b.k2 v0 v1 v2 v3).trans (slices_rotateCmpFunc_impl_Weighted_impl_summed_1_70b.s2 v0 v1 v2 v3 b h)))
noncomputable def slices_swapRangeCmpFunc_impl_Weighted_impl_summed_1_70b.q1 (v0 : List (List Int × Int)) (v1 : Int) (v2 : Int) (v3 : Int) (v4 : Int) : Option R := loopAtL E (callT E tab) 165 Try.f165 5 [.r, .b] (⟨(.val .one), [.d .sha (.sl (.pair (.sl (.int .i64)) (.int .i64))) v0], true, false, false, 0, 0⟩ :: vc (iL v1) :: vc (iL v2) :: vc (iL v3) :: nn 6 (vc (iL v4) :: nn 27 ([])))
noncomputable def slices_swapRangeCmpFunc_impl_Weighted_impl_summed_1_70b.l1 (v0 : List (List Int × Int)) (v1 : Int) (v2 : Int) (v3 : Int) (v4 : Int) : Option ((List (List Int × Int))) := tOf slices_swapRangeCmpFunc_impl_Weighted_impl_summed_1_70b.mk (slices_swapRangeCmpFunc_impl_Weighted_impl_summed_1_70b.q1 v0 v1 v2 v3 v4)
noncomputable def slices_swapRangeCmpFunc_impl_Weighted_impl_summed_1_70b.t {γ : Type} (ret : ((List (List Int × Int))) → Option γ) (lp1 : (List (List Int × Int)) → Int → Int → Int → Int → Option γ) (v0 : List (List Int × Int)) (v1 : Int) (v2 : Int) (v3 : Int) : Option γ :=
  lp1 (v0) (v1) (v2) (v3) ((0 : Int))
noncomputable def slices_swapRangeCmpFunc_impl_Weighted_impl_summed_1_70b.t1 {γ : Type} (ret : ((List (List Int × Int))) → Option γ) (lp1 : (List (List Int × Int)) → Int → Int → Int → Int → Option γ) (v0 : List (List Int × Int)) (v1 : Int) (v2 : Int) (v3 : Int) (v4 : Int) : Option γ :=
  bif Decidable.decide (v4 < v3) then
    bif Decidable.decide ((0 : Int) ≤ Go.IntKind.i64.wrap (v2 + v4)) then
      bif Decidable.decide ((Go.IntKind.i64.wrap (v2 + v4)).toNat < v0.length) then
        bif Decidable.decide ((Go.IntKind.i64.wrap (v2 + v4)).toNat < v0.length) then
          bif Decidable.decide ((0 : Int) ≤ Go.IntKind.i64.wrap (v1 + v4)) then
            bif Decidable.decide ((Go.IntKind.i64.wrap (v1 + v4)).toNat < v0.length) then
              bif Decidable.decide ((Go.IntKind.i64.wrap (v1 + v4)).toNat < v0.length) then
                bif Decidable.decide ((0 : Int) ≤ Go.IntKind.i64.wrap (v1 + v4)) then
                  bif Decidable.decide ((Go.IntKind.i64.wrap (v1 + v4)).toNat < v0.length) then
                    bif Decidable.decide ((Go.IntKind.i64.wrap (v1 + v4)).toNat < v0.length) then
                      bif Decidable.decide ((0 : Int) ≤ Go.IntKind.i64.wrap (v2 + v4)) then
                        bif Decidable.decide   ((Go.IntKind.i64.wrap (v2 + v4)).toNat <     (v0.set (Go.IntKind.i64.wrap (v1 + v4)).toNat         ((v0.getD (Go.IntKind.i64.wrap (v2 + v4)).toNat ([], (0 : Int))).fst,           (v0.getD (Go.IntKind.i64.wrap (v2 + v4)).toNat ([], (0 : Int))).snd)).length) then
                          bif Decidable.decide   ((Go.IntKind.i64.wrap (v2 + v4)).toNat <     (v0.set (Go.IntKind.i64.wrap (v1 + v4)).toNat         ((v0.getD (Go.IntKind.i64.wrap (v2 + v4)).toNat ([], (0 : Int))).fst,           (v0.getD (Go.IntKind.i64.wrap (v2 + v4)).toNat ([], (0 : Int))).snd)).length) then
                            lp1 ((v0.set (Go.IntKind.i64.wrap (v1 + v4)).toNat       ((v0.getD (Go.IntKind.i64.wrap (v2 + v4)).toNat ([], (0 : Int))).fst,         (v0.getD (Go.IntKind.i64.wrap (v2 + v4)).toNat ([], (0 : Int))).snd)).set   (Go.IntKind.i64.wrap (v2 + v4)).toNat   ((v0.getD (Go.IntKind.i64.wrap (v1 + v4)).toNat ([], (0 : Int))).fst,     (v0.getD (Go.IntKind.i64.wrap (v1 + v4)).toNat ([], (0 : Int))).snd)) (v1) (v2) (v3) (Go.IntKind.i64.wrap (v4 + (1 : Int)))
                          else
                            none
                        else
                          none
                      else
                        none
                    else
                      none
                  else
                    none
                else
                  none
              else
                none
            else
              none
          else
            none
        else
          none
      else
        none
    else
      none
  else
    ret (v0)
theorem slices_swapRangeCmpFunc_impl_Weighted_impl_summed_1_70b.k (v0 : List (List Int × Int)) (v1 : Int) (v2 : Int) (v3 : Int) : topL E (callT E tab) 165 Try.f165 (slices_swapRangeCmpFunc_impl_Weighted_impl_summed_1_70b.c v0 v1 v2 v3) = slices_swapRangeCmpFunc_impl_Weighted_impl_summed_1_70b.t (fun b => some (slices_swapRangeCmpFunc_impl_Weighted_impl_summed_1_70b.mk b)) slices_swapRangeCmpFunc_impl_Weighted_impl_summed_1_70b.q1 v0 v1 v2 v3 := by kernel_rfl
theorem slices_swapRangeCmpFunc_impl_Weighted_impl_summed_1_70b.k1 (v0 : List (List Int × Int)) (v1 : Int) (v2 : Int) (v3 : Int) (v4 : Int) : roundL E (callT E tab) 165 Try.f165 5 [.r, .b] (⟨(.val .one), [.d .sha (.sl (.pair (.sl (.int .i64)) (.int .i64))) v0], true, false, false, 0, 0⟩ :: vc (iL v1) :: vc (iL v2) :: vc (iL v3) :: nn 6 (vc (iL v4) :: nn 27 ([]))) = slices_swapRangeCmpFunc_impl_Weighted_impl_summed_1_70b.t1 (fun b => some (slices_swapRangeCmpFunc_impl_Weighted_impl_summed_1_70b.mk b)) slices_swapRangeCmpFunc_impl_Weighted_impl_summed_1_70b.q1 v0 v1 v2 v3 v4 := by kernel_rfl
theorem slices_swapRangeCmpFunc_impl_Weighted_impl_summed_1_70b.s (v0 : List (List Int × Int)) (v1 : Int) (v2 : Int) (v3 : Int) : Sub slices_swapRangeCmpFunc_impl_Weighted_impl_summed_1_70b.mk (slices_swapRangeCmpFunc_impl_Weighted_impl_summed_1_70b.t some slices_swapRangeCmpFunc_impl_Weighted_impl_summed_1_70b.l1 v0 v1 v2 v3) (slices_swapRangeCmpFunc_impl_Weighted_impl_summed_1_70b.t (fun b => some (slices_swapRangeCmpFunc_impl_Weighted_impl_summed_1_70b.mk b)) slices_swapRangeCmpFunc_impl_Weighted_impl_summed_1_70b.q1 v0 v1 v2 v3) := by
  unfold slices_swapRangeCmpFunc_impl_Weighted_impl_summed_1_70b.t
  repeat' first | exact Sub.ret | exact Sub.none | exact Sub.loop | apply Sub.cond | (apply Sub.bind; intro _)
theorem slices_swapRangeCmpFunc_impl_Weighted_impl_summed_1_70b.eq (v0 : List (List Int × Int)) (v1 : Int) (v2 : Int) (v3 : Int) {b : (List (List Int × Int))} (h : slices_swapRangeCmpFunc_impl_Weighted_impl_summed_1_70b.t some slices_swapRangeCmpFunc_impl_Weighted_impl_summed_1_70b.l1 v0 v1 v2 v3 = some b) : slices_swapRangeCmpFunc_impl_Weighted_impl_summed_1_70b v0 v1 v2 v3 = some b := tOf_intro slices_swapRangeCmpFunc_impl_Weighted_impl_summed_1_70b.un (fun _ => by kernel_rfl) (vlim_fn (callT_le E tab) rfl rfl rfl ((slices_swapRangeCmpFunc_impl_Weighted_impl_summed_1_70b.k v0 v1 v2 v3).trans (slices_swapRangeCmpFunc_impl_Weighted_impl_summed_1_70b.s v0 v1 v2 v3 b h)))
theorem slices_swapRangeCmpFunc_impl_Weighted_impl_summed_1_70b.s1 (v0 : List (List Int × Int)) (v1 : Int) (v2 : Int) (v3 : Int) (v4 : Int) : Sub slices_swapRangeCmpFunc_impl_Weighted_impl_summed_1_70b.mk (slices_swapRangeCmpFunc_impl_Weighted_impl_summed_1_70b.t1 some slices_swapRangeCmpFunc_impl_Weighted_impl_summed_1_70b.l1 v0 v1 v2 v3 v4) (slices_swapRangeCmpFunc_impl_Weighted_impl_summed_1_70b.t1 (fun b => some (slices_swapRangeCmpFunc_impl_Weighted_impl_summed_1_70b.mk b)) slices_swapRangeCmpFunc_impl_Weighted_impl_summed_1_70b.q1 v0 v1 v2 v3 v4) := by
  unfold slices_swapRangeCmpFunc_impl_Weighted_impl_summed_1_70b.t1
  repeat' first | exact Sub.ret | exact Sub.none | exact Sub.loop | apply Sub.cond | (apply Sub.bind; intro _)
theorem slices_swapRangeCmpFunc_impl_Weighted_impl_summed_1_70b.eq1 (v0 : List (List Int × Int)) (v1 : Int) (v2 : Int) (v3 : Int) (v4 : Int) {b : (List (List Int × Int))} (h : slices_swapRangeCmpFunc_impl_Weighted_impl_summed_1_70b.t1 some slices_swapRangeCmpFunc_impl_Weighted_impl_summed_1_70b.l1 v0 v1 v2 v3 v4 = some b) : slices_swapRangeCmpFunc_impl_Weighted_impl_summed_1_70b.l1 v0 v1 v2 v3 v4 = some b := tOf_intro slices_swapRangeCmpFunc_impl_Weighted_impl_summed_1_70b.un (fun _ => by kernel_rfl) (loopAtL_step ((slices_swapRangeCmpFunc_impl_Weighted_impl_summed_1_70b.k1 v0 v1 v2 v3 v4).trans (slices_swapRangeCmpFunc_impl_Weighted_impl_summed_1_70b.s1 v0 v1 v2 v3 v4 b h)))
noncomputable def impl_Row_own.t {γ : Type} (ret : ((List Int)) → Option γ) (v0 : List Int) : Option γ :=
  (slices_Clone_int_int (v0)).bind fun (r0 : (List Int)) =>
  ret (r0)
theorem impl_Row_own.k (v0 : List Int) : topL E (callT E tab) 109 Try.f109 (impl_Row_own.c v0) = impl_Row_own.t (fun b => some (impl_Row_own.mk b)) v0 := by kernel_rfl
theorem impl_Row_own.s (v0 : List Int) : Sub impl_Row_own.mk (impl_Row_own.t some v0) (impl_Row_own.t (fun b => some (impl_Row_own.mk b)) v0) := by
  unfold impl_Row_own.t
  repeat' first | exact Sub.ret | exact Sub.none | exact Sub.loop | apply Sub.cond | (apply Sub.bind; intro _)
theorem impl_Row_own.eq (v0 : List Int) {b : (List Int)} (h : impl_Row_own.t some v0 = some b) : impl_Row_own v0 = some b := tOf_intro impl_Row_own.un (fun _ => by kernel_rfl) (vlim_fn (callT_le E tab) rfl rfl rfl ((impl_Row_own.k v0).trans (impl_Row_own.s v0 b h)))
noncomputable def slices_Clone_int_int.t {γ : Type} (ret : ((List Int)) → Option γ) (v0 : List Int) : Option γ :=
  bif Decidable.decide (v0.length ≤ (4294967296 : Nat)) then
    ret (v0)
  else
    none
theorem slices_Clone_int_int.k (v0 : List Int) : extOf 142 (slices_Clone_int_int.c v0) = slices_Clone_int_int.t (fun b => some (slices_Clone_int_int.mk b)) v0 := by kernel_rfl
theorem slices_Clone_int_int.s (v0 : List Int) : Sub slices_Clone_int_int.mk (slices_Clone_int_int.t some v0) (slices_Clone_int_int.t (fun b => some (slices_Clone_int_int.mk b)) v0) := by
  unfold slices_Clone_int_int.t
  repeat' first | exact Sub.ret | exact Sub.none | exact Sub.loop | apply Sub.cond | (apply Sub.bind; intro _)
theorem slices_Clone_int_int.eq (v0 : List Int) {b : (List Int)} (h : slices_Clone_int_int.t some v0 = some b) : slices_Clone_int_int v0 = some b := tOf_intro slices_Clone_int_int.un (fun _ => by kernel_rfl) (vlim_ext (g := extOf 142) rfl ((slices_Clone_int_int.k v0).trans (slices_Clone_int_int.s v0 b h)))
noncomputable def impl_goodOrNone_467.t {γ : Type} (ret : (Int × (List (List Int × Int)) × Bool) → Option γ) (v0 : Int) (v1 : List (List Int × Int)) : Option γ :=
  (impl_GoodTable (v0) (v1)).bind fun (r0 : Bool) =>
  bif !r0 then
    ret ((0 : Int), [], Bool.false)
  else
    ret (v0, v1, Bool.true)
theorem impl_goodOrNone_467.k (v0 : Int) (v1 : List (List Int × Int)) : topL E (callT E tab) 67 Try.f67 (impl_goodOrNone_467.c v0 v1) = impl_goodOrNone_467.t (fun b => some (impl_goodOrNone_467.mk b)) v0 v1 := by kernel_rfl
theorem impl_goodOrNone_467.s (v0 : Int) (v1 : List (List Int × Int)) : Sub impl_goodOrNone_467.mk (impl_goodOrNone_467.t some v0 v1) (impl_goodOrNone_467.t (fun b => some (impl_goodOrNone_467.mk b)) v0 v1) := by
  unfold impl_goodOrNone_467.t
  repeat' first | exact Sub.ret | exact Sub.none | exact Sub.loop | apply Sub.cond | (apply Sub.bind; intro _)
theorem impl_goodOrNone_467.eq (v0 : Int) (v1 : List (List Int × Int)) {b : Int × (List (List Int × Int)) × Bool} (h : impl_goodOrNone_467.t some v0 v1 = some b) : impl_goodOrNone_467 v0 v1 = some b := tOf_intro impl_goodOrNone_467.un (fun _ => by kernel_rfl) (vlim_fn (callT_le E tab) rfl rfl rfl ((impl_goodOrNone_467.k v0 v1).trans (impl_goodOrNone_467.s v0 v1 b h)))
noncomputable def impl_GoodTable.q4 (v0 : Int) (v1 : List (List Int × Int)) (v2 : List (List Int × Int)) (v3 : Int) (v4 : Int) : Option R := loopAtL E (callT E tab) 62 Try.f62 1 [.r, .r, .l, .r, .b] (nn 1 (⟨(.box false), [iL v0, .d .fro (.sl (.pair (.sl (.int .i64)) (.int .i64))) v1], false, false, false, 0, 0⟩ :: nn 14 (vc (.d .fro (.sl (.pair (.sl (.int .i64)) (.int .i64))) v2) :: vc (iL v3) :: vc (iL v4) :: nn 39 ([]))))
noncomputable def impl_GoodTable.l4 (v0 : Int) (v1 : List (List Int × Int)) (v2 : List (List Int × Int)) (v3 : Int) (v4 : Int) : Option (Bool) := tOf impl_GoodTable.mk (impl_GoodTable.q4 v0 v1 v2 v3 v4)
noncomputable def impl_GoodTable.t {γ : Type} (ret : (Bool) → Option γ) (lp4 : Int → (List (List Int × Int)) → (List (List Int × Int)) → Int → Int → Option γ) (v0 : Int) (v1 : List (List Int × Int)) : Option γ :=
  (impl_isColumns (v0)).bind fun (r0 : Bool) =>
  bif !r0 then
    ret (Bool.false)
  else
    bif Decidable.decide ((↑v1.length : Int) > (60 : Int)) then
      ret (Bool.false)
    else
      lp4 (v0) (v1) (v1) ((↑v1.length : Int)) ((0 : Int))
noncomputable def impl_GoodTable.t4 {γ : Type} (ret : (Bool) → Option γ) (lp4 : Int → (List (List Int × Int)) → (List (List Int × Int)) → Int → Int → Option γ) (v0 : Int) (v1 : List (List Int × Int)) (v2 : List (List Int × Int)) (v3 : Int) (v4 : Int) : Option γ :=
  bif Decidable.decide (v4 < v3) then
    bif Decidable.decide ((0 : Int) ≤ v4) then
      bif Decidable.decide (v4.toNat < v2.length) then
        (impl_isRowOf ((v2.getD v4.toNat ([], (0 : Int))).fst) (v0)).bind fun (r1 : Bool) =>
        bif !r1 then
          ret (Bool.false)
        else
          (impl_isWeight ((v2.getD v4.toNat ([], (0 : Int))).snd)).bind fun (r2 : Bool) =>
          bif !r2 then
            ret (Bool.false)
          else
            bif (v2.getD v4.toNat ([], (0 : Int))).snd == (0 : Int) then
              ret (Bool.false)
            else
              bif Decidable.decide (v4 > (0 : Int)) then
                bif Decidable.decide ((0 : Int) ≤ Go.IntKind.i64.wrap (v4 - (1 : Int))) then
                  bif Decidable.decide ((Go.IntKind.i64.wrap (v4 - (1 : Int))).toNat < v1.length) then
                    (impl_compareRows ((v1.getD (Go.IntKind.i64.wrap (v4 - (1 : Int))).toNat ([], (0 : Int))).fst) ((v2.getD v4.toNat ([], (0 : Int))).fst)).bind fun (r3 : Int) =>
                    bif Decidable.decide (r3 ≥ (0 : Int)) then
                      ret (Bool.false)
                    else
                      lp4 (v0) (v1) (v2) (v3) (Go.IntKind.i64.wrap (v4 + (1 : Int)))
                  else
                    none
                else
                  none
              else
                lp4 (v0) (v1) (v2) (v3) (Go.IntKind.i64.wrap (v4 + (1 : Int)))
      else
        none
    else
      none
  else
    ret (Bool.true)
theorem impl_GoodTable.k (v0 : Int) (v1 : List (List Int × Int)) : topL E (callT E tab) 62 Try.f62 (impl_GoodTable.c v0 v1) = impl_GoodTable.t (fun b => some (impl_GoodTable.mk b)) impl_GoodTable.q4 v0 v1 := by kernel_rfl
theorem impl_GoodTable.k4 (v0 : Int) (v1 : List (List Int × Int)) (v2 : List (List Int × Int)) (v3 : Int) (v4 : Int) : roundL E (callT E tab) 62 Try.f62 1 [.r, .r, .l, .r, .b] (nn 1 (⟨(.box false), [iL v0, .d .fro (.sl (.pair (.sl (.int .i64)) (.int .i64))) v1], false, false, false, 0, 0⟩ :: nn 14 (vc (.d .fro (.sl (.pair (.sl (.int .i64)) (.int .i64))) v2) :: vc (iL v3) :: vc (iL v4) :: nn 39 ([])))) = impl_GoodTable.t4 (fun b => some (impl_GoodTable.mk b)) impl_GoodTable.q4 v0 v1 v2 v3 v4 := by kernel_rfl
theorem impl_GoodTable.s (v0 : Int) (v1 : List (List Int × Int)) : Sub impl_GoodTable.mk (impl_GoodTable.t some impl_GoodTable.l4 v0 v1) (impl_GoodTable.t (fun b => some (impl_GoodTable.mk b)) impl_GoodTable.q4 v0 v1) := by
  unfold impl_GoodTable.t
  repeat' first | exact Sub.ret | exact Sub.none | exact Sub.loop | apply Sub.cond | (apply Sub.bind; intro _)
theorem impl_GoodTable.eq (v0 : Int) (v1 : List (List Int × Int)) {b : Bool} (h : impl_GoodTable.t some impl_GoodTable.l4 v0 v1 = some b) : impl_GoodTable v0 v1 = some b := tOf_intro impl_GoodTable.un (fun _ => by kernel_rfl) (vlim_fn (callT_le E tab) rfl rfl rfl ((impl_GoodTable.k v0 v1).trans (impl_GoodTable.s v0 v1 b h)))
theorem impl_GoodTable.s4 (v0 : Int) (v1 : List (List Int × Int)) (v2 : List (List Int × Int)) (v3 : Int) (v4 : Int) : Sub impl_GoodTable.mk (impl_GoodTable.t4 some impl_GoodTable.l4 v0 v1 v2 v3 v4) (impl_GoodTable.t4 (fun b => some (impl_GoodTable.mk b)) impl_GoodTable.q4 v0 v1 v2 v3 v4) := by
  unfold impl_GoodTable.t4
  repeat' first | exact Sub.ret | exact Sub.none | exact Sub.loop | apply Sub.cond | (apply Sub.bind; intro _)
theorem impl_GoodTable.eq4 (v0 : Int) (v1 : List (List Int × Int)) (v2 : List (List Int × Int)) (v3 : Int) (v4 : Int) {b : Bool} (h : impl_GoodTable.t4 some impl_GoodTable.l4 v0 v1 v2 v3 v4 = some b) : impl_GoodTable.l4 v0 v1 v2 v3 v4 = some b := tOf_intro impl_GoodTable.un (fun _ => by kernel_rfl) (loopAtL_step ((impl_GoodTable.k4 v0 v1 v2 v3 v4).trans (impl_GoodTable.s4 v0 v1 v2 v3 v4 b h)))
noncomputable def laws_eqTable.t {γ : Type} (ret : (Bool) → Option γ) (v0 : Int) (v1 : List (List Int × Int)) (v2 : Int) (v3 : List (List Int × Int)) : Option γ :=
  bif v0 != v2 then
    ret (Bool.false)
  else
    (laws_eqWeightedS (v1) (v3)).bind fun (r0 : Bool) =>
    bif !r0 then
      ret (Bool.false)
    else
      ret (Bool.true)
theorem laws_eqTable.k (v0 : Int) (v1 : List (List Int × Int)) (v2 : Int) (v3 : List (List Int × Int)) : topL E (callT E tab) 19 Try.f19 (laws_eqTable.c v0 v1 v2 v3) = laws_eqTable.t (fun b => some (laws_eqTable.mk b)) v0 v1 v2 v3 := by kernel_rfl
theorem laws_eqTable.s (v0 : Int) (v1 : List (List Int × Int)) (v2 : Int) (v3 : List (List Int × Int)) : Sub laws_eqTable.mk (laws_eqTable.t some v0 v1 v2 v3) (laws_eqTable.t (fun b => some (laws_eqTable.mk b)) v0 v1 v2 v3) := by
  unfold laws_eqTable.t
  repeat' first | exact Sub.ret | exact Sub.none | exact Sub.loop | apply Sub.cond | (apply Sub.bind; intro _)
theorem laws_eqTable.eq (v0 : Int) (v1 : List (List Int × Int)) (v2 : Int) (v3 : List (List Int × Int)) {b : Bool} (h : laws_eqTable.t some v0 v1 v2 v3 = some b) : laws_eqTable v0 v1 v2 v3 = some b := tOf_intro laws_eqTable.un (fun _ => by kernel_rfl) (vlim_fn (callT_le E tab) rfl rfl rfl ((laws_eqTable.k v0 v1 v2 v3).trans (laws_eqTable.s v0 v1 v2 v3 b h)))
noncomputable def laws_eqWeightedS.q4 (v0 : List (List Int × Int)) (v1 : List (List Int × Int)) (v2 : Int) : Option R := loopAtL E (callT E tab) 40 Try.f40 2 [.r, .r, .l, .r, .b] (vc (.d .fro (.sl (.pair (.sl (.int .i64)) (.int .i64))) v0) :: vc (.d .fro (.sl (.pair (.sl (.int .i64)) (.int .i64))) v1) :: nn 3 (vc (iL v2) :: nn 21 ([])))
noncomputable def laws_eqWeightedS.l4 (v0 : List (List Int × Int)) (v1 : List (List Int × Int)) (v2 : Int) : Option (Bool) := tOf laws_eqWeightedS.mk (laws_eqWeightedS.q4 v0 v1 v2)
noncomputable def laws_eqWeightedS.t {γ : Type} (ret : (Bool) → Option γ) (lp4 : (List (List Int × Int)) → (List (List Int × Int)) → Int → Option γ) (v0 : List (List Int × Int)) (v1 : List (List Int × Int)) : Option γ :=
  bif (↑v0.length : Int) != (↑v1.length : Int) then
    ret (Bool.false)
  else
    lp4 (v0) (v1) ((0 : Int))
noncomputable def laws_eqWeightedS.t4 {γ : Type} (ret : (Bool) → Option γ) (lp4 : (List (List Int × Int)) → (List (List Int × Int)) → Int → Option γ) (v0 : List (List Int × Int)) (v1 : List (List Int × Int)) (v2 : Int) : Option γ :=
  bif Decidable.decide (v2 < (↑v0.length : Int)) then
    bif Decidable.decide ((0 : Int) ≤ v2) then
      bif Decidable.decide (v2.toNat < v0.length) then
        bif Decidable.decide ((0 : Int) ≤ v2) then
          bif Decidable.decide (v2.toNat < v1.length) then
            (laws_eqWeighted ((v0.getD v2.toNat ([], (0 : Int))).fst) ((v0.getD v2.toNat ([], (0 : Int))).snd) ((v1.getD v2.toNat ([], (0 : Int))).fst) ((v1.getD v2.toNat ([], (0 : Int))).snd)).bind fun (r0 : Bool) =>
            bif !r0 then
              ret (Bool.false)
            else
              lp4 (v0) (v1) (Go.IntKind.i64.wrap (v2 + (1 : Int)))
          else
            none
        else
          none
      else
        none
    else
      none
  else
    ret (Bool.true)
theorem laws_eqWeightedS.k (v0 : List (List Int × Int)) (v1 : List (List Int × Int)) : topL E (callT E tab) 40 Try.f40 (laws_eqWeightedS.c v0 v1) = laws_eqWeightedS.t (fun b => some (laws_eqWeightedS.mk b)) laws_eqWeightedS.q4 v0 v1 := by kernel_rfl
theorem laws_eqWeightedS.k4 (v0 : List (List Int × Int)) (v1 : List (List Int × Int)) (v2 : Int) : roundL E (callT E tab) 40 Try.f40 2 [.r, .r, .l, .r, .b] (vc (.d .fro (.sl (.pair (.sl (.int .i64)) (.int .i64))) v0) :: vc (.d .fro (.sl (.pair (.sl (.int .i64)) (.int .i64))) v1) :: nn 3 (vc (iL v2) :: nn 21 ([]))) = laws_eqWeightedS.t4 (fun b => some (laws_eqWeightedS.mk b)) laws_eqWeightedS.q4 v0 v1 v2 := by kernel_rfl
theorem laws_eqWeightedS.s (v0 : List (List Int × Int)) (v1 : List (List Int × Int)) : Sub laws_eqWeightedS.mk (laws_eqWeightedS.t some laws_eqWeightedS.l4 v0 v1) (laws_eqWeightedS.t (fun b => some (laws_eqWeightedS.mk b)) laws_eqWeightedS.q4 v0 v1) := by
  unfold laws_eqWeightedS.t
  repeat' first | exact Sub.ret | exact Sub.none | exact Sub.loop | apply Sub.cond | (apply Sub.bind; intro _)
theorem laws_eqWeightedS.eq (v0 : List (List Int × Int)) (v1 : List (List Int × Int)) {b : Bool} (h : laws_eqWeightedS.t some laws_eqWeightedS.l4 v0 v1 = some b) : laws_eqWeightedS v0 v1 = some b := tOf_intro laws_eqWeightedS.un (fun _ => by kernel_rfl) (vlim_fn (callT_le E tab) rfl rfl rfl ((laws_eqWeightedS.k v0 v1).trans (laws_eqWeightedS.s v0 v1 b h)))
theorem laws_eqWeightedS.s4 (v0 : List (List Int × Int)) (v1 : List (List Int × Int)) (v2 : Int) : Sub laws_eqWeightedS.mk (laws_eqWeightedS.t4 some laws_eqWeightedS.l4 v0 v1 v2) (laws_eqWeightedS.t4 (fun b => some (laws_eqWeightedS.mk b)) laws_eqWeightedS.q4 v0 v1 v2) := by
  unfold laws_eqWeightedS.t4
  repeat' first | exact Sub.ret | exact Sub.none | exact Sub.loop | apply Sub.cond | (apply Sub.bind; intro _)
theorem laws_eqWeightedS.eq4 (v0 : List (List Int × Int)) (v1 : List (List Int × Int)) (v2 : Int) {b : Bool} (h : laws_eqWeightedS.t4 some laws_eqWeightedS.l4 v0 v1 v2 = some b) : laws_eqWeightedS.l4 v0 v1 v2 = some b := tOf_intro laws_eqWeightedS.un (fun _ => by kernel_rfl) (loopAtL_step ((laws_eqWeightedS.k4 v0 v1 v2).trans (laws_eqWeightedS.s4 v0 v1 v2 b h)))
noncomputable def laws_eqWeighted.t {γ : Type} (ret : (Bool) → Option γ) (v0 : List Int) (v1 : Int) (v2 : List Int) (v3 : Int) : Option γ :=
  (laws_eqRow (v0) (v2)).bind fun (r0 : Bool) =>
  bif !r0 then
    ret (Bool.false)
  else
    bif v1 != v3 then
      ret (Bool.false)
    else
      ret (Bool.true)
theorem laws_eqWeighted.k (v0 : List Int) (v1 : Int) (v2 : List Int) (v3 : Int) : topL E (callT E tab) 94 Try.f94 (laws_eqWeighted.c v0 v1 v2 v3) = laws_eqWeighted.t (fun b => some (laws_eqWeighted.mk b)) v0 v1 v2 v3 := by kernel_rfl
theorem laws_eqWeighted.s (v0 : List Int) (v1 : Int) (v2 : List Int) (v3 : Int) : Sub laws_eqWeighted.mk (laws_eqWeighted.t some v0 v1 v2 v3) (laws_eqWeighted.t (fun b => some (laws_eqWeighted.mk b)) v0 v1 v2 v3) := by
  unfold laws_eqWeighted.t
  repeat' first | exact Sub.ret | exact Sub.none | exact Sub.loop | apply Sub.cond | (apply Sub.bind; intro _)
theorem laws_eqWeighted.eq (v0 : List Int) (v1 : Int) (v2 : List Int) (v3 : Int) {b : Bool} (h : laws_eqWeighted.t some v0 v1 v2 v3 = some b) : laws_eqWeighted v0 v1 v2 v3 = some b := tOf_intro laws_eqWeighted.un (fun _ => by kernel_rfl) (vlim_fn (callT_le E tab) rfl rfl rfl ((laws_eqWeighted.k v0 v1 v2 v3).trans (laws_eqWeighted.s v0 v1 v2 v3 b h)))
noncomputable def laws_eqRow.t {γ : Type} (ret : (Bool) → Option γ) (v0 : List Int) (v1 : List Int) : Option γ :=
  (laws_eqIntS (v0) (v1)).bind fun (r0 : Bool) =>
  bif !r0 then
    ret (Bool.false)
  else
    ret (Bool.true)
theorem laws_eqRow.k (v0 : List Int) (v1 : List Int) : topL E (callT E tab) 131 Try.f131 (laws_eqRow.c v0 v1) = laws_eqRow.t (fun b => some (laws_eqRow.mk b)) v0 v1 := by kernel_rfl
theorem laws_eqRow.s (v0 : List Int) (v1 : List Int) : Sub laws_eqRow.mk (laws_eqRow.t some v0 v1) (laws_eqRow.t (fun b => some (laws_eqRow.mk b)) v0 v1) := by
  unfold laws_eqRow.t
  repeat' first | exact Sub.ret | exact Sub.none | exact Sub.loop | apply Sub.cond | (apply Sub.bind; intro _)
theorem laws_eqRow.eq (v0 : List Int) (v1 : List Int) {b : Bool} (h : laws_eqRow.t some v0 v1 = some b) : laws_eqRow v0 v1 = some b := tOf_intro laws_eqRow.un (fun _ => by kernel_rfl) (vlim_fn (callT_le E tab) rfl rfl rfl ((laws_eqRow.k v0 v1).trans (laws_eqRow.s v0 v1 b h)))
noncomputable def laws_eqIntS.q4 (v0 : List Int) (v1 : List Int) (v2 : Int) : Option R := loopAtL E (callT E tab) 47 Try.f47 2 [.r, .r, .l, .r, .b] (vc (.d .fro (.sl (.int .i64)) v0) :: vc (.d .fro (.sl (.int .i64)) v1) :: nn 3 (vc (iL v2) :: nn 20 ([])))
noncomputable def laws_eqIntS.l4 (v0 : List Int) (v1 : List Int) (v2 : Int) : Option (Bool) := tOf laws_eqIntS.mk (laws_eqIntS.q4 v0 v1 v2)
noncomputable def laws_eqIntS.t {γ : Type} (ret : (Bool) → Option γ) (lp4 : (List Int) → (List Int) → Int → Option γ) (v0 : List Int) (v1 : List Int) : Option γ :=
  bif (↑v0.length : Int) != (↑v1.length : Int) then
    ret (Bool.false)
  else
    lp4 (v0) (v1) ((0 : Int))
noncomputable def laws_eqIntS.t4 {γ : Type} (ret : (Bool) → Option γ) (lp4 : (List Int) → (List Int) → Int → Option γ) (v0 : List Int) (v1 : List Int) (v2 : Int) : Option γ :=
  bif Decidable.decide (v2 < (↑v0.length : Int)) then
    bif Decidable.decide ((0 : Int) ≤ v2) then
      bif Decidable.decide (v2.toNat < v0.length) then
        bif Decidable.decide ((0 : Int) ≤ v2) then
          bif Decidable.decide (v2.toNat < v1.length) then
            bif v0.getD v2.toNat (0 : Int) != v1.getD v2.toNat (0 : Int) then
              ret (Bool.false)
            else
              lp4 (v0) (v1) (Go.IntKind.i64.wrap (v2 + (1 : Int)))
          else
            none
        else
          none
      else
        none
    else
      none
  else
    ret (Bool.true)
theorem laws_eqIntS.k (v0 : List Int) (v1 : List Int) : topL E (callT E tab) 47 Try.f47 (laws_eqIntS.c v0 v1) = laws_eqIntS.t (fun b => some (laws_eqIntS.mk b)) laws_eqIntS.q4 v0 v1 := by kernel_rfl
theorem laws_eqIntS.k4 (v0 : List Int) (v1 : List Int) (v2 : Int) : roundL E (callT E tab) 47 Try.f47 2 [.r, .r, .l, .r, .b] (vc (.d .fro (.sl (.int .i64)) v0) :: vc (.d .fro (.sl (.int .i64)) v1) :: nn 3 (vc (iL v2) :: nn 20 ([]))) = laws_eqIntS.t4 (fun b => some (laws_eqIntS.mk b)) laws_eqIntS.q4 v0 v1 v2 := by kernel_rfl
theorem laws_eqIntS.s (v0 : List Int) (v1 : List Int) : Sub laws_eqIntS.mk (laws_eqIntS.t some laws_eqIntS.l4 v0 v1) (laws_eqIntS.t (fun b => some (laws_eqIntS.mk b)) laws_eqIntS.q4 v0 v1) := by
  unfold laws_eqIntS.t
  repeat' first | exact Sub.ret | exact Sub.none | exact Sub.loop | apply Sub.cond | (apply Sub.bind; intro _)
theorem laws_eqIntS.eq (v0 : List Int) (v1 : List Int) {b : Bool} (h : laws_eqIntS.t some laws_eqIntS.l4 v0 v1 = some b) : laws_eqIntS v0 v1 = some b := tOf_intro laws_eqIntS.un (fun _ => by kernel_rfl) (vlim_fn (callT_le E tab) rfl rfl rfl ((laws_eqIntS.k v0 v1).trans (laws_eqIntS.s v0 v1 b h)))
theorem laws_eqIntS.s4 (v0 : List Int) (v1 : List Int) (v2 : Int) : Sub laws_eqIntS.mk (laws_eqIntS.t4 some laws_eqIntS.l4 v0 v1 v2) (laws_eqIntS.t4 (fun b => some (laws_eqIntS.mk b)) laws_eqIntS.q4 v0 v1 v2) := by
  unfold laws_eqIntS.t4
  repeat' first | exact Sub.ret | exact Sub.none | exact Sub.loop | apply Sub.cond | (apply Sub.bind; intro _)
theorem laws_eqIntS.eq4 (v0 : List Int) (v1 : List Int) (v2 : Int) {b : Bool} (h : laws_eqIntS.t4 some laws_eqIntS.l4 v0 v1 v2 = some b) : laws_eqIntS.l4 v0 v1 v2 = some b := tOf_intro laws_eqIntS.un (fun _ => by kernel_rfl) (loopAtL_step ((laws_eqIntS.k4 v0 v1 v2).trans (laws_eqIntS.s4 v0 v1 v2 b h)))
noncomputable def laws_markWeightedS_d97.q2 (v0 : List (List Int × Int)) (v1 : Int) (v2 : Int) : Option R := loopAtL E (callT E tab) 41 Try.f41 2 [.r, .l, .r, .b] (⟨(.val .one), [.d .deep (.sl (.pair (.sl (.int .i64)) (.int .i64))) v0], true, false, false, 0, 0⟩ :: vc (iL v1) :: nn 3 (vc (iL v2) :: nn 22 ([])))
noncomputable def laws_markWeightedS_d97.l2 (v0 : List (List Int × Int)) (v1 : Int) (v2 : Int) : Option (Int × (List (List Int × Int))) := tOf laws_markWeightedS_d97.mk (laws_markWeightedS_d97.q2 v0 v1 v2)
noncomputable def laws_markWeightedS_d97.t {γ : Type} (ret : (Int × (List (List Int × Int))) → Option γ) (lp2 : (List (List Int × Int)) → Int → Int → Option γ) (v0 : List (List Int × Int)) (v1 : Int) : Option γ :=
  lp2 (v0) (v1) ((0 : Int))
noncomputable def laws_markWeightedS_d97.t2 {γ : Type} (ret : (Int × (List (List Int × Int))) → Option γ) (lp2 : (List (List Int × Int)) → Int → Int → Option γ) (v0 : List (List Int × Int)) (v1 : Int) (v2 : Int) : Option γ :=
  bif Decidable.decide (v2 < (↑v0.length : Int)) then
    bif Decidable.decide ((0 : Int) ≤ v2) then
      bif Decidable.decide (v2.toNat < v0.length) then
        bif Decidable.decide (v2.toNat < v0.length) then
          bif Decidable.decide (v2.toNat < v0.length) then
            (laws_markIntS_83f ((v0.getD v2.toNat ([], (0 : Int))).fst) (v1)).bind fun (r0 : Int × (List Int)) =>
            bif Decidable.decide (v2.toNat = v2.toNat) &&   (Decidable.decide ((0 : Nat) + (0 : Nat) + (0 : Nat) = (0 : Nat) + (0 : Nat) + (0 : Nat)) &&     Decidable.decide ((1 : Nat) + (1 : Nat) = (1 : Nat) + (1 : Nat))) then
              bif Decidable.decide (v2.toNat < v0.length) then
                bif Decidable.decide ((0 : Int) ≤ v2) then
                  bif Decidable.decide (v2.toNat < (v0.set v2.toNat (r0.snd, (v0.getD v2.toNat ([], (0 : Int))).snd)).length) then
                    bif Decidable.decide (v2.toNat < (v0.set v2.toNat (r0.snd, (v0.getD v2.toNat ([], (0 : Int))).snd)).length) then
                      lp2 ((v0.set v2.toNat (r0.snd, (v0.getD v2.toNat ([], (0 : Int))).snd)).set v2.toNat   (((v0.set v2.toNat (r0.snd, (v0.getD v2.toNat ([], (0 : Int))).snd)).getD v2.toNat ([], (0 : Int))).fst, r0.fst)) (Go.IntKind.i64.wrap (r0.fst + (1 : Int))) (Go.IntKind.i64.wrap (v2 + (1 : Int)))
                    else
                      none
                  else
                    none
                else
                  none
              else
                none
            else
              none
          else
            none
        else
          none
      else
        none
    else
      none
  else
    ret (v1, v0)
theorem laws_markWeightedS_d97.k (v0 : List (List Int × Int)) (v1 : Int) : topL E (callT E tab) 41 Try.f41 (laws_markWeightedS_d97.c v0 v1) = laws_markWeightedS_d97.t (fun b => some (laws_markWeightedS_d97.mk b)) laws_markWeightedS_d97.q2 v0 v1 := by kernel_rfl
theorem laws_markWeightedS_d97.k2 (v0 : List (List Int × Int)) (v1 : Int) (v2 : Int) : roundL E (callT E tab) 41 Try.f41 2 [.r, .l, .r, .b] (⟨(.val .one), [.d .deep (.sl (.pair (.sl (.int .i64)) (.int .i64))) v0], true, false, false, 0, 0⟩ :: vc (iL v1) :: nn 3 (vc (iL v2) :: nn 22 ([]))) = laws_markWeightedS_d97.t2 (fun b => some (laws_markWeightedS_d97.mk b)) laws_markWeightedS_d97.q2 v0 v1 v2 := by kernel_rfl
theorem laws_markWeightedS_d97.s (v0 : List (List Int × Int)) (v1 : Int) : Sub laws_markWeightedS_d97.mk (laws_markWeightedS_d97.t some laws_markWeightedS_d97.l2 v0 v1) (laws_markWeightedS_d97.t (fun b => some (laws_markWeightedS_d97.mk b)) laws_markWeightedS_d97.q2 v0 v1) := by
  unfold laws_markWeightedS_d97.t
  repeat' first | exact Sub.ret | exact Sub.none | exact Sub.loop | apply Sub.cond | (apply Sub.bind; intro _)
theorem laws_markWeightedS_d97.eq (v0 : List (List Int × Int)) (v1 : Int) {b : Int × (List (List Int × Int))} (h : laws_markWeightedS_d97.t some laws_markWeightedS_d97.l2 v0 v1 = some b) : laws_markWeightedS_d97 v0 v1 = some b := tOf_intro laws_markWeightedS_d97.un (fun _ => by kernel_rfl) (vlim_fn (callT_le E tab) rfl rfl rfl ((laws_markWeightedS_d97.k v0 v1).trans (laws_markWeightedS_d97.s v0 v1 b h)))
theorem laws_markWeightedS_d97.s2 (v0 : List (List Int × Int)) (v1 : Int) (v2 : Int) : Sub laws_markWeightedS_d97.mk (laws_markWeightedS_d97.t2 some laws_markWeightedS_d97.l2 v0 v1 v2) (laws_markWeightedS_d97.t2 (fun b => some (laws_markWeightedS_d97.mk b)) laws_markWeightedS_d97.q2 v0 v1 v2) := by
  unfold laws_markWeightedS_d97.t2
  repeat' first | exact Sub.ret | exact Sub.none | exact Sub.loop | apply Sub.cond | (apply Sub.bind; intro _)
theorem laws_markWeightedS_d97.eq2 (v0 : List (List Int × Int)) (v1 : Int) (v2 : Int) {b : Int × (List (List Int × Int))} (h : laws_markWeightedS_d97.t2 some laws_markWeightedS_d97.l2 v0 v1 v2 = some b) : laws_markWeightedS_d97.l2 v0 v1 v2 = some b := tOf_intro laws_markWeightedS_d97.un (fun _ => by kernel_rfl) (loopAtL_step ((laws_markWeightedS_d97.k2 v0 v1 v2).trans (laws_markWeightedS_d97.s2 v0 v1 v2 b h)))
noncomputable def laws_markIntS_83f.q2 (v0 : List Int) (v1 : Int) (v2 : Int) : Option R := loopAtL E (callT E tab) 48 Try.f48 2 [.r, .l, .r, .b] (⟨(.val .one), [.d .deep (.sl (.int .i64)) v0], true, false, false, 0, 0⟩ :: vc (iL v1) :: nn 3 (vc (iL v2) :: nn 13 ([])))
noncomputable def laws_markIntS_83f.l2 (v0 : List Int) (v1 : Int) (v2 : Int) : Option (Int × (List Int)) := tOf laws_markIntS_83f.mk (laws_markIntS_83f.q2 v0 v1 v2)
noncomputable def laws_markIntS_83f.t {γ : Type} (ret : (Int × (List Int)) → Option γ) (lp2 : (List Int) → Int → Int → Option γ) (v0 : List Int) (v1 : Int) : Option γ :=
  lp2 (v0) (v1) ((0 : Int))
noncomputable def laws_markIntS_83f.t2 {γ : Type} (ret : (Int × (List Int)) → Option γ) (lp2 : (List Int) → Int → Int → Option γ) (v0 : List Int) (v1 : Int) (v2 : Int) : Option γ :=
  bif Decidable.decide (v2 < (↑v0.length : Int)) then
    bif Decidable.decide ((0 : Int) ≤ v2) then
      bif Decidable.decide (v2.toNat < v0.length) then
        bif Decidable.decide (v2.toNat < v0.length) then
          lp2 (v0.set v2.toNat v1) (Go.IntKind.i64.wrap (v1 + (1 : Int))) (Go.IntKind.i64.wrap (v2 + (1 : Int)))
        else
          none
      else
        none
    else
      none
  else
    ret (v1, v0)
theorem laws_markIntS_83f.k (v0 : List Int) (v1 : Int) : topL E (callT E tab) 48 Try.f48 (laws_markIntS_83f.c v0 v1) = laws_markIntS_83f.t (fun b => some (laws_markIntS_83f.mk b)) laws_markIntS_83f.q2 v0 v1 := by kernel_rfl
theorem laws_markIntS_83f.k2 (v0 : List Int) (v1 : Int) (v2 : Int) : roundL E (callT E tab) 48 Try.f48 2 [.r, .l, .r, .b] (⟨(.val .one), [.d .deep (.sl (.int .i64)) v0], true, false, false, 0, 0⟩ :: vc (iL v1) :: nn 3 (vc (iL v2) :: nn 13 ([]))) = laws_markIntS_83f.t2 (fun b => some (laws_markIntS_83f.mk b)) laws_markIntS_83f.q2 v0 v1 v2 := by kernel_rfl
theorem laws_markIntS_83f.s (v0 : List Int) (v1 : Int) : Sub laws_markIntS_83f.mk (laws_markIntS_83f.t some laws_markIntS_83f.l2 v0 v1) (laws_markIntS_83f.t (fun b => some (laws_markIntS_83f.mk b)) laws_markIntS_83f.q2 v0 v1) := by
  unfold laws_markIntS_83f.t
  repeat' first | exact Sub.ret | exact Sub.none | exact Sub.loop | apply Sub.cond | (apply Sub.bind; intro _)
theorem laws_markIntS_83f.eq (v0 : List Int) (v1 : Int) {b : Int × (List Int)} (h : laws_markIntS_83f.t some laws_markIntS_83f.l2 v0 v1 = some b) : laws_markIntS_83f v0 v1 = some b := tOf_intro laws_markIntS_83f.un (fun _ => by kernel_rfl) (vlim_fn (callT_le E tab) rfl rfl rfl ((laws_markIntS_83f.k v0 v1).trans (laws_markIntS_83f.s v0 v1 b h)))
theorem laws_markIntS_83f.s2 (v0 : List Int) (v1 : Int) (v2 : Int) : Sub laws_markIntS_83f.mk (laws_markIntS_83f.t2 some laws_markIntS_83f.l2 v0 v1 v2) (laws_markIntS_83f.t2 (fun b => some (laws_markIntS_83f.mk b)) laws_markIntS_83f.q2 v0 v1 v2) := by
  unfold laws_markIntS_83f.t2
  repeat' first | exact Sub.ret | exact Sub.none | exact Sub.loop | apply Sub.cond | (apply Sub.bind; intro _)
theorem laws_markIntS_83f.eq2 (v0 : List Int) (v1 : Int) (v2 : Int) {b : Int × (List Int)} (h : laws_markIntS_83f.t2 some laws_markIntS_83f.l2 v0 v1 v2 = some b) : laws_markIntS_83f.l2 v0 v1 v2 = some b := tOf_intro laws_markIntS_83f.un (fun _ => by kernel_rfl) (loopAtL_step ((laws_markIntS_83f.k2 v0 v1 v2).trans (laws_markIntS_83f.s2 v0 v1 v2 b h)))
noncomputable def laws_markTable_d7a.t {γ : Type} (ret : (Int × Int × (List (List Int × Int))) → Option γ) (v0 : Int) (v1 : List (List Int × Int)) (v2 : Int) : Option γ :=
  (laws_markWeightedS_d97 (v1) (v2)).bind fun (r0 : Int × (List (List Int × Int))) =>
  ret (r0.fst, v0, r0.snd)
theorem laws_markTable_d7a.k (v0 : Int) (v1 : List (List Int × Int)) (v2 : Int) : topL E (callT E tab) 20 Try.f20 (laws_markTable_d7a.c v0 v1 v2) = laws_markTable_d7a.t (fun b => some (laws_markTable_d7a.mk b)) v0 v1 v2 := by kernel_rfl
theorem laws_markTable_d7a.s (v0 : Int) (v1 : List (List Int × Int)) (v2 : Int) : Sub laws_markTable_d7a.mk (laws_markTable_d7a.t some v0 v1 v2) (laws_markTable_d7a.t (fun b => some (laws_markTable_d7a.mk b)) v0 v1 v2) := by
  unfold laws_markTable_d7a.t
  repeat' first | exact Sub.ret | exact Sub.none | exact Sub.loop | apply Sub.cond | (apply Sub.bind; intro _)
theorem laws_markTable_d7a.eq (v0 : Int) (v1 : List (List Int × Int)) (v2 : Int) {b : Int × Int × (List (List Int × Int))} (h : laws_markTable_d7a.t some v0 v1 v2 = some b) : laws_markTable_d7a v0 v1 v2 = some b := tOf_intro laws_markTable_d7a.un (fun _ => by kernel_rfl) (vlim_fn (callT_le E tab) rfl rfl rfl ((laws_markTable_d7a.k v0 v1 v2).trans (laws_markTable_d7a.s v0 v1 v2 b h)))
end GoV

/- Equations of the program's functions (printed by wip/tools/emit.py). -/
namespace GoV
open Go Go.Proofs
set_option maxRecDepth 100000

noncomputable def laws_heldTable.t {γ : Type} (ret : (Int) → Option γ) (v0 : Int) (v1 : List (List Int × Int)) (v2 : Int) : Option γ :=
  (laws_heldWeightedS (v1) (v2)).bind fun (r0 : Int) =>
  bif Decidable.decide (r0 < (0 : Int)) then
    ret ((-1 : Int))
  else
    ret (r0)
theorem laws_heldTable.k (v0 : Int) (v1 : List (List Int × Int)) (v2 : Int) : topL E (callT E tab) 21 Try.f21 (laws_heldTable.c v0 v1 v2) = laws_heldTable.t (fun b => some (laws_heldTable.mk b)) v0 v1 v2 := by kernel_rfl
theorem laws_heldTable.s (v0 : Int) (v1 : List (List Int × Int)) (v2 : Int) : Sub laws_heldTable.mk (laws_heldTable.t some v0 v1 v2) (laws_heldTable.t (fun b => some (laws_heldTable.mk b)) v0 v1 v2) := by
  unfold laws_heldTable.t
  repeat' first | exact Sub.ret | exact Sub.none | exact Sub.loop | apply Sub.cond | (apply Sub.bind; intro _)
theorem laws_heldTable.eq (v0 : Int) (v1 : List (List Int × Int)) (v2 : Int) {b : Int} (h : laws_heldTable.t some v0 v1 v2 = some b) : laws_heldTable v0 v1 v2 = some b := tOf_intro laws_heldTable.un (fun _ => by kernel_rfl) (vlim_fn (callT_le E tab) rfl rfl rfl ((laws_heldTable.k v0 v1 v2).trans (laws_heldTable.s v0 v1 v2 b h)))
noncomputable def laws_heldWeightedS.q2 (v0 : List (List Int × Int)) (v1 : Int) (v2 : Int) : Option R := loopAtL E (callT E tab) 64 Try.f64 2 [.r, .l, .r, .b] (vc (.d .fro (.sl (.pair (.sl (.int .i64)) (.int .i64))) v0) :: vc (iL v1) :: nn 3 (vc (iL v2) :: nn 26 ([])))
noncomputable def laws_heldWeightedS.l2 (v0 : List (List Int × Int)) (v1 : Int) (v2 : Int) : Option (Int) := tOf laws_heldWeightedS.mk (laws_heldWeightedS.q2 v0 v1 v2)
noncomputable def laws_heldWeightedS.t {γ : Type} (ret : (Int) → Option γ) (lp2 : (List (List Int × Int)) → Int → Int → Option γ) (v0 : List (List Int × Int)) (v1 : Int) : Option γ :=
  lp2 (v0) (v1) ((0 : Int))
noncomputable def laws_heldWeightedS.t2 {γ : Type} (ret : (Int) → Option γ) (lp2 : (List (List Int × Int)) → Int → Int → Option γ) (v0 : List (List Int × Int)) (v1 : Int) (v2 : Int) : Option γ :=
  bif Decidable.decide (v2 < (↑v0.length : Int)) then
    bif Decidable.decide ((0 : Int) ≤ v2) then
      bif Decidable.decide (v2.toNat < v0.length) then
        (laws_heldIntS ((v0.getD v2.toNat ([], (0 : Int))).fst) (v1)).bind fun (r0 : Int) =>
        bif Decidable.decide (r0 < (0 : Int)) then
          ret ((-1 : Int))
        else
          bif Decidable.decide ((0 : Int) ≤ v2) then
            bif Decidable.decide (v2.toNat < v0.length) then
              bif (v0.getD v2.toNat ([], (0 : Int))).snd != r0 then
                ret ((-1 : Int))
              else
                lp2 (v0) (Go.IntKind.i64.wrap (r0 + (1 : Int))) (Go.IntKind.i64.wrap (v2 + (1 : Int)))
            else
              none
          else
            none
      else
        none
    else
      none
  else
    ret (v1)
theorem laws_heldWeightedS.k (v0 : List (List Int × Int)) (v1 : Int) : topL E (callT E tab) 64 Try.f64 (laws_heldWeightedS.c v0 v1) = laws_heldWeightedS.t (fun b => some (laws_heldWeightedS.mk b)) laws_heldWeightedS.q2 v0 v1 := by kernel_rfl
theorem laws_heldWeightedS.k2 (v0 : List (List Int × Int)) (v1 : Int) (v2 : Int) : roundL E (callT E tab) 64 Try.f64 2 [.r, .l, .r, .b] (vc (.d .fro (.sl (.pair (.sl (.int .i64)) (.int .i64))) v0) :: vc (iL v1) :: nn 3 (vc (iL v2) :: nn 26 ([]))) = laws_heldWeightedS.t2 (fun b => some (laws_heldWeightedS.mk b)) laws_heldWeightedS.q2 v0 v1 v2 := by kernel_rfl
theorem laws_heldWeightedS.s (v0 : List (List Int × Int)) (v1 : Int) : Sub laws_heldWeightedS.mk (laws_heldWeightedS.t some laws_heldWeightedS.l2 v0 v1) (laws_heldWeightedS.t (fun b => some (laws_heldWeightedS.mk b)) laws_heldWeightedS.q2 v0 v1) := by
  unfold laws_heldWeightedS.t
  repeat' first | exact Sub.ret | exact Sub.none | exact Sub.loop | apply Sub.cond | (apply Sub.bind; intro _)
theorem laws_heldWeightedS.eq (v0 : List (List Int × Int)) (v1 : Int) {b : Int} (h : laws_heldWeightedS.t some laws_heldWeightedS.l2 v0 v1 = some b) : laws_heldWeightedS v0 v1 = some b := tOf_intro laws_heldWeightedS.un (fun _ => by kernel_rfl) (vlim_fn (callT_le E tab) rfl rfl rfl ((laws_heldWeightedS.k v0 v1).trans (laws_heldWeightedS.s v0 v1 b h)))
theorem laws_heldWeightedS.s2 (v0 : List (List Int × Int)) (v1 : Int) (v2 : Int) : Sub laws_heldWeightedS.mk (laws_heldWeightedS.t2 some laws_heldWeightedS.l2 v0 v1 v2) (laws_heldWeightedS.t2 (fun b => some (laws_heldWeightedS.mk b)) laws_heldWeightedS.q2 v0 v1 v2) := by
  unfold laws_heldWeightedS.t2
  repeat' first | exact Sub.ret | exact Sub.none | exact Sub.loop | apply Sub.cond | (apply Sub.bind; intro _)
theorem laws_heldWeightedS.eq2 (v0 : List (List Int × Int)) (v1 : Int) (v2 : Int) {b : Int} (h : laws_heldWeightedS.t2 some laws_heldWeightedS.l2 v0 v1 v2 = some b) : laws_heldWeightedS.l2 v0 v1 v2 = some b := tOf_intro laws_heldWeightedS.un (fun _ => by kernel_rfl) (loopAtL_step ((laws_heldWeightedS.k2 v0 v1 v2).trans (laws_heldWeightedS.s2 v0 v1 v2 b h)))
noncomputable def laws_heldIntS.q2 (v0 : List Int) (v1 : Int) (v2 : Int) : Option R := loopAtL E (callT E tab) 110 Try.f110 2 [.r, .l, .r, .b] (vc (.d .fro (.sl (.int .i64)) v0) :: vc (iL v1) :: nn 3 (vc (iL v2) :: nn 15 ([])))
noncomputable def laws_heldIntS.l2 (v0 : List Int) (v1 : Int) (v2 : Int) : Option (Int) := tOf laws_heldIntS.mk (laws_heldIntS.q2 v0 v1 v2)
noncomputable def laws_heldIntS.t {γ : Type} (ret : (Int) → Option γ) (lp2 : (List Int) → Int → Int → Option γ) (v0 : List Int) (v1 : Int) : Option γ :=
  lp2 (v0) (v1) ((0 : Int))
noncomputable def laws_heldIntS.t2 {γ : Type} (ret : (Int) → Option γ) (lp2 : (List Int) → Int → Int → Option γ) (v0 : List Int) (v1 : Int) (v2 : Int) : Option γ :=
  bif Decidable.decide (v2 < (↑v0.length : Int)) then
    bif Decidable.decide ((0 : Int) ≤ v2) then
      bif Decidable.decide (v2.toNat < v0.length) then
        bif v0.getD v2.toNat (0 : Int) != v1 then
          ret ((-1 : Int))
        else
          lp2 (v0) (Go.IntKind.i64.wrap (v1 + (1 : Int))) (Go.IntKind.i64.wrap (v2 + (1 : Int)))
      else
        none
    else
      none
  else
    ret (v1)
theorem laws_heldIntS.k (v0 : List Int) (v1 : Int) : topL E (callT E tab) 110 Try.f110 (laws_heldIntS.c v0 v1) = laws_heldIntS.t (fun b => some (laws_heldIntS.mk b)) laws_heldIntS.q2 v0 v1 := by kernel_rfl
theorem laws_heldIntS.k2 (v0 : List Int) (v1 : Int) (v2 : Int) : roundL E (callT E tab) 110 Try.f110 2 [.r, .l, .r, .b] (vc (.d .fro (.sl (.int .i64)) v0) :: vc (iL v1) :: nn 3 (vc (iL v2) :: nn 15 ([]))) = laws_heldIntS.t2 (fun b => some (laws_heldIntS.mk b)) laws_heldIntS.q2 v0 v1 v2 := by kernel_rfl
theorem laws_heldIntS.s (v0 : List Int) (v1 : Int) : Sub laws_heldIntS.mk (laws_heldIntS.t some laws_heldIntS.l2 v0 v1) (laws_heldIntS.t (fun b => some (laws_heldIntS.mk b)) laws_heldIntS.q2 v0 v1) := by
  unfold laws_heldIntS.t
  repeat' first | exact Sub.ret | exact Sub.none | exact Sub.loop | apply Sub.cond | (apply Sub.bind; intro _)
theorem laws_heldIntS.eq (v0 : List Int) (v1 : Int) {b : Int} (h : laws_heldIntS.t some laws_heldIntS.l2 v0 v1 = some b) : laws_heldIntS v0 v1 = some b := tOf_intro laws_heldIntS.un (fun _ => by kernel_rfl) (vlim_fn (callT_le E tab) rfl rfl rfl ((laws_heldIntS.k v0 v1).trans (laws_heldIntS.s v0 v1 b h)))
theorem laws_heldIntS.s2 (v0 : List Int) (v1 : Int) (v2 : Int) : Sub laws_heldIntS.mk (laws_heldIntS.t2 some laws_heldIntS.l2 v0 v1 v2) (laws_heldIntS.t2 (fun b => some (laws_heldIntS.mk b)) laws_heldIntS.q2 v0 v1 v2) := by
  unfold laws_heldIntS.t2
  repeat' first | exact Sub.ret | exact Sub.none | exact Sub.loop | apply Sub.cond | (apply Sub.bind; intro _)
theorem laws_heldIntS.eq2 (v0 : List Int) (v1 : Int) (v2 : Int) {b : Int} (h : laws_heldIntS.t2 some laws_heldIntS.l2 v0 v1 v2 = some b) : laws_heldIntS.l2 v0 v1 v2 = some b := tOf_intro laws_heldIntS.un (fun _ => by kernel_rfl) (loopAtL_step ((laws_heldIntS.k2 v0 v1 v2).trans (laws_heldIntS.s2 v0 v1 v2 b h)))
end GoV
