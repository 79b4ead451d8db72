/- A part of the proof of FnExactGroupTable: an interpreter of the model over plain data, its soundness, and what it makes of the functions that the statement reaches. Conditions: none beyond what the given statement itself says. -/
import Derived.Test.YtjbhilkkckfkmaaTI
set_option linter.unusedVariables false
set_option linter.unusedSimpArgs false
set_option linter.unnecessarySimpa false
set_option linter.unusedSectionVars false
/- Equations of the program's functions (printed by wip/tools/emit.py). -/
namespace GoV
open Go Go.Proofs
set_option maxRecDepth 100000

noncomputable def laws_szTable.t {γ : Type} (ret : (Int) → Option γ) (v0 : Int) (v1 : List (List Int × Int)) (v2 : Int) : Option γ :=
 (laws_szWeightedS (v1) (v2)).bind fun (r0 : Int) =>
 bif decide (r0 < (0 : Int)) then
  ret ((-1 : Int))
 else
  ret (r0)
theorem laws_szTable.k (v0 : Int) (v1 : List (List Int × Int)) (v2 : Int) : topL E (callT E tab) 19 Try.f19 (laws_szTable.c v0 v1 v2) = laws_szTable.t (fun b => some (laws_szTable.mk b)) v0 v1 v2 := by kernel_rfl
theorem laws_szTable.eq (v0 : Int) (v1 : List (List Int × Int)) (v2 : Int) {b : Int} (h : laws_szTable.t some v0 v1 v2 = some b) : laws_szTable v0 v1 v2 = some b := tOf_intro laws_szTable.un (fun _ => by kernel_rfl) (vlim_fn (callT_le E tab) rfl rfl rfl ((laws_szTable.k v0 v1 v2).trans ((by unfold laws_szTable.t; repeat' first | exact Sub.ret | exact Sub.none | exact Sub.loop | apply Sub.cond | (apply Sub.bind; intro _) : Sub laws_szTable.mk _ _) b h)))
noncomputable def laws_szWeightedS.q5 (v0 : List (List Int × Int)) (v1 : Int) (v2 : Int) : Option R := loopAtL E (callT E tab) 48 Try.f48 2 [.r, .r, .r, .l, .r, .b] (vc (.d .fro (.sl (.pair (.sl (.int .i64)) (.int .i64))) v0) :: vc (iL v1) :: nn 3 (vc (iL v2) :: nn 21 ([])))
noncomputable def laws_szWeightedS.l5 (v0 : List (List Int × Int)) (v1 : Int) (v2 : Int) : Option (Int) := tOf laws_szWeightedS.mk (laws_szWeightedS.q5 v0 v1 v2)
noncomputable def laws_szWeightedS.t {γ : Type} (ret : (Int) → Option γ) (lp5 : (List (List Int × Int)) → Int → Int → Option γ) (v0 : List (List Int × Int)) (v1 : Int) : Option γ :=
 bif decide (IntKind.i64.wrap (v1 - (↑v0.length : Int)) < (0 : Int)) then
  ret ((-1 : Int))
 else
  lp5 (v0) (IntKind.i64.wrap (v1 - (↑v0.length : Int))) ((0 : Int))
noncomputable def laws_szWeightedS.t5 {γ : Type} (ret : (Int) → Option γ) (lp5 : (List (List Int × Int)) → Int → Int → Option γ) (v0 : List (List Int × Int)) (v1 : Int) (v2 : Int) : Option γ :=
 bif decide (v2 < (↑v0.length : Int)) then
  bif decide ((0 : Int) ≤ v2) then
   bif decide (v2.toNat < v0.length) then
    (laws_szWeighted ((v0.getD v2.toNat ([], (0 : Int))).fst) ((v0.getD v2.toNat ([], (0 : Int))).snd) (v1)).bind fun (r0 : Int) =>
    bif decide (r0 < (0 : Int)) then
     ret ((-1 : Int))
    else
     lp5 (v0) (r0) (IntKind.i64.wrap (v2 + (1 : Int)))
   else
    none
  else
   none
 else
  ret (v1)
theorem laws_szWeightedS.k (v0 : List (List Int × Int)) (v1 : Int) : topL E (callT E tab) 48 Try.f48 (laws_szWeightedS.c v0 v1) = laws_szWeightedS.t (fun b => some (laws_szWeightedS.mk b)) laws_szWeightedS.q5 v0 v1 := by kernel_rfl
theorem laws_szWeightedS.k5 (v0 : List (List Int × Int)) (v1 : Int) (v2 : Int) : roundL E (callT E tab) 48 Try.f48 2 [.r, .r, .r, .l, .r, .b] (vc (.d .fro (.sl (.pair (.sl (.int .i64)) (.int .i64))) v0) :: vc (iL v1) :: nn 3 (vc (iL v2) :: nn 21 ([]))) = laws_szWeightedS.t5 (fun b => some (laws_szWeightedS.mk b)) laws_szWeightedS.q5 v0 v1 v2 := by kernel_rfl
theorem laws_szWeightedS.eq (v0 : List (List Int × Int)) (v1 : Int) {b : Int} (h : laws_szWeightedS.t some laws_szWeightedS.l5 v0 v1 = some b) : laws_szWeightedS v0 v1 = some b := tOf_intro laws_szWeightedS.un (fun _ => by kernel_rfl) (vlim_fn (callT_le E tab) rfl rfl rfl ((laws_szWeightedS.k v0 v1).trans ((by unfold laws_szWeightedS.t; repeat' first | exact Sub.ret | exact Sub.none | exact Sub.loop | apply Sub.cond | (apply Sub.bind; intro _) : Sub laws_szWeightedS.mk _ _) b h)))
theorem laws_szWeightedS.eq5 (v0 : List (List Int × Int)) (v1 : Int) (v2 : Int) {b : Int} (h : laws_szWeightedS.t5 some laws_szWeightedS.l5 v0 v1 v2 = some b) : laws_szWeightedS.l5 v0 v1 v2 = some b := tOf_intro laws_szWeightedS.un (fun _ => by kernel_rfl) (loopAtL_step ((laws_szWeightedS.k5 v0 v1 v2).trans ((by unfold laws_szWeightedS.t5; repeat' first | exact Sub.ret | exact Sub.none | exact Sub.loop | apply Sub.cond | (apply Sub.bind; intro _) : Sub laws_szWeightedS.mk _ _) b h)))
noncomputable def laws_szWeighted.t {γ : Type} (ret : (Int) → Option γ) (v0 : List Int) (v1 : Int) (v2 : Int) : Option γ :=
 (laws_szRow (v0) (v2)).bind fun (r0 : Int) =>
 bif decide (r0 < (0 : Int)) then
  ret ((-1 : Int))
 else
  ret (r0)
theorem laws_szWeighted.k (v0 : List Int) (v1 : Int) (v2 : Int) : topL E (callT E tab) 85 Try.f85 (laws_szWeighted.c v0 v1 v2) = laws_szWeighted.t (fun b => some (laws_szWeighted.mk b)) v0 v1 v2 := by kernel_rfl
theorem laws_szWeighted.eq (v0 : List Int) (v1 : Int) (v2 : Int) {b : Int} (h : laws_szWeighted.t some v0 v1 v2 = some b) : laws_szWeighted v0 v1 v2 = some b := tOf_intro laws_szWeighted.un (fun _ => by kernel_rfl) (vlim_fn (callT_le E tab) rfl rfl rfl ((laws_szWeighted.k v0 v1 v2).trans ((by unfold laws_szWeighted.t; repeat' first | exact Sub.ret | exact Sub.none | exact Sub.loop | apply Sub.cond | (apply Sub.bind; intro _) : Sub laws_szWeighted.mk _ _) b h)))
noncomputable def laws_toTable.t {γ : Type} (ret : (Int × (List (List Int × Int))) → Option γ) (v0 : Int) (v1 : List (List Int × Int)) : Option γ :=
 (laws_toWeightedS (v1)).bind fun (r0 : (List (List Int × Int))) =>
 ret (v0, r0)
theorem laws_toTable.k (v0 : Int) (v1 : List (List Int × Int)) : topL E (callT E tab) 21 Try.f21 (laws_toTable.c v0 v1) = laws_toTable.t (fun b => some (laws_toTable.mk b)) v0 v1 := by kernel_rfl
theorem laws_toTable.eq (v0 : Int) (v1 : List (List Int × Int)) {b : Int × (List (List Int × Int))} (h : laws_toTable.t some v0 v1 = some b) : laws_toTable v0 v1 = some b := tOf_intro laws_toTable.un (fun _ => by kernel_rfl) (vlim_fn (callT_le E tab) rfl rfl rfl ((laws_toTable.k v0 v1).trans ((by unfold laws_toTable.t; repeat' first | exact Sub.ret | exact Sub.none | exact Sub.loop | apply Sub.cond | (apply Sub.bind; intro _) : Sub laws_toTable.mk _ _) b h)))
noncomputable def laws_toWeightedS.q3 (v0 : List (List Int × Int)) (v1 : List (List Int × Int)) (v2 : Int) : Option R := loopAtL E (callT E tab) 51 Try.f51 1 [.r, .r, .l, .r, .b] (vc (.d .fro (.sl (.pair (.sl (.int .i64)) (.int .i64))) v0) :: nn 2 (vc (.d .deep (.sl (.pair (.sl (.int .i64)) (.int .i64))) v1) :: vc (iL v2) :: nn 18 ([])))
noncomputable def laws_toWeightedS.l3 (v0 : List (List Int × Int)) (v1 : List (List Int × Int)) (v2 : Int) : Option ((List (List Int × Int))) := tOf laws_toWeightedS.mk (laws_toWeightedS.q3 v0 v1 v2)
noncomputable def laws_toWeightedS.t {γ : Type} (ret : ((List (List Int × Int))) → Option γ) (lp3 : (List (List Int × Int)) → (List (List Int × Int)) → Int → Option γ) (v0 : List (List Int × Int)) : Option γ :=
 bif decide ((↑v0.length : Int) = (↑v0.length : Int)) then
  bif decide ((↑v0.length : Int) ≤ (↑(4294967296 : Nat) : Int)) then
   lp3 (v0) (List.replicate (↑v0.length : Int).toNat ([], (0 : Int))) ((0 : Int))
  else
   none
 else
  none
noncomputable def laws_toWeightedS.t3 {γ : Type} (ret : ((List (List Int × Int))) → Option γ) (lp3 : (List (List Int × Int)) → (List (List Int × Int)) → Int → Option γ) (v0 : List (List Int × Int)) (v1 : List (List Int × Int)) (v2 : Int) : Option γ :=
 bif decide (v2 < (↑v0.length : Int)) then
  bif decide ((0 : Int) ≤ v2) then
   bif decide (v2.toNat < v0.length) then
    (laws_toWeighted ((v0.getD v2.toNat ([], (0 : Int))).fst) ((v0.getD v2.toNat ([], (0 : Int))).snd)).bind fun (r0 : (List Int) × Int) =>
    bif decide ((0 : Int) ≤ v2) then
     bif decide (v2.toNat < v1.length) then
      bif decide (v2.toNat < v1.length) then
       lp3 (v0) (v1.set v2.toNat (r0.fst, r0.snd)) (IntKind.i64.wrap (v2 + (1 : Int)))
      else
       none
     else
      none
    else
     none
   else
    none
  else
   none
 else
  ret (v1)
theorem laws_toWeightedS.k (v0 : List (List Int × Int)) : topL E (callT E tab) 51 Try.f51 (laws_toWeightedS.c v0) = laws_toWeightedS.t (fun b => some (laws_toWeightedS.mk b)) laws_toWeightedS.q3 v0 := by kernel_rfl
theorem laws_toWeightedS.k3 (v0 : List (List Int × Int)) (v1 : List (List Int × Int)) (v2 : Int) : roundL E (callT E tab) 51 Try.f51 1 [.r, .r, .l, .r, .b] (vc (.d .fro (.sl (.pair (.sl (.int .i64)) (.int .i64))) v0) :: nn 2 (vc (.d .deep (.sl (.pair (.sl (.int .i64)) (.int .i64))) v1) :: vc (iL v2) :: nn 18 ([]))) = laws_toWeightedS.t3 (fun b => some (laws_toWeightedS.mk b)) laws_toWeightedS.q3 v0 v1 v2 := by kernel_rfl
theorem laws_toWeightedS.eq (v0 : List (List Int × Int)) {b : (List (List Int × Int))} (h : laws_toWeightedS.t some laws_toWeightedS.l3 v0 = some b) : laws_toWeightedS v0 = some b := tOf_intro laws_toWeightedS.un (fun _ => by kernel_rfl) (vlim_fn (callT_le E tab) rfl rfl rfl ((laws_toWeightedS.k v0).trans ((by unfold laws_toWeightedS.t; repeat' first | exact Sub.ret | exact Sub.none | exact Sub.loop | apply Sub.cond | (apply Sub.bind; intro _) : Sub laws_toWeightedS.mk _ _) b h)))
theorem laws_toWeightedS.eq3 (v0 : List (List Int × Int)) (v1 : List (List Int × Int)) (v2 : Int) {b : (List (List Int × Int))} (h : laws_toWeightedS.t3 some laws_toWeightedS.l3 v0 v1 v2 = some b) : laws_toWeightedS.l3 v0 v1 v2 = some b := tOf_intro laws_toWeightedS.un (fun _ => by kernel_rfl) (loopAtL_step ((laws_toWeightedS.k3 v0 v1 v2).trans ((by unfold laws_toWeightedS.t3; repeat' first | exact Sub.ret | exact Sub.none | exact Sub.loop | apply Sub.cond | (apply Sub.bind; intro _) : Sub laws_toWeightedS.mk _ _) b h)))
noncomputable def laws_toWeighted.t {γ : Type} (ret : ((List Int) × Int) → Option γ) (v0 : List Int) (v1 : Int) : Option γ :=
 (laws_toRow (v0)).bind fun (r0 : (List Int)) =>
 ret (r0, v1)
theorem laws_toWeighted.k (v0 : List Int) (v1 : Int) : topL E (callT E tab) 88 Try.f88 (laws_toWeighted.c v0 v1) = laws_toWeighted.t (fun b => some (laws_toWeighted.mk b)) v0 v1 := by kernel_rfl
theorem laws_toWeighted.eq (v0 : List Int) (v1 : Int) {b : (List Int) × Int} (h : laws_toWeighted.t some v0 v1 = some b) : laws_toWeighted v0 v1 = some b := tOf_intro laws_toWeighted.un (fun _ => by kernel_rfl) (vlim_fn (callT_le E tab) rfl rfl rfl ((laws_toWeighted.k v0 v1).trans ((by unfold laws_toWeighted.t; repeat' first | exact Sub.ret | exact Sub.none | exact Sub.loop | apply Sub.cond | (apply Sub.bind; intro _) : Sub laws_toWeighted.mk _ _) b h)))
noncomputable def spec_GroupTable.q5 (v0 : List Int) (v1 : Int) (v2 : List (List Int × Int × Int)) (v3 : List (List Int × Int)) (v4 : Int) (v5 : Int) : Option R := loopAtL E (callT E tab) 20 Try.f20 3 [.r, .r, .r, .l, .r, .b] (nn 1 (vc (.d .fro (.sl (.int .i64)) v0) :: vc (iL v1) :: nn 5 (vc (.d .sha (.sl (.pair (.sl (.int .i64)) (.pair (.int .i64) (.int .i64)))) v2) :: nn 23 (vc (.d .fro (.sl (.pair (.sl (.int .i64)) (.int .i64))) v3) :: vc (iL v4) :: vc (iL v5) :: nn 26 ([])))))
noncomputable def spec_GroupTable.l5 (v0 : List Int) (v1 : Int) (v2 : List (List Int × Int × Int)) (v3 : List (List Int × Int)) (v4 : Int) (v5 : Int) : Option ((List (List Int × Int × Int)) × Bool) := tOf spec_GroupTable.mk (spec_GroupTable.q5 v0 v1 v2 v3 v4 v5)
noncomputable def spec_GroupTable.t {γ : Type} (ret : ((List (List Int × Int × Int)) × Bool) → Option γ) (lp5 : (List Int) → Int → (List (List Int × Int × Int)) → (List (List Int × Int)) → Int → Int → Option γ) (v0 : Int) (v1 : List (List Int × Int)) (v2 : List Int) (v3 : Int) : Option γ :=
 (spec_GoodTable (v0) (v1)).bind fun (r0 : Bool) =>
 bif !r0 then
  ret ([], Bool.false)
 else
  (spec_l1Columns (v2) (v0)).bind fun (r1 : Bool) =>
  bif !r1 then
   ret ([], Bool.false)
  else
   bif decide (v3 < (0 : Int)) then
    ret ([], Bool.false)
   else
    bif decide (v3 ≥ v0) then
     ret ([], Bool.false)
    else
     lp5 (v2) (v3) ([]) (v1) ((↑v1.length : Int)) ((0 : Int))
noncomputable def spec_GroupTable.t5 {γ : Type} (ret : ((List (List Int × Int × Int)) × Bool) → Option γ) (lp5 : (List Int) → Int → (List (List Int × Int × Int)) → (List (List Int × Int)) → Int → Int → Option γ) (v0 : List Int) (v1 : Int) (v2 : List (List Int × Int × Int)) (v3 : List (List Int × Int)) (v4 : Int) (v5 : Int) : Option γ :=
 bif decide (v5 < v4) then
  bif decide ((0 : Int) ≤ v5) then
   bif decide (v5.toNat < v3.length) then
    (spec_l1Pick ((v3.getD v5.toNat ([], (0 : Int))).fst) (v0)).bind fun (r2 : (List Int)) =>
    bif decide ((0 : Int) ≤ v1) then
     bif decide (v1.toNat < (v3.getD v5.toNat ([], (0 : Int))).fst.length) then
      (spec_l5Put (v2) (r2) ((v3.getD v5.toNat ([], (0 : Int))).snd) (IntKind.i64.wrap   ((v3.getD v5.toNat ([], (0 : Int))).snd * (v3.getD v5.toNat ([], (0 : Int))).fst.getD v1.toNat (0 : Int)))).bind fun (r3 : (List (List Int × Int × Int))) =>
      lp5 (v0) (v1) (r3) (v3) (v4) (IntKind.i64.wrap (v5 + (1 : Int)))
     else
      none
    else
     none
   else
    none
  else
   none
 else
  (spec_l5Tell (v2)).bind fun (r4 : (List (List Int × Int × Int)) × Bool) =>
  ret (r4.fst, r4.snd)
theorem spec_GroupTable.k (v0 : Int) (v1 : List (List Int × Int)) (v2 : List Int) (v3 : Int) : topL E (callT E tab) 20 Try.f20 (spec_GroupTable.c v0 v1 v2 v3) = spec_GroupTable.t (fun b => some (spec_GroupTable.mk b)) spec_GroupTable.q5 v0 v1 v2 v3 := by kernel_rfl
theorem spec_GroupTable.k5 (v0 : List Int) (v1 : Int) (v2 : List (List Int × Int × Int)) (v3 : List (List Int × Int)) (v4 : Int) (v5 : Int) : roundL E (callT E tab) 20 Try.f20 3 [.r, .r, .r, .l, .r, .b] (nn 1 (vc (.d .fro (.sl (.int .i64)) v0) :: vc (iL v1) :: nn 5 (vc (.d .sha (.sl (.pair (.sl (.int .i64)) (.pair (.int .i64) (.int .i64)))) v2) :: nn 23 (vc (.d .fro (.sl (.pair (.sl (.int .i64)) (.int .i64))) v3) :: vc (iL v4) :: vc (iL v5) :: nn 26 ([]))))) = spec_GroupTable.t5 (fun b => some (spec_GroupTable.mk b)) spec_GroupTable.q5 v0 v1 v2 v3 v4 v5 := by kernel_rfl
theorem spec_GroupTable.eq (v0 : Int) (v1 : List (List Int × Int)) (v2 : List Int) (v3 : Int) {b : (List (List Int × Int × Int)) × Bool} (h : spec_GroupTable.t some spec_GroupTable.l5 v0 v1 v2 v3 = some b) : spec_GroupTable v0 v1 v2 v3 = some b := tOf_intro spec_GroupTable.un (fun _ => by kernel_rfl) (vlim_fn (callT_le E tab) rfl rfl rfl ((spec_GroupTable.k v0 v1 v2 v3).trans ((by unfold spec_GroupTable.t; repeat' first | exact Sub.ret | exact Sub.none | exact Sub.loop | apply Sub.cond | (apply Sub.bind; intro _) : Sub spec_GroupTable.mk _ _) b h)))
theorem spec_GroupTable.eq5 (v0 : List Int) (v1 : Int) (v2 : List (List Int × Int × Int)) (v3 : List (List Int × Int)) (v4 : Int) (v5 : Int) {b : (List (List Int × Int × Int)) × Bool} (h : spec_GroupTable.t5 some spec_GroupTable.l5 v0 v1 v2 v3 v4 v5 = some b) : spec_GroupTable.l5 v0 v1 v2 v3 v4 v5 = some b := tOf_intro spec_GroupTable.un (fun _ => by kernel_rfl) (loopAtL_step ((spec_GroupTable.k5 v0 v1 v2 v3 v4 v5).trans ((by unfold spec_GroupTable.t5; repeat' first | exact Sub.ret | exact Sub.none | exact Sub.loop | apply Sub.cond | (apply Sub.bind; intro _) : Sub spec_GroupTable.mk _ _) b h)))
noncomputable def spec_GoodTable.q2 (v0 : Int) (v1 : List (List Int × Int)) (v2 : List (List Int × Int)) (v3 : Int) (v4 : Int) : Option R := loopAtL E (callT E tab) 49 Try.f49 1 [.r, .l, .r, .b] (nn 1 (⟨(.box false), [iL v0, .d .fro (.sl (.pair (.sl (.int .i64)) (.int .i64))) v1], false, false, false, 0, 0⟩ :: nn 4 (vc (.d .fro (.sl (.pair (.sl (.int .i64)) (.int .i64))) v2) :: vc (iL v3) :: vc (iL v4) :: nn 55 ([]))))
noncomputable def spec_GoodTable.l2 (v0 : Int) (v1 : List (List Int × Int)) (v2 : List (List Int × Int)) (v3 : Int) (v4 : Int) : Option (Bool) := tOf spec_GoodTable.mk (spec_GoodTable.q2 v0 v1 v2 v3 v4)
noncomputable def spec_GoodTable.t {γ : Type} (ret : (Bool) → Option γ) (lp2 : Int → (List (List Int × Int)) → (List (List Int × Int)) → Int → Int → Option γ) (v0 : Int) (v1 : List (List Int × Int)) : Option γ :=
 lp2 (v0) (v1) (v1) ((↑v1.length : Int)) ((0 : Int))
noncomputable def spec_GoodTable.t2 {γ : Type} (ret : (Bool) → Option γ) (lp2 : Int → (List (List Int × Int)) → (List (List Int × Int)) → Int → Int → Option γ) (v0 : Int) (v1 : List (List Int × Int)) (v2 : List (List Int × Int)) (v3 : Int) (v4 : Int) : Option γ :=
 bif decide (v4 < v3) then
  bif decide ((0 : Int) ≤ v4) then
   bif decide (v4.toNat < v2.length) then
    (spec_GoodRow ((v2.getD v4.toNat ([], (0 : Int))).fst)).bind fun (r0 : Bool) =>
    bif !r0 then
     ret (Bool.false)
    else
     bif (↑(v2.getD v4.toNat ([], (0 : Int))).fst.length : Int) != v0 then
      ret (Bool.false)
     else
      (spec_l2Weight ((v2.getD v4.toNat ([], (0 : Int))).snd)).bind fun (r1 : Bool) =>
      bif !r1 then
       ret (Bool.false)
      else
       bif (v2.getD v4.toNat ([], (0 : Int))).snd == (0 : Int) then
        ret (Bool.false)
       else
        bif decide (v4 > (0 : Int)) then
         bif decide ((0 : Int) ≤ IntKind.i64.wrap (v4 - (1 : Int))) then
          bif decide ((IntKind.i64.wrap (v4 - (1 : Int))).toNat < v1.length) then
           (spec_l1Compare ((v1.getD (IntKind.i64.wrap (v4 - (1 : Int))).toNat ([], (0 : Int))).fst) ((v2.getD v4.toNat ([], (0 : Int))).fst)).bind fun (r2 : Int) =>
           bif decide (r2 ≥ (0 : Int)) then
            ret (Bool.false)
           else
            lp2 (v0) (v1) (v2) (v3) (IntKind.i64.wrap (v4 + (1 : Int)))
          else
           none
         else
          none
        else
         lp2 (v0) (v1) (v2) (v3) (IntKind.i64.wrap (v4 + (1 : Int)))
   else
    none
  else
   none
 else
  (spec_l1In (v0) ((0 : Int)) ((6 : Int))).bind fun (r3 : Bool) =>
  bif r3 then
   ret (decide ((↑v1.length : Int) ≤ (60 : Int)))
  else
   ret (Bool.false)
theorem spec_GoodTable.k (v0 : Int) (v1 : List (List Int × Int)) : topL E (callT E tab) 49 Try.f49 (spec_GoodTable.c v0 v1) = spec_GoodTable.t (fun b => some (spec_GoodTable.mk b)) spec_GoodTable.q2 v0 v1 := by kernel_rfl
theorem spec_GoodTable.k2 (v0 : Int) (v1 : List (List Int × Int)) (v2 : List (List Int × Int)) (v3 : Int) (v4 : Int) : roundL E (callT E tab) 49 Try.f49 1 [.r, .l, .r, .b] (nn 1 (⟨(.box false), [iL v0, .d .fro (.sl (.pair (.sl (.int .i64)) (.int .i64))) v1], false, false, false, 0, 0⟩ :: nn 4 (vc (.d .fro (.sl (.pair (.sl (.int .i64)) (.int .i64))) v2) :: vc (iL v3) :: vc (iL v4) :: nn 55 ([])))) = spec_GoodTable.t2 (fun b => some (spec_GoodTable.mk b)) spec_GoodTable.q2 v0 v1 v2 v3 v4 := by kernel_rfl
theorem spec_GoodTable.eq (v0 : Int) (v1 : List (List Int × Int)) {b : Bool} (h : spec_GoodTable.t some spec_GoodTable.l2 v0 v1 = some b) : spec_GoodTable v0 v1 = some b := tOf_intro spec_GoodTable.un (fun _ => by kernel_rfl) (vlim_fn (callT_le E tab) rfl rfl rfl ((spec_GoodTable.k v0 v1).trans ((by unfold spec_GoodTable.t; repeat' first | exact Sub.ret | exact Sub.none | exact Sub.loop | apply Sub.cond | (apply Sub.bind; intro _) : Sub spec_GoodTable.mk _ _) b h)))
theorem spec_GoodTable.eq2 (v0 : Int) (v1 : List (List Int × Int)) (v2 : List (List Int × Int)) (v3 : Int) (v4 : Int) {b : Bool} (h : spec_GoodTable.t2 some spec_GoodTable.l2 v0 v1 v2 v3 v4 = some b) : spec_GoodTable.l2 v0 v1 v2 v3 v4 = some b := tOf_intro spec_GoodTable.un (fun _ => by kernel_rfl) (loopAtL_step ((spec_GoodTable.k2 v0 v1 v2 v3 v4).trans ((by unfold spec_GoodTable.t2; repeat' first | exact Sub.ret | exact Sub.none | exact Sub.loop | apply Sub.cond | (apply Sub.bind; intro _) : Sub spec_GoodTable.mk _ _) b h)))
noncomputable def spec_l2Weight.t {γ : Type} (ret : (Bool) → Option γ) (v0 : Int) : Option γ :=
 (spec_l1In (v0) ((-1000000 : Int)) ((1000000 : Int))).bind fun (r0 : Bool) =>
 ret (r0)
theorem spec_l2Weight.k (v0 : Int) : topL E (callT E tab) 86 Try.f86 (spec_l2Weight.c v0) = spec_l2Weight.t (fun b => some (spec_l2Weight.mk b)) v0 := by kernel_rfl
theorem spec_l2Weight.eq (v0 : Int) {b : Bool} (h : spec_l2Weight.t some v0 = some b) : spec_l2Weight v0 = some b := tOf_intro spec_l2Weight.un (fun _ => by kernel_rfl) (vlim_fn (callT_le E tab) rfl rfl rfl ((spec_l2Weight.k v0).trans ((by unfold spec_l2Weight.t; repeat' first | exact Sub.ret | exact Sub.none | exact Sub.loop | apply Sub.cond | (apply Sub.bind; intro _) : Sub spec_l2Weight.mk _ _) b h)))
noncomputable def spec_l1Columns.q2 (v0 : List Int) (v1 : Int) (v2 : List Int) (v3 : Int) (v4 : Int) : Option R := loopAtL E (callT E tab) 50 Try.f50 2 [.r, .l, .r, .b] (vc (.d .fro (.sl (.int .i64)) v0) :: vc (iL v1) :: nn 5 (vc (.d .fro (.sl (.int .i64)) v2) :: vc (iL v3) :: vc (iL v4) :: nn 14 ([])))
noncomputable def spec_l1Columns.l2 (v0 : List Int) (v1 : Int) (v2 : List Int) (v3 : Int) (v4 : Int) : Option (Bool) := tOf spec_l1Columns.mk (spec_l1Columns.q2 v0 v1 v2 v3 v4)
noncomputable def spec_l1Columns.t {γ : Type} (ret : (Bool) → Option γ) (lp2 : (List Int) → Int → (List Int) → Int → Int → Option γ) (v0 : List Int) (v1 : Int) : Option γ :=
 lp2 (v0) (v1) (v0) ((↑v0.length : Int)) ((0 : Int))
noncomputable def spec_l1Columns.t2 {γ : Type} (ret : (Bool) → Option γ) (lp2 : (List Int) → Int → (List Int) → Int → Int → Option γ) (v0 : List Int) (v1 : Int) (v2 : List Int) (v3 : Int) (v4 : Int) : Option γ :=
 bif decide (v4 < v3) then
  bif decide ((0 : Int) ≤ v4) then
   bif decide (v4.toNat < v2.length) then
    bif decide (v2.getD v4.toNat (0 : Int) < (0 : Int)) then
     ret (Bool.false)
    else
     bif decide (v2.getD v4.toNat (0 : Int) ≥ v1) then
      ret (Bool.false)
     else
      lp2 (v0) (v1) (v2) (v3) (IntKind.i64.wrap (v4 + (1 : Int)))
   else
    none
  else
   none
 else
  ret (decide ((↑v0.length : Int) ≤ (6 : Int)))
theorem spec_l1Columns.k (v0 : List Int) (v1 : Int) : topL E (callT E tab) 50 Try.f50 (spec_l1Columns.c v0 v1) = spec_l1Columns.t (fun b => some (spec_l1Columns.mk b)) spec_l1Columns.q2 v0 v1 := by kernel_rfl
theorem spec_l1Columns.k2 (v0 : List Int) (v1 : Int) (v2 : List Int) (v3 : Int) (v4 : Int) : roundL E (callT E tab) 50 Try.f50 2 [.r, .l, .r, .b] (vc (.d .fro (.sl (.int .i64)) v0) :: vc (iL v1) :: nn 5 (vc (.d .fro (.sl (.int .i64)) v2) :: vc (iL v3) :: vc (iL v4) :: nn 14 ([]))) = spec_l1Columns.t2 (fun b => some (spec_l1Columns.mk b)) spec_l1Columns.q2 v0 v1 v2 v3 v4 := by kernel_rfl
theorem spec_l1Columns.eq (v0 : List Int) (v1 : Int) {b : Bool} (h : spec_l1Columns.t some spec_l1Columns.l2 v0 v1 = some b) : spec_l1Columns v0 v1 = some b := tOf_intro spec_l1Columns.un (fun _ => by kernel_rfl) (vlim_fn (callT_le E tab) rfl rfl rfl ((spec_l1Columns.k v0 v1).trans ((by unfold spec_l1Columns.t; repeat' first | exact Sub.ret | exact Sub.none | exact Sub.loop | apply Sub.cond | (apply Sub.bind; intro _) : Sub spec_l1Columns.mk _ _) b h)))
theorem spec_l1Columns.eq2 (v0 : List Int) (v1 : Int) (v2 : List Int) (v3 : Int) (v4 : Int) {b : Bool} (h : spec_l1Columns.t2 some spec_l1Columns.l2 v0 v1 v2 v3 v4 = some b) : spec_l1Columns.l2 v0 v1 v2 v3 v4 = some b := tOf_intro spec_l1Columns.un (fun _ => by kernel_rfl) (loopAtL_step ((spec_l1Columns.k2 v0 v1 v2 v3 v4).trans ((by unfold spec_l1Columns.t2; repeat' first | exact Sub.ret | exact Sub.none | exact Sub.loop | apply Sub.cond | (apply Sub.bind; intro _) : Sub spec_l1Columns.mk _ _) b h)))
noncomputable def impl_GroupTable.q5 (v0 : List Int) (v1 : Int) (v2 : List (List Int × Int × Int)) (v3 : List (List Int × Int)) (v4 : Int) (v5 : Int) : Option R := loopAtL E (callT E tab) 22 Try.f22 3 [.r, .r, .r, .l, .r, .b] (nn 1 (vc (.d .fro (.sl (.int .i64)) v0) :: vc (iL v1) :: nn 5 (vc (.d .deep (.sl (.pair (.sl (.int .i64)) (.pair (.int .i64) (.int .i64)))) v2) :: nn 21 (vc (.d .fro (.sl (.pair (.sl (.int .i64)) (.int .i64))) v3) :: vc (iL v4) :: vc (iL v5) :: nn 28 ([])))))
noncomputable def impl_GroupTable.l5 (v0 : List Int) (v1 : Int) (v2 : List (List Int × Int × Int)) (v3 : List (List Int × Int)) (v4 : Int) (v5 : Int) : Option ((List (List Int × Int × Int)) × Bool) := tOf impl_GroupTable.mk (impl_GroupTable.q5 v0 v1 v2 v3 v4 v5)
noncomputable def impl_GroupTable.t {γ : Type} (ret : ((List (List Int × Int × Int)) × Bool) → Option γ) (lp5 : (List Int) → Int → (List (List Int × Int × Int)) → (List (List Int × Int)) → Int → Int → Option γ) (v0 : Int) (v1 : List (List Int × Int)) (v2 : List Int) (v3 : Int) : Option γ :=
 (impl_GoodTable (v0) (v1)).bind fun (r0 : Bool) =>
 bif !r0 then
  ret ([], Bool.false)
 else
  (impl_areColumns (v2) (v0)).bind fun (r1 : Bool) =>
  bif !r1 then
   ret ([], Bool.false)
  else
   (impl_within (v3) ((0 : Int)) (IntKind.i64.wrap (v0 - (1 : Int)))).bind fun (r2 : Bool) =>
   bif !r2 then
    ret ([], Bool.false)
   else
    lp5 (v2) (v3) ([]) (v1) ((↑v1.length : Int)) ((0 : Int))
noncomputable def impl_GroupTable.t5 {γ : Type} (ret : ((List (List Int × Int × Int)) × Bool) → Option γ) (lp5 : (List Int) → Int → (List (List Int × Int × Int)) → (List (List Int × Int)) → Int → Int → Option γ) (v0 : List Int) (v1 : Int) (v2 : List (List Int × Int × Int)) (v3 : List (List Int × Int)) (v4 : Int) (v5 : Int) : Option γ :=
 bif decide (v5 < v4) then
  bif decide ((0 : Int) ≤ v5) then
   bif decide (v5.toNat < v3.length) then
    (impl_Row_picked ((v3.getD v5.toNat ([], (0 : Int))).fst) (v0)).bind fun (r3 : (List Int)) =>
    bif decide ((0 : Int) ≤ v1) then
     bif decide (v1.toNat < (v3.getD v5.toNat ([], (0 : Int))).fst.length) then
      bif decide   (v2.length +       [(r3, (v3.getD v5.toNat ([], (0 : Int))).snd,             IntKind.i64.wrap               ((v3.getD v5.toNat ([], (0 : Int))).snd *                 (v3.getD v5.toNat ([], (0 : Int))).fst.getD v1.toNat (0 : Int)))].length ≤     (4294967296 : Nat)) then
       lp5 (v0) (v1) (v2 ++   [(r3, (v3.getD v5.toNat ([], (0 : Int))).snd,       IntKind.i64.wrap         ((v3.getD v5.toNat ([], (0 : Int))).snd * (v3.getD v5.toNat ([], (0 : Int))).fst.getD v1.toNat (0 : Int)))]) (v3) (v4) (IntKind.i64.wrap (v5 + (1 : Int)))
      else
       none
     else
      none
    else
     none
   else
    none
  else
   none
 else
  (impl_grouped ([v2])).bind fun (r4 : (List (List Int × Int × Int)) × Bool) =>
  ret (r4.fst, r4.snd)
theorem impl_GroupTable.k (v0 : Int) (v1 : List (List Int × Int)) (v2 : List Int) (v3 : Int) : topL E (callT E tab) 22 Try.f22 (impl_GroupTable.c v0 v1 v2 v3) = impl_GroupTable.t (fun b => some (impl_GroupTable.mk b)) impl_GroupTable.q5 v0 v1 v2 v3 := by kernel_rfl
theorem impl_GroupTable.k5 (v0 : List Int) (v1 : Int) (v2 : List (List Int × Int × Int)) (v3 : List (List Int × Int)) (v4 : Int) (v5 : Int) : roundL E (callT E tab) 22 Try.f22 3 [.r, .r, .r, .l, .r, .b] (nn 1 (vc (.d .fro (.sl (.int .i64)) v0) :: vc (iL v1) :: nn 5 (vc (.d .deep (.sl (.pair (.sl (.int .i64)) (.pair (.int .i64) (.int .i64)))) v2) :: nn 21 (vc (.d .fro (.sl (.pair (.sl (.int .i64)) (.int .i64))) v3) :: vc (iL v4) :: vc (iL v5) :: nn 28 ([]))))) = impl_GroupTable.t5 (fun b => some (impl_GroupTable.mk b)) impl_GroupTable.q5 v0 v1 v2 v3 v4 v5 := by kernel_rfl
theorem impl_GroupTable.eq (v0 : Int) (v1 : List (List Int × Int)) (v2 : List Int) (v3 : Int) {b : (List (List Int × Int × Int)) × Bool} (h : impl_GroupTable.t some impl_GroupTable.l5 v0 v1 v2 v3 = some b) : impl_GroupTable v0 v1 v2 v3 = some b := tOf_intro impl_GroupTable.un (fun _ => by kernel_rfl) (vlim_fn (callT_le E tab) rfl rfl rfl ((impl_GroupTable.k v0 v1 v2 v3).trans ((by unfold impl_GroupTable.t; repeat' first | exact Sub.ret | exact Sub.none | exact Sub.loop | apply Sub.cond | (apply Sub.bind; intro _) : Sub impl_GroupTable.mk _ _) b h)))
theorem impl_GroupTable.eq5 (v0 : List Int) (v1 : Int) (v2 : List (List Int × Int × Int)) (v3 : List (List Int × Int)) (v4 : Int) (v5 : Int) {b : (List (List Int × Int × Int)) × Bool} (h : impl_GroupTable.t5 some impl_GroupTable.l5 v0 v1 v2 v3 v4 v5 = some b) : impl_GroupTable.l5 v0 v1 v2 v3 v4 v5 = some b := tOf_intro impl_GroupTable.un (fun _ => by kernel_rfl) (loopAtL_step ((impl_GroupTable.k5 v0 v1 v2 v3 v4 v5).trans ((by unfold impl_GroupTable.t5; repeat' first | exact Sub.ret | exact Sub.none | exact Sub.loop | apply Sub.cond | (apply Sub.bind; intro _) : Sub impl_GroupTable.mk _ _) b h)))
noncomputable def impl_GoodTable.q4 (v0 : Int) (v1 : List (List Int × Int)) (v2 : List (List Int × Int)) (v3 : Int) (v4 : Int) : Option R := loopAtL E (callT E tab) 52 Try.f52 1 [.r, .r, .l, .r, .b] (nn 1 (⟨(.box false), [iL v0, .d .fro (.sl (.pair (.sl (.int .i64)) (.int .i64))) v1], false, false, false, 0, 0⟩ :: nn 14 (vc (.d .fro (.sl (.pair (.sl (.int .i64)) (.int .i64))) v2) :: vc (iL v3) :: vc (iL v4) :: nn 39 ([]))))
noncomputable def impl_GoodTable.l4 (v0 : Int) (v1 : List (List Int × Int)) (v2 : List (List Int × Int)) (v3 : Int) (v4 : Int) : Option (Bool) := tOf impl_GoodTable.mk (impl_GoodTable.q4 v0 v1 v2 v3 v4)
noncomputable def impl_GoodTable.t {γ : Type} (ret : (Bool) → Option γ) (lp4 : Int → (List (List Int × Int)) → (List (List Int × Int)) → Int → Int → Option γ) (v0 : Int) (v1 : List (List Int × Int)) : Option γ :=
 (impl_isColumns (v0)).bind fun (r0 : Bool) =>
 bif !r0 then
  ret (Bool.false)
 else
  bif decide ((↑v1.length : Int) > (60 : Int)) then
   ret (Bool.false)
  else
   lp4 (v0) (v1) (v1) ((↑v1.length : Int)) ((0 : Int))
noncomputable def impl_GoodTable.t4 {γ : Type} (ret : (Bool) → Option γ) (lp4 : Int → (List (List Int × Int)) → (List (List Int × Int)) → Int → Int → Option γ) (v0 : Int) (v1 : List (List Int × Int)) (v2 : List (List Int × Int)) (v3 : Int) (v4 : Int) : Option γ :=
 bif decide (v4 < v3) then
  bif decide ((0 : Int) ≤ v4) then
   bif decide (v4.toNat < v2.length) then
    (impl_isRowOf ((v2.getD v4.toNat ([], (0 : Int))).fst) (v0)).bind fun (r1 : Bool) =>
    bif !r1 then
     ret (Bool.false)
    else
     (impl_isWeight ((v2.getD v4.toNat ([], (0 : Int))).snd)).bind fun (r2 : Bool) =>
     bif !r2 then
      ret (Bool.false)
     else
      bif (v2.getD v4.toNat ([], (0 : Int))).snd == (0 : Int) then
       ret (Bool.false)
      else
       bif decide (v4 > (0 : Int)) then
        bif decide ((0 : Int) ≤ IntKind.i64.wrap (v4 - (1 : Int))) then
         bif decide ((IntKind.i64.wrap (v4 - (1 : Int))).toNat < v1.length) then
          (impl_compareRows ((v1.getD (IntKind.i64.wrap (v4 - (1 : Int))).toNat ([], (0 : Int))).fst) ((v2.getD v4.toNat ([], (0 : Int))).fst)).bind fun (r3 : Int) =>
          bif decide (r3 ≥ (0 : Int)) then
           ret (Bool.false)
          else
           lp4 (v0) (v1) (v2) (v3) (IntKind.i64.wrap (v4 + (1 : Int)))
         else
          none
        else
         none
       else
        lp4 (v0) (v1) (v2) (v3) (IntKind.i64.wrap (v4 + (1 : Int)))
   else
    none
  else
   none
 else
  ret (Bool.true)
theorem impl_GoodTable.k (v0 : Int) (v1 : List (List Int × Int)) : topL E (callT E tab) 52 Try.f52 (impl_GoodTable.c v0 v1) = impl_GoodTable.t (fun b => some (impl_GoodTable.mk b)) impl_GoodTable.q4 v0 v1 := by kernel_rfl
theorem impl_GoodTable.k4 (v0 : Int) (v1 : List (List Int × Int)) (v2 : List (List Int × Int)) (v3 : Int) (v4 : Int) : roundL E (callT E tab) 52 Try.f52 1 [.r, .r, .l, .r, .b] (nn 1 (⟨(.box false), [iL v0, .d .fro (.sl (.pair (.sl (.int .i64)) (.int .i64))) v1], false, false, false, 0, 0⟩ :: nn 14 (vc (.d .fro (.sl (.pair (.sl (.int .i64)) (.int .i64))) v2) :: vc (iL v3) :: vc (iL v4) :: nn 39 ([])))) = impl_GoodTable.t4 (fun b => some (impl_GoodTable.mk b)) impl_GoodTable.q4 v0 v1 v2 v3 v4 := by kernel_rfl
theorem impl_GoodTable.eq (v0 : Int) (v1 : List (List Int × Int)) {b : Bool} (h : impl_GoodTable.t some impl_GoodTable.l4 v0 v1 = some b) : impl_GoodTable v0 v1 = some b := tOf_intro impl_GoodTable.un (fun _ => by kernel_rfl) (vlim_fn (callT_le E tab) rfl rfl rfl ((impl_GoodTable.k v0 v1).trans ((by unfold impl_GoodTable.t; repeat' first | exact Sub.ret | exact Sub.none | exact Sub.loop | apply Sub.cond | (apply Sub.bind; intro _) : Sub impl_GoodTable.mk _ _) b h)))
theorem impl_GoodTable.eq4 (v0 : Int) (v1 : List (List Int × Int)) (v2 : List (List Int × Int)) (v3 : Int) (v4 : Int) {b : Bool} (h : impl_GoodTable.t4 some impl_GoodTable.l4 v0 v1 v2 v3 v4 = some b) : impl_GoodTable.l4 v0 v1 v2 v3 v4 = some b := tOf_intro impl_GoodTable.un (fun _ => by kernel_rfl) (loopAtL_step ((impl_GoodTable.k4 v0 v1 v2 v3 v4).trans ((by unfold impl_GoodTable.t4; repeat' first | exact Sub.ret | exact Sub.none | exact Sub.loop | apply Sub.cond | (apply Sub.bind; intro _) : Sub impl_GoodTable.mk _ _) b h)))
noncomputable def impl_isColumns.t {γ : Type} (ret : (Bool) → Option γ) (v0 : Int) : Option γ :=
 (impl_within (v0) ((0 : Int)) ((6 : Int))).bind fun (r0 : Bool) =>
 ret (r0)
theorem impl_isColumns.k (v0 : Int) : topL E (callT E tab) 89 Try.f89 (impl_isColumns.c v0) = impl_isColumns.t (fun b => some (impl_isColumns.mk b)) v0 := by kernel_rfl
theorem impl_isColumns.eq (v0 : Int) {b : Bool} (h : impl_isColumns.t some v0 = some b) : impl_isColumns v0 = some b := tOf_intro impl_isColumns.un (fun _ => by kernel_rfl) (vlim_fn (callT_le E tab) rfl rfl rfl ((impl_isColumns.k v0).trans ((by unfold impl_isColumns.t; repeat' first | exact Sub.ret | exact Sub.none | exact Sub.loop | apply Sub.cond | (apply Sub.bind; intro _) : Sub impl_isColumns.mk _ _) b h)))
noncomputable def impl_isWeight.t {γ : Type} (ret : (Bool) → Option γ) (v0 : Int) : Option γ :=
 (impl_within (v0) ((-1000000 : Int)) ((1000000 : Int))).bind fun (r0 : Bool) =>
 ret (r0)
theorem impl_isWeight.k (v0 : Int) : topL E (callT E tab) 90 Try.f90 (impl_isWeight.c v0) = impl_isWeight.t (fun b => some (impl_isWeight.mk b)) v0 := by kernel_rfl
theorem impl_isWeight.eq (v0 : Int) {b : Bool} (h : impl_isWeight.t some v0 = some b) : impl_isWeight v0 = some b := tOf_intro impl_isWeight.un (fun _ => by kernel_rfl) (vlim_fn (callT_le E tab) rfl rfl rfl ((impl_isWeight.k v0).trans ((by unfold impl_isWeight.t; repeat' first | exact Sub.ret | exact Sub.none | exact Sub.loop | apply Sub.cond | (apply Sub.bind; intro _) : Sub impl_isWeight.mk _ _) b h)))
noncomputable def laws_eqTable.t {γ : Type} (ret : (Bool) → Option γ) (v0 : Int) (v1 : List (List Int × Int)) (v2 : Int) (v3 : List (List Int × Int)) : Option γ :=
 bif v0 != v2 then
  ret (Bool.false)
 else
  (laws_eqWeightedS (v1) (v3)).bind fun (r0 : Bool) =>
  bif !r0 then
   ret (Bool.false)
  else
   ret (Bool.true)
theorem laws_eqTable.k (v0 : Int) (v1 : List (List Int × Int)) (v2 : Int) (v3 : List (List Int × Int)) : topL E (callT E tab) 23 Try.f23 (laws_eqTable.c v0 v1 v2 v3) = laws_eqTable.t (fun b => some (laws_eqTable.mk b)) v0 v1 v2 v3 := by kernel_rfl
theorem laws_eqTable.eq (v0 : Int) (v1 : List (List Int × Int)) (v2 : Int) (v3 : List (List Int × Int)) {b : Bool} (h : laws_eqTable.t some v0 v1 v2 v3 = some b) : laws_eqTable v0 v1 v2 v3 = some b := tOf_intro laws_eqTable.un (fun _ => by kernel_rfl) (vlim_fn (callT_le E tab) rfl rfl rfl ((laws_eqTable.k v0 v1 v2 v3).trans ((by unfold laws_eqTable.t; repeat' first | exact Sub.ret | exact Sub.none | exact Sub.loop | apply Sub.cond | (apply Sub.bind; intro _) : Sub laws_eqTable.mk _ _) b h)))
noncomputable def laws_eqWeightedS.q4 (v0 : List (List Int × Int)) (v1 : List (List Int × Int)) (v2 : Int) : Option R := loopAtL E (callT E tab) 54 Try.f54 2 [.r, .r, .l, .r, .b] (vc (.d .fro (.sl (.pair (.sl (.int .i64)) (.int .i64))) v0) :: vc (.d .fro (.sl (.pair (.sl (.int .i64)) (.int .i64))) v1) :: nn 3 (vc (iL v2) :: nn 21 ([])))
noncomputable def laws_eqWeightedS.l4 (v0 : List (List Int × Int)) (v1 : List (List Int × Int)) (v2 : Int) : Option (Bool) := tOf laws_eqWeightedS.mk (laws_eqWeightedS.q4 v0 v1 v2)
noncomputable def laws_eqWeightedS.t {γ : Type} (ret : (Bool) → Option γ) (lp4 : (List (List Int × Int)) → (List (List Int × Int)) → Int → Option γ) (v0 : List (List Int × Int)) (v1 : List (List Int × Int)) : Option γ :=
 bif (↑v0.length : Int) != (↑v1.length : Int) then
  ret (Bool.false)
 else
  lp4 (v0) (v1) ((0 : Int))
noncomputable def laws_eqWeightedS.t4 {γ : Type} (ret : (Bool) → Option γ) (lp4 : (List (List Int × Int)) → (List (List Int × Int)) → Int → Option γ) (v0 : List (List Int × Int)) (v1 : List (List Int × Int)) (v2 : Int) : Option γ :=
 bif decide (v2 < (↑v0.length : Int)) then
  bif decide ((0 : Int) ≤ v2) then
   bif decide (v2.toNat < v0.length) then
    bif decide ((0 : Int) ≤ v2) then
     bif decide (v2.toNat < v1.length) then
      (laws_eqWeighted ((v0.getD v2.toNat ([], (0 : Int))).fst) ((v0.getD v2.toNat ([], (0 : Int))).snd) ((v1.getD v2.toNat ([], (0 : Int))).fst) ((v1.getD v2.toNat ([], (0 : Int))).snd)).bind fun (r0 : Bool) =>
      bif !r0 then
       ret (Bool.false)
      else
       lp4 (v0) (v1) (IntKind.i64.wrap (v2 + (1 : Int)))
     else
      none
    else
     none
   else
    none
  else
   none
 else
  ret (Bool.true)
theorem laws_eqWeightedS.k (v0 : List (List Int × Int)) (v1 : List (List Int × Int)) : topL E (callT E tab) 54 Try.f54 (laws_eqWeightedS.c v0 v1) = laws_eqWeightedS.t (fun b => some (laws_eqWeightedS.mk b)) laws_eqWeightedS.q4 v0 v1 := by kernel_rfl
theorem laws_eqWeightedS.k4 (v0 : List (List Int × Int)) (v1 : List (List Int × Int)) (v2 : Int) : roundL E (callT E tab) 54 Try.f54 2 [.r, .r, .l, .r, .b] (vc (.d .fro (.sl (.pair (.sl (.int .i64)) (.int .i64))) v0) :: vc (.d .fro (.sl (.pair (.sl (.int .i64)) (.int .i64))) v1) :: nn 3 (vc (iL v2) :: nn 21 ([]))) = laws_eqWeightedS.t4 (fun b => some (laws_eqWeightedS.mk b)) laws_eqWeightedS.q4 v0 v1 v2 := by kernel_rfl
theorem laws_eqWeightedS.eq (v0 : List (List Int × Int)) (v1 : List (List Int × Int)) {b : Bool} (h : laws_eqWeightedS.t some laws_eqWeightedS.l4 v0 v1 = some b) : laws_eqWeightedS v0 v1 = some b := tOf_intro laws_eqWeightedS.un (fun _ => by kernel_rfl) (vlim_fn (callT_le E tab) rfl rfl rfl ((laws_eqWeightedS.k v0 v1).trans ((by unfold laws_eqWeightedS.t; repeat' first | exact Sub.ret | exact Sub.none | exact Sub.loop | apply Sub.cond | (apply Sub.bind; intro _) : Sub laws_eqWeightedS.mk _ _) b h)))
theorem laws_eqWeightedS.eq4 (v0 : List (List Int × Int)) (v1 : List (List Int × Int)) (v2 : Int) {b : Bool} (h : laws_eqWeightedS.t4 some laws_eqWeightedS.l4 v0 v1 v2 = some b) : laws_eqWeightedS.l4 v0 v1 v2 = some b := tOf_intro laws_eqWeightedS.un (fun _ => by kernel_rfl) (loopAtL_step ((laws_eqWeightedS.k4 v0 v1 v2).trans ((by unfold laws_eqWeightedS.t4; repeat' first | exact Sub.ret | exact Sub.none | exact Sub.loop | apply Sub.cond | (apply Sub.bind; intro _) : Sub laws_eqWeightedS.mk _ _) b h)))
noncomputable def laws_eqWeighted.t {γ : Type} (ret : (Bool) → Option γ) (v0 : List Int) (v1 : Int) (v2 : List Int) (v3 : Int) : Option γ :=
 (laws_eqRow (v0) (v2)).bind fun (r0 : Bool) =>
 bif !r0 then
  ret (Bool.false)
 else
  bif v1 != v3 then
   ret (Bool.false)
  else
   ret (Bool.true)
theorem laws_eqWeighted.k (v0 : List Int) (v1 : Int) (v2 : List Int) (v3 : Int) : topL E (callT E tab) 91 Try.f91 (laws_eqWeighted.c v0 v1 v2 v3) = laws_eqWeighted.t (fun b => some (laws_eqWeighted.mk b)) v0 v1 v2 v3 := by kernel_rfl
theorem laws_eqWeighted.eq (v0 : List Int) (v1 : Int) (v2 : List Int) (v3 : Int) {b : Bool} (h : laws_eqWeighted.t some v0 v1 v2 v3 = some b) : laws_eqWeighted v0 v1 v2 v3 = some b := tOf_intro laws_eqWeighted.un (fun _ => by kernel_rfl) (vlim_fn (callT_le E tab) rfl rfl rfl ((laws_eqWeighted.k v0 v1 v2 v3).trans ((by unfold laws_eqWeighted.t; repeat' first | exact Sub.ret | exact Sub.none | exact Sub.loop | apply Sub.cond | (apply Sub.bind; intro _) : Sub laws_eqWeighted.mk _ _) b h)))
noncomputable def laws_markTable_d7a.t {γ : Type} (ret : (Int × Int × (List (List Int × Int))) → Option γ) (v0 : Int) (v1 : List (List Int × Int)) (v2 : Int) : Option γ :=
 (xl0j (v1) (v2)).bind fun (r0 : Int × (List (List Int × Int))) =>
 ret (r0.fst, v0, r0.snd)
theorem laws_markTable_d7a.k (v0 : Int) (v1 : List (List Int × Int)) (v2 : Int) : topL E (callT E tab) 24 Try.f24 (laws_markTable_d7a.c v0 v1 v2) = laws_markTable_d7a.t (fun b => some (laws_markTable_d7a.mk b)) v0 v1 v2 := by kernel_rfl
theorem laws_markTable_d7a.eq (v0 : Int) (v1 : List (List Int × Int)) (v2 : Int) {b : Int × Int × (List (List Int × Int))} (h : laws_markTable_d7a.t some v0 v1 v2 = some b) : laws_markTable_d7a v0 v1 v2 = some b := tOf_intro laws_markTable_d7a.un (fun _ => by kernel_rfl) (vlim_fn (callT_le E tab) rfl rfl rfl ((laws_markTable_d7a.k v0 v1 v2).trans ((by unfold laws_markTable_d7a.t; repeat' first | exact Sub.ret | exact Sub.none | exact Sub.loop | apply Sub.cond | (apply Sub.bind; intro _) : Sub laws_markTable_d7a.mk _ _) b h)))
noncomputable def xl0j.q2 (v0 : List (List Int × Int)) (v1 : Int) (v2 : Int) : Option R := loopAtL E (callT E tab) 55 Try.f55 2 [.r, .l, .r, .b] (⟨(.val .one), [.d .deep (.sl (.pair (.sl (.int .i64)) (.int .i64))) v0], true, false, false, 0, 0⟩ :: vc (iL v1) :: nn 3 (vc (iL v2) :: nn 22 ([])))
noncomputable def xl0j.l2 (v0 : List (List Int × Int)) (v1 : Int) (v2 : Int) : Option (Int × (List (List Int × Int))) := tOf xl0j.mk (xl0j.q2 v0 v1 v2)
noncomputable def xl0j.t {γ : Type} (ret : (Int × (List (List Int × Int))) → Option γ) (lp2 : (List (List Int × Int)) → Int → Int → Option γ) (v0 : List (List Int × Int)) (v1 : Int) : Option γ :=
 lp2 (v0) (v1) ((0 : Int))
noncomputable def xl0j.t2 {γ : Type} (ret : (Int × (List (List Int × Int))) → Option γ) (lp2 : (List (List Int × Int)) → Int → Int → Option γ) (v0 : List (List Int × Int)) (v1 : Int) (v2 : Int) : Option γ :=
 bif decide (v2 < (↑v0.length : Int)) then
  bif decide ((0 : Int) ≤ v2) then
   bif decide (v2.toNat < v0.length) then
    bif decide (v2.toNat < v0.length) then
     bif decide (v2.toNat < v0.length) then
      (laws_markIntS_83f ((v0.getD v2.toNat ([], (0 : Int))).fst) (v1)).bind fun (r0 : Int × (List Int)) =>
      bif decide (v2.toNat = v2.toNat) &&   (decide ((0 : Nat) + (0 : Nat) + (0 : Nat) = (0 : Nat) + (0 : Nat) + (0 : Nat)) &&     decide ((1 : Nat) + (1 : Nat) = (1 : Nat) + (1 : Nat))) then
       bif decide (v2.toNat < v0.length) then
        bif decide ((0 : Int) ≤ v2) then
         bif decide (v2.toNat < (v0.set v2.toNat (r0.snd, (v0.getD v2.toNat ([], (0 : Int))).snd)).length) then
          bif decide (v2.toNat < (v0.set v2.toNat (r0.snd, (v0.getD v2.toNat ([], (0 : Int))).snd)).length) then
           lp2 ((v0.set v2.toNat (r0.snd, (v0.getD v2.toNat ([], (0 : Int))).snd)).set v2.toNat   (((v0.set v2.toNat (r0.snd, (v0.getD v2.toNat ([], (0 : Int))).snd)).getD v2.toNat ([], (0 : Int))).fst, r0.fst)) (IntKind.i64.wrap (r0.fst + (1 : Int))) (IntKind.i64.wrap (v2 + (1 : Int)))
          else
           none
         else
          none
        else
         none
       else
        none
      else
       none
     else
      none
    else
     none
   else
    none
  else
   none
 else
  ret (v1, v0)
theorem xl0j.k (v0 : List (List Int × Int)) (v1 : Int) : topL E (callT E tab) 55 Try.f55 (xl0j.c v0 v1) = xl0j.t (fun b => some (xl0j.mk b)) xl0j.q2 v0 v1 := by kernel_rfl
theorem xl0j.k2 (v0 : List (List Int × Int)) (v1 : Int) (v2 : Int) : roundL E (callT E tab) 55 Try.f55 2 [.r, .l, .r, .b] (⟨(.val .one), [.d .deep (.sl (.pair (.sl (.int .i64)) (.int .i64))) v0], true, false, false, 0, 0⟩ :: vc (iL v1) :: nn 3 (vc (iL v2) :: nn 22 ([]))) = xl0j.t2 (fun b => some (xl0j.mk b)) xl0j.q2 v0 v1 v2 := by kernel_rfl
theorem xl0j.eq (v0 : List (List Int × Int)) (v1 : Int) {b : Int × (List (List Int × Int))} (h : xl0j.t some xl0j.l2 v0 v1 = some b) : xl0j v0 v1 = some b := tOf_intro xl0j.un (fun _ => by kernel_rfl) (vlim_fn (callT_le E tab) rfl rfl rfl ((xl0j.k v0 v1).trans ((by unfold xl0j.t; repeat' first | exact Sub.ret | exact Sub.none | exact Sub.loop | apply Sub.cond | (apply Sub.bind; intro _) : Sub xl0j.mk _ _) b h)))
theorem xl0j.eq2 (v0 : List (List Int × Int)) (v1 : Int) (v2 : Int) {b : Int × (List (List Int × Int))} (h : xl0j.t2 some xl0j.l2 v0 v1 v2 = some b) : xl0j.l2 v0 v1 v2 = some b := tOf_intro xl0j.un (fun _ => by kernel_rfl) (loopAtL_step ((xl0j.k2 v0 v1 v2).trans ((by unfold xl0j.t2; repeat' first | exact Sub.ret | exact Sub.none | exact Sub.loop | apply Sub.cond | (apply Sub.bind; intro _) : Sub xl0j.mk _ _) b h)))
end GoV
