/- A part of the proof of FnExactPushDown: an interpreter of the model over plain data, its soundness, and what it makes of the functions that the statement reaches. Conditions: none beyond what the given statement itself says. -/
import Derived.Test.YtkndmlepfblabaaTI
set_option linter.unusedVariables false
set_option linter.unusedSimpArgs false
set_option linter.unnecessarySimpa false
set_option linter.unusedSectionVars false
/- Equations of the program's functions (printed by wip/tools/emit.py). -/
namespace GoV
open Go Go.Proofs
set_option maxRecDepth 100000

noncomputable def xs0k.t {γ : Type} (ret : ((List Int)) → Option γ) (v0 : List Int) : Option γ :=
 bif decide (v0.length ≤ (4294967296 : Nat)) then
  ret (v0)
 else
  none
theorem xs0k.k (v0 : List Int) : extOf 36 (xs0k.c v0) = xs0k.t (fun b => some (xs0k.mk b)) v0 := by kernel_rfl
theorem xs0k.eq (v0 : List Int) {b : (List Int)} (h : xs0k.t some v0 = some b) : xs0k v0 = some b := tOf_intro xs0k.un (fun _ => by kernel_rfl) (vlim_ext (g := extOf 36) rfl ((xs0k.k v0).trans ((by unfold xs0k.t; repeat' first | exact Sub.ret | exact Sub.none | exact Sub.loop | apply Sub.cond | (apply Sub.bind; intro _) : Sub xs0k.mk _ _) b h)))
noncomputable def impl_Part_own.q4 (v0 : Int) (v1 : Int) (v2 : Int) (v3 : List (Int × Int × Int)) (v4 : List Int) (v5 : List (List Int)) (v6 : Int) (v7 : Int) (v8 : Int) (v9 : List (Int × Int × Int)) (v10 : List Int) (v11 : List (List Int)) (v12 : List (List Int)) (v13 : List (List Int)) (v14 : Int) (v15 : Int) : Option R := loopAtL E (callT E tab) 20 Try.f20 1 [.r, .r, .r, .l, .r, .b] (nn 1 (⟨(.box false), [iL v0, iL v1, iL v2, .d .deep (.sl (.pair (.int .i64) (.pair (.int .i64) (.int .i64)))) v3, .d .deep (.sl (.int .i64)) v4, .d .fro (.sl (.sl (.int .i64))) v5], false, false, false, 0, 0⟩ :: ⟨(.box false), [iL v6, iL v7, iL v8, .d .deep (.sl (.pair (.int .i64) (.pair (.int .i64) (.int .i64)))) v9, .d .deep (.sl (.int .i64)) v10, .d .deep (.sl (.sl (.int .i64))) v11], false, false, false, 0, 0⟩ :: vc (.d .deep (.sl (.sl (.int .i64))) v12) :: nn 11 (vc (.d .fro (.sl (.sl (.int .i64))) v13) :: vc (iL v14) :: vc (iL v15) :: nn 12 ([]))))
noncomputable def impl_Part_own.l4 (v0 : Int) (v1 : Int) (v2 : Int) (v3 : List (Int × Int × Int)) (v4 : List Int) (v5 : List (List Int)) (v6 : Int) (v7 : Int) (v8 : Int) (v9 : List (Int × Int × Int)) (v10 : List Int) (v11 : List (List Int)) (v12 : List (List Int)) (v13 : List (List Int)) (v14 : Int) (v15 : Int) : Option (Int × Int × Int × (List (Int × Int × Int)) × (List Int) × (List (List Int))) := tOf impl_Part_own.mk (impl_Part_own.q4 v0 v1 v2 v3 v4 v5 v6 v7 v8 v9 v10 v11 v12 v13 v14 v15)
noncomputable def impl_Part_own.t {γ : Type} (ret : (Int × Int × Int × (List (Int × Int × Int)) × (List Int) × (List (List Int))) → Option γ) (lp4 : Int → Int → Int → (List (Int × Int × Int)) → (List Int) → (List (List Int)) → Int → Int → Int → (List (Int × Int × Int)) → (List Int) → (List (List Int)) → (List (List Int)) → (List (List Int)) → Int → Int → Option γ) (v0 : Int) (v1 : Int) (v2 : Int) (v3 : List (Int × Int × Int)) (v4 : List Int) (v5 : List (List Int)) : Option γ :=
 (xs0g (v3)).bind fun (r0 : (List (Int × Int × Int))) =>
 (xs0k (v4)).bind fun (r1 : (List Int)) =>
 lp4 (v0) (v1) (v2) (r0) (r1) (v5) ((0 : Int)) ((0 : Int)) ((0 : Int)) ([]) ([]) ([]) ([]) (v5) ((↑v5.length : Int)) ((0 : Int))
noncomputable def impl_Part_own.t4 {γ : Type} (ret : (Int × Int × Int × (List (Int × Int × Int)) × (List Int) × (List (List Int))) → Option γ) (lp4 : Int → Int → Int → (List (Int × Int × Int)) → (List Int) → (List (List Int)) → Int → Int → Int → (List (Int × Int × Int)) → (List Int) → (List (List Int)) → (List (List Int)) → (List (List Int)) → Int → Int → Option γ) (v0 : Int) (v1 : Int) (v2 : Int) (v3 : List (Int × Int × Int)) (v4 : List Int) (v5 : List (List Int)) (v6 : Int) (v7 : Int) (v8 : Int) (v9 : List (Int × Int × Int)) (v10 : List Int) (v11 : List (List Int)) (v12 : List (List Int)) (v13 : List (List Int)) (v14 : Int) (v15 : Int) : Option γ :=
 bif decide (v15 < v14) then
  bif decide ((0 : Int) ≤ v15) then
   bif decide (v15.toNat < v13.length) then
    (xs0k (v13.getD v15.toNat [])).bind fun (r2 : (List Int)) =>
    bif decide (v12.length + [r2].length ≤ (4294967296 : Nat)) then
     lp4 (v0) (v1) (v2) (v3) (v4) (v5) (v6) (v7) (v8) (v9) (v10) (v11) (v12 ++ [r2]) (v13) (v14) (IntKind.i64.wrap (v15 + (1 : Int)))
    else
     none
   else
    none
  else
   none
 else
  ret (v0, v1, v2, v3, v4, v12)
theorem impl_Part_own.k (v0 : Int) (v1 : Int) (v2 : Int) (v3 : List (Int × Int × Int)) (v4 : List Int) (v5 : List (List Int)) : topL E (callT E tab) 20 Try.f20 (impl_Part_own.c v0 v1 v2 v3 v4 v5) = impl_Part_own.t (fun b => some (impl_Part_own.mk b)) impl_Part_own.q4 v0 v1 v2 v3 v4 v5 := by kernel_rfl
theorem impl_Part_own.k4 (v0 : Int) (v1 : Int) (v2 : Int) (v3 : List (Int × Int × Int)) (v4 : List Int) (v5 : List (List Int)) (v6 : Int) (v7 : Int) (v8 : Int) (v9 : List (Int × Int × Int)) (v10 : List Int) (v11 : List (List Int)) (v12 : List (List Int)) (v13 : List (List Int)) (v14 : Int) (v15 : Int) : roundL E (callT E tab) 20 Try.f20 1 [.r, .r, .r, .l, .r, .b] (nn 1 (⟨(.box false), [iL v0, iL v1, iL v2, .d .deep (.sl (.pair (.int .i64) (.pair (.int .i64) (.int .i64)))) v3, .d .deep (.sl (.int .i64)) v4, .d .fro (.sl (.sl (.int .i64))) v5], false, false, false, 0, 0⟩ :: ⟨(.box false), [iL v6, iL v7, iL v8, .d .deep (.sl (.pair (.int .i64) (.pair (.int .i64) (.int .i64)))) v9, .d .deep (.sl (.int .i64)) v10, .d .deep (.sl (.sl (.int .i64))) v11], false, false, false, 0, 0⟩ :: vc (.d .deep (.sl (.sl (.int .i64))) v12) :: nn 11 (vc (.d .fro (.sl (.sl (.int .i64))) v13) :: vc (iL v14) :: vc (iL v15) :: nn 12 ([])))) = impl_Part_own.t4 (fun b => some (impl_Part_own.mk b)) impl_Part_own.q4 v0 v1 v2 v3 v4 v5 v6 v7 v8 v9 v10 v11 v12 v13 v14 v15 := by kernel_rfl
theorem impl_Part_own.eq (v0 : Int) (v1 : Int) (v2 : Int) (v3 : List (Int × Int × Int)) (v4 : List Int) (v5 : List (List Int)) {b : Int × Int × Int × (List (Int × Int × Int)) × (List Int) × (List (List Int))} (h : impl_Part_own.t some impl_Part_own.l4 v0 v1 v2 v3 v4 v5 = some b) : impl_Part_own v0 v1 v2 v3 v4 v5 = some b := tOf_intro impl_Part_own.un (fun _ => by kernel_rfl) (vlim_fn (callT_le E tab) rfl rfl rfl ((impl_Part_own.k v0 v1 v2 v3 v4 v5).trans ((by unfold impl_Part_own.t; repeat' first | exact Sub.ret | exact Sub.none | exact Sub.loop | apply Sub.cond | (apply Sub.bind; intro _) : Sub impl_Part_own.mk _ _) b h)))
theorem impl_Part_own.eq4 (v0 : Int) (v1 : Int) (v2 : Int) (v3 : List (Int × Int × Int)) (v4 : List Int) (v5 : List (List Int)) (v6 : Int) (v7 : Int) (v8 : Int) (v9 : List (Int × Int × Int)) (v10 : List Int) (v11 : List (List Int)) (v12 : List (List Int)) (v13 : List (List Int)) (v14 : Int) (v15 : Int) {b : Int × Int × Int × (List (Int × Int × Int)) × (List Int) × (List (List Int))} (h : impl_Part_own.t4 some impl_Part_own.l4 v0 v1 v2 v3 v4 v5 v6 v7 v8 v9 v10 v11 v12 v13 v14 v15 = some b) : impl_Part_own.l4 v0 v1 v2 v3 v4 v5 v6 v7 v8 v9 v10 v11 v12 v13 v14 v15 = some b := tOf_intro impl_Part_own.un (fun _ => by kernel_rfl) (loopAtL_step ((impl_Part_own.k4 v0 v1 v2 v3 v4 v5 v6 v7 v8 v9 v10 v11 v12 v13 v14 v15).trans ((by unfold impl_Part_own.t4; repeat' first | exact Sub.ret | exact Sub.none | exact Sub.loop | apply Sub.cond | (apply Sub.bind; intro _) : Sub impl_Part_own.mk _ _) b h)))
noncomputable def xs0g.t {γ : Type} (ret : ((List (Int × Int × Int))) → Option γ) (v0 : List (Int × Int × Int)) : Option γ :=
 bif decide (v0.length ≤ (4294967296 : Nat)) then
  ret (v0)
 else
  none
theorem xs0g.k (v0 : List (Int × Int × Int)) : extOf 37 (xs0g.c v0) = xs0g.t (fun b => some (xs0g.mk b)) v0 := by kernel_rfl
theorem xs0g.eq (v0 : List (Int × Int × Int)) {b : (List (Int × Int × Int))} (h : xs0g.t some v0 = some b) : xs0g v0 = some b := tOf_intro xs0g.un (fun _ => by kernel_rfl) (vlim_ext (g := extOf 37) rfl ((xs0g.k v0).trans ((by unfold xs0g.t; repeat' first | exact Sub.ret | exact Sub.none | exact Sub.loop | apply Sub.cond | (apply Sub.bind; intro _) : Sub xs0g.mk _ _) b h)))
noncomputable def laws_eqView.t {γ : Type} (ret : (Bool) → Option γ) (v0 : List Int) (v1 : List (Int × Int × Int × List (Int × Int × Int) × List Int × List (List Int))) (v2 : List Int) (v3 : List (Int × Int × Int × List (Int × Int × Int) × List Int × List (List Int))) : Option γ :=
 (laws_eqIntS (v0) (v2)).bind fun (r0 : Bool) =>
 bif !r0 then
  ret (Bool.false)
 else
  (laws_eqPartS (v1) (v3)).bind fun (r1 : Bool) =>
  bif !r1 then
   ret (Bool.false)
  else
   ret (Bool.true)
theorem laws_eqView.k (v0 : List Int) (v1 : List (Int × Int × Int × List (Int × Int × Int) × List Int × List (List Int))) (v2 : List Int) (v3 : List (Int × Int × Int × List (Int × Int × Int) × List Int × List (List Int))) : topL E (callT E tab) 8 Try.f8 (laws_eqView.c v0 v1 v2 v3) = laws_eqView.t (fun b => some (laws_eqView.mk b)) v0 v1 v2 v3 := by kernel_rfl
theorem laws_eqView.eq (v0 : List Int) (v1 : List (Int × Int × Int × List (Int × Int × Int) × List Int × List (List Int))) (v2 : List Int) (v3 : List (Int × Int × Int × List (Int × Int × Int) × List Int × List (List Int))) {b : Bool} (h : laws_eqView.t some v0 v1 v2 v3 = some b) : laws_eqView v0 v1 v2 v3 = some b := tOf_intro laws_eqView.un (fun _ => by kernel_rfl) (vlim_fn (callT_le E tab) rfl rfl rfl ((laws_eqView.k v0 v1 v2 v3).trans ((by unfold laws_eqView.t; repeat' first | exact Sub.ret | exact Sub.none | exact Sub.loop | apply Sub.cond | (apply Sub.bind; intro _) : Sub laws_eqView.mk _ _) b h)))
noncomputable def laws_eqIntS.q4 (v0 : List Int) (v1 : List Int) (v2 : Int) : Option R := loopAtL E (callT E tab) 21 Try.f21 2 [.r, .r, .l, .r, .b] (vc (.d .fro (.sl (.int .i64)) v0) :: vc (.d .fro (.sl (.int .i64)) v1) :: nn 3 (vc (iL v2) :: nn 20 ([])))
noncomputable def laws_eqIntS.l4 (v0 : List Int) (v1 : List Int) (v2 : Int) : Option (Bool) := tOf laws_eqIntS.mk (laws_eqIntS.q4 v0 v1 v2)
noncomputable def laws_eqIntS.t {γ : Type} (ret : (Bool) → Option γ) (lp4 : (List Int) → (List Int) → Int → Option γ) (v0 : List Int) (v1 : List Int) : Option γ :=
 bif (↑v0.length : Int) != (↑v1.length : Int) then
  ret (Bool.false)
 else
  lp4 (v0) (v1) ((0 : Int))
noncomputable def laws_eqIntS.t4 {γ : Type} (ret : (Bool) → Option γ) (lp4 : (List Int) → (List Int) → Int → Option γ) (v0 : List Int) (v1 : List Int) (v2 : Int) : Option γ :=
 bif decide (v2 < (↑v0.length : Int)) then
  bif decide ((0 : Int) ≤ v2) then
   bif decide (v2.toNat < v0.length) then
    bif decide ((0 : Int) ≤ v2) then
     bif decide (v2.toNat < v1.length) then
      bif v0.getD v2.toNat (0 : Int) != v1.getD v2.toNat (0 : Int) then
       ret (Bool.false)
      else
       lp4 (v0) (v1) (IntKind.i64.wrap (v2 + (1 : Int)))
     else
      none
    else
     none
   else
    none
  else
   none
 else
  ret (Bool.true)
theorem laws_eqIntS.k (v0 : List Int) (v1 : List Int) : topL E (callT E tab) 21 Try.f21 (laws_eqIntS.c v0 v1) = laws_eqIntS.t (fun b => some (laws_eqIntS.mk b)) laws_eqIntS.q4 v0 v1 := by kernel_rfl
theorem laws_eqIntS.k4 (v0 : List Int) (v1 : List Int) (v2 : Int) : roundL E (callT E tab) 21 Try.f21 2 [.r, .r, .l, .r, .b] (vc (.d .fro (.sl (.int .i64)) v0) :: vc (.d .fro (.sl (.int .i64)) v1) :: nn 3 (vc (iL v2) :: nn 20 ([]))) = laws_eqIntS.t4 (fun b => some (laws_eqIntS.mk b)) laws_eqIntS.q4 v0 v1 v2 := by kernel_rfl
theorem laws_eqIntS.eq (v0 : List Int) (v1 : List Int) {b : Bool} (h : laws_eqIntS.t some laws_eqIntS.l4 v0 v1 = some b) : laws_eqIntS v0 v1 = some b := tOf_intro laws_eqIntS.un (fun _ => by kernel_rfl) (vlim_fn (callT_le E tab) rfl rfl rfl ((laws_eqIntS.k v0 v1).trans ((by unfold laws_eqIntS.t; repeat' first | exact Sub.ret | exact Sub.none | exact Sub.loop | apply Sub.cond | (apply Sub.bind; intro _) : Sub laws_eqIntS.mk _ _) b h)))
theorem laws_eqIntS.eq4 (v0 : List Int) (v1 : List Int) (v2 : Int) {b : Bool} (h : laws_eqIntS.t4 some laws_eqIntS.l4 v0 v1 v2 = some b) : laws_eqIntS.l4 v0 v1 v2 = some b := tOf_intro laws_eqIntS.un (fun _ => by kernel_rfl) (loopAtL_step ((laws_eqIntS.k4 v0 v1 v2).trans ((by unfold laws_eqIntS.t4; repeat' first | exact Sub.ret | exact Sub.none | exact Sub.loop | apply Sub.cond | (apply Sub.bind; intro _) : Sub laws_eqIntS.mk _ _) b h)))
noncomputable def laws_eqPartS.q4 (v0 : List (Int × Int × Int × List (Int × Int × Int) × List Int × List (List Int))) (v1 : List (Int × Int × Int × List (Int × Int × Int) × List Int × List (List Int))) (v2 : Int) : Option R := loopAtL E (callT E tab) 22 Try.f22 2 [.r, .r, .l, .r, .b] (vc (.d .fro (.sl (.pair (.int .i64) (.pair (.int .i64) (.pair (.int .i64) (.pair (.sl (.pair (.int .i64) (.pair (.int .i64) (.int .i64)))) (.pair (.sl (.int .i64)) (.sl (.sl (.int .i64))))))))) v0) :: vc (.d .fro (.sl (.pair (.int .i64) (.pair (.int .i64) (.pair (.int .i64) (.pair (.sl (.pair (.int .i64) (.pair (.int .i64) (.int .i64)))) (.pair (.sl (.int .i64)) (.sl (.sl (.int .i64))))))))) v1) :: nn 3 (vc (iL v2) :: nn 21 ([])))
noncomputable def laws_eqPartS.l4 (v0 : List (Int × Int × Int × List (Int × Int × Int) × List Int × List (List Int))) (v1 : List (Int × Int × Int × List (Int × Int × Int) × List Int × List (List Int))) (v2 : Int) : Option (Bool) := tOf laws_eqPartS.mk (laws_eqPartS.q4 v0 v1 v2)
noncomputable def laws_eqPartS.t {γ : Type} (ret : (Bool) → Option γ) (lp4 : (List (Int × Int × Int × List (Int × Int × Int) × List Int × List (List Int))) → (List (Int × Int × Int × List (Int × Int × Int) × List Int × List (List Int))) → Int → Option γ) (v0 : List (Int × Int × Int × List (Int × Int × Int) × List Int × List (List Int))) (v1 : List (Int × Int × Int × List (Int × Int × Int) × List Int × List (List Int))) : Option γ :=
 bif (↑v0.length : Int) != (↑v1.length : Int) then
  ret (Bool.false)
 else
  lp4 (v0) (v1) ((0 : Int))
noncomputable def laws_eqPartS.t4 {γ : Type} (ret : (Bool) → Option γ) (lp4 : (List (Int × Int × Int × List (Int × Int × Int) × List Int × List (List Int))) → (List (Int × Int × Int × List (Int × Int × Int) × List Int × List (List Int))) → Int → Option γ) (v0 : List (Int × Int × Int × List (Int × Int × Int) × List Int × List (List Int))) (v1 : List (Int × Int × Int × List (Int × Int × Int) × List Int × List (List Int))) (v2 : Int) : Option γ :=
 bif decide (v2 < (↑v0.length : Int)) then
  bif decide ((0 : Int) ≤ v2) then
   bif decide (v2.toNat < v0.length) then
    bif decide ((0 : Int) ≤ v2) then
     bif decide (v2.toNat < v1.length) then
      (laws_eqPart ((v0.getD v2.toNat ((0 : Int), (0 : Int), (0 : Int), [], [], [])).fst) ((v0.getD v2.toNat ((0 : Int), (0 : Int), (0 : Int), [], [], [])).snd.fst) ((v0.getD v2.toNat ((0 : Int), (0 : Int), (0 : Int), [], [], [])).snd.snd.fst) ((v0.getD v2.toNat ((0 : Int), (0 : Int), (0 : Int), [], [], [])).snd.snd.snd.fst) ((v0.getD v2.toNat ((0 : Int), (0 : Int), (0 : Int), [], [], [])).snd.snd.snd.snd.fst) ((v0.getD v2.toNat ((0 : Int), (0 : Int), (0 : Int), [], [], [])).snd.snd.snd.snd.snd) ((v1.getD v2.toNat ((0 : Int), (0 : Int), (0 : Int), [], [], [])).fst) ((v1.getD v2.toNat ((0 : Int), (0 : Int), (0 : Int), [], [], [])).snd.fst) ((v1.getD v2.toNat ((0 : Int), (0 : Int), (0 : Int), [], [], [])).snd.snd.fst) ((v1.getD v2.toNat ((0 : Int), (0 : Int), (0 : Int), [], [], [])).snd.snd.snd.fst) ((v1.getD v2.toNat ((0 : Int), (0 : Int), (0 : Int), [], [], [])).snd.snd.snd.snd.fst) ((v1.getD v2.toNat ((0 : Int), (0 : Int), (0 : Int), [], [], [])).snd.snd.snd.snd.snd)).bind fun (r0 : Bool) =>
      bif !r0 then
       ret (Bool.false)
      else
       lp4 (v0) (v1) (IntKind.i64.wrap (v2 + (1 : Int)))
     else
      none
    else
     none
   else
    none
  else
   none
 else
  ret (Bool.true)
theorem laws_eqPartS.k (v0 : List (Int × Int × Int × List (Int × Int × Int) × List Int × List (List Int))) (v1 : List (Int × Int × Int × List (Int × Int × Int) × List Int × List (List Int))) : topL E (callT E tab) 22 Try.f22 (laws_eqPartS.c v0 v1) = laws_eqPartS.t (fun b => some (laws_eqPartS.mk b)) laws_eqPartS.q4 v0 v1 := by kernel_rfl
theorem laws_eqPartS.k4 (v0 : List (Int × Int × Int × List (Int × Int × Int) × List Int × List (List Int))) (v1 : List (Int × Int × Int × List (Int × Int × Int) × List Int × List (List Int))) (v2 : Int) : roundL E (callT E tab) 22 Try.f22 2 [.r, .r, .l, .r, .b] (vc (.d .fro (.sl (.pair (.int .i64) (.pair (.int .i64) (.pair (.int .i64) (.pair (.sl (.pair (.int .i64) (.pair (.int .i64) (.int .i64)))) (.pair (.sl (.int .i64)) (.sl (.sl (.int .i64))))))))) v0) :: vc (.d .fro (.sl (.pair (.int .i64) (.pair (.int .i64) (.pair (.int .i64) (.pair (.sl (.pair (.int .i64) (.pair (.int .i64) (.int .i64)))) (.pair (.sl (.int .i64)) (.sl (.sl (.int .i64))))))))) v1) :: nn 3 (vc (iL v2) :: nn 21 ([]))) = laws_eqPartS.t4 (fun b => some (laws_eqPartS.mk b)) laws_eqPartS.q4 v0 v1 v2 := by kernel_rfl
theorem laws_eqPartS.eq (v0 : List (Int × Int × Int × List (Int × Int × Int) × List Int × List (List Int))) (v1 : List (Int × Int × Int × List (Int × Int × Int) × List Int × List (List Int))) {b : Bool} (h : laws_eqPartS.t some laws_eqPartS.l4 v0 v1 = some b) : laws_eqPartS v0 v1 = some b := tOf_intro laws_eqPartS.un (fun _ => by kernel_rfl) (vlim_fn (callT_le E tab) rfl rfl rfl ((laws_eqPartS.k v0 v1).trans ((by unfold laws_eqPartS.t; repeat' first | exact Sub.ret | exact Sub.none | exact Sub.loop | apply Sub.cond | (apply Sub.bind; intro _) : Sub laws_eqPartS.mk _ _) b h)))
theorem laws_eqPartS.eq4 (v0 : List (Int × Int × Int × List (Int × Int × Int) × List Int × List (List Int))) (v1 : List (Int × Int × Int × List (Int × Int × Int) × List Int × List (List Int))) (v2 : Int) {b : Bool} (h : laws_eqPartS.t4 some laws_eqPartS.l4 v0 v1 v2 = some b) : laws_eqPartS.l4 v0 v1 v2 = some b := tOf_intro laws_eqPartS.un (fun _ => by kernel_rfl) (loopAtL_step ((laws_eqPartS.k4 v0 v1 v2).trans ((by unfold laws_eqPartS.t4; repeat' first | exact Sub.ret | exact Sub.none | exact Sub.loop | apply Sub.cond | (apply Sub.bind; intro _) : Sub laws_eqPartS.mk _ _) b h)))
noncomputable def laws_eqPart.t {γ : Type} (ret : (Bool) → Option γ) (v0 : Int) (v1 : Int) (v2 : Int) (v3 : List (Int × Int × Int)) (v4 : List Int) (v5 : List (List Int)) (v6 : Int) (v7 : Int) (v8 : Int) (v9 : List (Int × Int × Int)) (v10 : List Int) (v11 : List (List Int)) : Option γ :=
 bif v0 != v6 then
  ret (Bool.false)
 else
  bif v1 != v7 then
   ret (Bool.false)
  else
   bif v2 != v8 then
    ret (Bool.false)
   else
    (laws_eqTestS (v3) (v9)).bind fun (r0 : Bool) =>
    bif !r0 then
     ret (Bool.false)
    else
     (laws_eqIntS (v4) (v10)).bind fun (r1 : Bool) =>
     bif !r1 then
      ret (Bool.false)
     else
      (laws_eqIntSS (v5) (v11)).bind fun (r2 : Bool) =>
      bif !r2 then
       ret (Bool.false)
      else
       ret (Bool.true)
theorem laws_eqPart.k (v0 : Int) (v1 : Int) (v2 : Int) (v3 : List (Int × Int × Int)) (v4 : List Int) (v5 : List (List Int)) (v6 : Int) (v7 : Int) (v8 : Int) (v9 : List (Int × Int × Int)) (v10 : List Int) (v11 : List (List Int)) : topL E (callT E tab) 38 Try.f38 (laws_eqPart.c v0 v1 v2 v3 v4 v5 v6 v7 v8 v9 v10 v11) = laws_eqPart.t (fun b => some (laws_eqPart.mk b)) v0 v1 v2 v3 v4 v5 v6 v7 v8 v9 v10 v11 := by kernel_rfl
theorem laws_eqPart.eq (v0 : Int) (v1 : Int) (v2 : Int) (v3 : List (Int × Int × Int)) (v4 : List Int) (v5 : List (List Int)) (v6 : Int) (v7 : Int) (v8 : Int) (v9 : List (Int × Int × Int)) (v10 : List Int) (v11 : List (List Int)) {b : Bool} (h : laws_eqPart.t some v0 v1 v2 v3 v4 v5 v6 v7 v8 v9 v10 v11 = some b) : laws_eqPart v0 v1 v2 v3 v4 v5 v6 v7 v8 v9 v10 v11 = some b := tOf_intro laws_eqPart.un (fun _ => by kernel_rfl) (vlim_fn (callT_le E tab) rfl rfl rfl ((laws_eqPart.k v0 v1 v2 v3 v4 v5 v6 v7 v8 v9 v10 v11).trans ((by unfold laws_eqPart.t; repeat' first | exact Sub.ret | exact Sub.none | exact Sub.loop | apply Sub.cond | (apply Sub.bind; intro _) : Sub laws_eqPart.mk _ _) b h)))
noncomputable def laws_eqTestS.q4 (v0 : List (Int × Int × Int)) (v1 : List (Int × Int × Int)) (v2 : Int) : Option R := loopAtL E (callT E tab) 57 Try.f57 2 [.r, .r, .l, .r, .b] (vc (.d .fro (.sl (.pair (.int .i64) (.pair (.int .i64) (.int .i64)))) v0) :: vc (.d .fro (.sl (.pair (.int .i64) (.pair (.int .i64) (.int .i64)))) v1) :: nn 3 (vc (iL v2) :: nn 21 ([])))
noncomputable def laws_eqTestS.l4 (v0 : List (Int × Int × Int)) (v1 : List (Int × Int × Int)) (v2 : Int) : Option (Bool) := tOf laws_eqTestS.mk (laws_eqTestS.q4 v0 v1 v2)
noncomputable def laws_eqTestS.t {γ : Type} (ret : (Bool) → Option γ) (lp4 : (List (Int × Int × Int)) → (List (Int × Int × Int)) → Int → Option γ) (v0 : List (Int × Int × Int)) (v1 : List (Int × Int × Int)) : Option γ :=
 bif (↑v0.length : Int) != (↑v1.length : Int) then
  ret (Bool.false)
 else
  lp4 (v0) (v1) ((0 : Int))
noncomputable def laws_eqTestS.t4 {γ : Type} (ret : (Bool) → Option γ) (lp4 : (List (Int × Int × Int)) → (List (Int × Int × Int)) → Int → Option γ) (v0 : List (Int × Int × Int)) (v1 : List (Int × Int × Int)) (v2 : Int) : Option γ :=
 bif decide (v2 < (↑v0.length : Int)) then
  bif decide ((0 : Int) ≤ v2) then
   bif decide (v2.toNat < v0.length) then
    bif decide ((0 : Int) ≤ v2) then
     bif decide (v2.toNat < v1.length) then
      (laws_eqTest ((v0.getD v2.toNat ((0 : Int), (0 : Int), (0 : Int))).fst) ((v0.getD v2.toNat ((0 : Int), (0 : Int), (0 : Int))).snd.fst) ((v0.getD v2.toNat ((0 : Int), (0 : Int), (0 : Int))).snd.snd) ((v1.getD v2.toNat ((0 : Int), (0 : Int), (0 : Int))).fst) ((v1.getD v2.toNat ((0 : Int), (0 : Int), (0 : Int))).snd.fst) ((v1.getD v2.toNat ((0 : Int), (0 : Int), (0 : Int))).snd.snd)).bind fun (r0 : Bool) =>
      bif !r0 then
       ret (Bool.false)
      else
       lp4 (v0) (v1) (IntKind.i64.wrap (v2 + (1 : Int)))
     else
      none
    else
     none
   else
    none
  else
   none
 else
  ret (Bool.true)
theorem laws_eqTestS.k (v0 : List (Int × Int × Int)) (v1 : List (Int × Int × Int)) : topL E (callT E tab) 57 Try.f57 (laws_eqTestS.c v0 v1) = laws_eqTestS.t (fun b => some (laws_eqTestS.mk b)) laws_eqTestS.q4 v0 v1 := by kernel_rfl
theorem laws_eqTestS.k4 (v0 : List (Int × Int × Int)) (v1 : List (Int × Int × Int)) (v2 : Int) : roundL E (callT E tab) 57 Try.f57 2 [.r, .r, .l, .r, .b] (vc (.d .fro (.sl (.pair (.int .i64) (.pair (.int .i64) (.int .i64)))) v0) :: vc (.d .fro (.sl (.pair (.int .i64) (.pair (.int .i64) (.int .i64)))) v1) :: nn 3 (vc (iL v2) :: nn 21 ([]))) = laws_eqTestS.t4 (fun b => some (laws_eqTestS.mk b)) laws_eqTestS.q4 v0 v1 v2 := by kernel_rfl
theorem laws_eqTestS.eq (v0 : List (Int × Int × Int)) (v1 : List (Int × Int × Int)) {b : Bool} (h : laws_eqTestS.t some laws_eqTestS.l4 v0 v1 = some b) : laws_eqTestS v0 v1 = some b := tOf_intro laws_eqTestS.un (fun _ => by kernel_rfl) (vlim_fn (callT_le E tab) rfl rfl rfl ((laws_eqTestS.k v0 v1).trans ((by unfold laws_eqTestS.t; repeat' first | exact Sub.ret | exact Sub.none | exact Sub.loop | apply Sub.cond | (apply Sub.bind; intro _) : Sub laws_eqTestS.mk _ _) b h)))
theorem laws_eqTestS.eq4 (v0 : List (Int × Int × Int)) (v1 : List (Int × Int × Int)) (v2 : Int) {b : Bool} (h : laws_eqTestS.t4 some laws_eqTestS.l4 v0 v1 v2 = some b) : laws_eqTestS.l4 v0 v1 v2 = some b := tOf_intro laws_eqTestS.un (fun _ => by kernel_rfl) (loopAtL_step ((laws_eqTestS.k4 v0 v1 v2).trans ((by unfold laws_eqTestS.t4; repeat' first | exact Sub.ret | exact Sub.none | exact Sub.loop | apply Sub.cond | (apply Sub.bind; intro _) : Sub laws_eqTestS.mk _ _) b h)))
noncomputable def laws_eqTest.t {γ : Type} (ret : (Bool) → Option γ) (v0 : Int) (v1 : Int) (v2 : Int) (v3 : Int) (v4 : Int) (v5 : Int) : Option γ :=
 bif v0 != v3 then
  ret (Bool.false)
 else
  bif v1 != v4 then
   ret (Bool.false)
  else
   bif v2 != v5 then
    ret (Bool.false)
   else
    ret (Bool.true)
theorem laws_eqTest.k (v0 : Int) (v1 : Int) (v2 : Int) (v3 : Int) (v4 : Int) (v5 : Int) : topL E (callT E tab) 69 Try.f69 (laws_eqTest.c v0 v1 v2 v3 v4 v5) = laws_eqTest.t (fun b => some (laws_eqTest.mk b)) v0 v1 v2 v3 v4 v5 := by kernel_rfl
theorem laws_eqTest.eq (v0 : Int) (v1 : Int) (v2 : Int) (v3 : Int) (v4 : Int) (v5 : Int) {b : Bool} (h : laws_eqTest.t some v0 v1 v2 v3 v4 v5 = some b) : laws_eqTest v0 v1 v2 v3 v4 v5 = some b := tOf_intro laws_eqTest.un (fun _ => by kernel_rfl) (vlim_fn (callT_le E tab) rfl rfl rfl ((laws_eqTest.k v0 v1 v2 v3 v4 v5).trans ((by unfold laws_eqTest.t; repeat' first | exact Sub.ret | exact Sub.none | exact Sub.loop | apply Sub.cond | (apply Sub.bind; intro _) : Sub laws_eqTest.mk _ _) b h)))
noncomputable def laws_eqIntSS.q4 (v0 : List (List Int)) (v1 : List (List Int)) (v2 : Int) : Option R := loopAtL E (callT E tab) 58 Try.f58 2 [.r, .r, .l, .r, .b] (vc (.d .fro (.sl (.sl (.int .i64))) v0) :: vc (.d .fro (.sl (.sl (.int .i64))) v1) :: nn 3 (vc (iL v2) :: nn 21 ([])))
noncomputable def laws_eqIntSS.l4 (v0 : List (List Int)) (v1 : List (List Int)) (v2 : Int) : Option (Bool) := tOf laws_eqIntSS.mk (laws_eqIntSS.q4 v0 v1 v2)
noncomputable def laws_eqIntSS.t {γ : Type} (ret : (Bool) → Option γ) (lp4 : (List (List Int)) → (List (List Int)) → Int → Option γ) (v0 : List (List Int)) (v1 : List (List Int)) : Option γ :=
 bif (↑v0.length : Int) != (↑v1.length : Int) then
  ret (Bool.false)
 else
  lp4 (v0) (v1) ((0 : Int))
noncomputable def laws_eqIntSS.t4 {γ : Type} (ret : (Bool) → Option γ) (lp4 : (List (List Int)) → (List (List Int)) → Int → Option γ) (v0 : List (List Int)) (v1 : List (List Int)) (v2 : Int) : Option γ :=
 bif decide (v2 < (↑v0.length : Int)) then
  bif decide ((0 : Int) ≤ v2) then
   bif decide (v2.toNat < v0.length) then
    bif decide ((0 : Int) ≤ v2) then
     bif decide (v2.toNat < v1.length) then
      (laws_eqIntS (v0.getD v2.toNat []) (v1.getD v2.toNat [])).bind fun (r0 : Bool) =>
      bif !r0 then
       ret (Bool.false)
      else
       lp4 (v0) (v1) (IntKind.i64.wrap (v2 + (1 : Int)))
     else
      none
    else
     none
   else
    none
  else
   none
 else
  ret (Bool.true)
theorem laws_eqIntSS.k (v0 : List (List Int)) (v1 : List (List Int)) : topL E (callT E tab) 58 Try.f58 (laws_eqIntSS.c v0 v1) = laws_eqIntSS.t (fun b => some (laws_eqIntSS.mk b)) laws_eqIntSS.q4 v0 v1 := by kernel_rfl
theorem laws_eqIntSS.k4 (v0 : List (List Int)) (v1 : List (List Int)) (v2 : Int) : roundL E (callT E tab) 58 Try.f58 2 [.r, .r, .l, .r, .b] (vc (.d .fro (.sl (.sl (.int .i64))) v0) :: vc (.d .fro (.sl (.sl (.int .i64))) v1) :: nn 3 (vc (iL v2) :: nn 21 ([]))) = laws_eqIntSS.t4 (fun b => some (laws_eqIntSS.mk b)) laws_eqIntSS.q4 v0 v1 v2 := by kernel_rfl
theorem laws_eqIntSS.eq (v0 : List (List Int)) (v1 : List (List Int)) {b : Bool} (h : laws_eqIntSS.t some laws_eqIntSS.l4 v0 v1 = some b) : laws_eqIntSS v0 v1 = some b := tOf_intro laws_eqIntSS.un (fun _ => by kernel_rfl) (vlim_fn (callT_le E tab) rfl rfl rfl ((laws_eqIntSS.k v0 v1).trans ((by unfold laws_eqIntSS.t; repeat' first | exact Sub.ret | exact Sub.none | exact Sub.loop | apply Sub.cond | (apply Sub.bind; intro _) : Sub laws_eqIntSS.mk _ _) b h)))
theorem laws_eqIntSS.eq4 (v0 : List (List Int)) (v1 : List (List Int)) (v2 : Int) {b : Bool} (h : laws_eqIntSS.t4 some laws_eqIntSS.l4 v0 v1 v2 = some b) : laws_eqIntSS.l4 v0 v1 v2 = some b := tOf_intro laws_eqIntSS.un (fun _ => by kernel_rfl) (loopAtL_step ((laws_eqIntSS.k4 v0 v1 v2).trans ((by unfold laws_eqIntSS.t4; repeat' first | exact Sub.ret | exact Sub.none | exact Sub.loop | apply Sub.cond | (apply Sub.bind; intro _) : Sub laws_eqIntSS.mk _ _) b h)))
noncomputable def laws_markView_311.t {γ : Type} (ret : (Int × (List Int) × (List (Int × Int × Int × List (Int × Int × Int) × List Int × List (List Int)))) → Option γ) (v0 : List Int) (v1 : List (Int × Int × Int × List (Int × Int × Int) × List Int × List (List Int))) (v2 : Int) : Option γ :=
 (laws_markIntS_83f (v0) (v2)).bind fun (r0 : Int × (List Int)) =>
 (laws_markPartS_6b8 (v1) (r0.fst)).bind fun (r1 : Int × (List (Int × Int × Int × List (Int × Int × Int) × List Int × List (List Int)))) =>
 ret (r1.fst, r0.snd, r1.snd)
theorem laws_markView_311.k (v0 : List Int) (v1 : List (Int × Int × Int × List (Int × Int × Int) × List Int × List (List Int))) (v2 : Int) : topL E (callT E tab) 9 Try.f9 (laws_markView_311.c v0 v1 v2) = laws_markView_311.t (fun b => some (laws_markView_311.mk b)) v0 v1 v2 := by kernel_rfl
theorem laws_markView_311.eq (v0 : List Int) (v1 : List (Int × Int × Int × List (Int × Int × Int) × List Int × List (List Int))) (v2 : Int) {b : Int × (List Int) × (List (Int × Int × Int × List (Int × Int × Int) × List Int × List (List Int)))} (h : laws_markView_311.t some v0 v1 v2 = some b) : laws_markView_311 v0 v1 v2 = some b := tOf_intro laws_markView_311.un (fun _ => by kernel_rfl) (vlim_fn (callT_le E tab) rfl rfl rfl ((laws_markView_311.k v0 v1 v2).trans ((by unfold laws_markView_311.t; repeat' first | exact Sub.ret | exact Sub.none | exact Sub.loop | apply Sub.cond | (apply Sub.bind; intro _) : Sub laws_markView_311.mk _ _) b h)))
noncomputable def laws_markIntS_83f.q2 (v0 : List Int) (v1 : Int) (v2 : Int) : Option R := loopAtL E (callT E tab) 23 Try.f23 2 [.r, .l, .r, .b] (⟨(.val .one), [.d .deep (.sl (.int .i64)) v0], true, false, false, 0, 0⟩ :: vc (iL v1) :: nn 3 (vc (iL v2) :: nn 13 ([])))
noncomputable def laws_markIntS_83f.l2 (v0 : List Int) (v1 : Int) (v2 : Int) : Option (Int × (List Int)) := tOf laws_markIntS_83f.mk (laws_markIntS_83f.q2 v0 v1 v2)
noncomputable def laws_markIntS_83f.t {γ : Type} (ret : (Int × (List Int)) → Option γ) (lp2 : (List Int) → Int → Int → Option γ) (v0 : List Int) (v1 : Int) : Option γ :=
 lp2 (v0) (v1) ((0 : Int))
noncomputable def laws_markIntS_83f.t2 {γ : Type} (ret : (Int × (List Int)) → Option γ) (lp2 : (List Int) → Int → Int → Option γ) (v0 : List Int) (v1 : Int) (v2 : Int) : Option γ :=
 bif decide (v2 < (↑v0.length : Int)) then
  bif decide ((0 : Int) ≤ v2) then
   bif decide (v2.toNat < v0.length) then
    bif decide (v2.toNat < v0.length) then
     lp2 (v0.set v2.toNat v1) (IntKind.i64.wrap (v1 + (1 : Int))) (IntKind.i64.wrap (v2 + (1 : Int)))
    else
     none
   else
    none
  else
   none
 else
  ret (v1, v0)
theorem laws_markIntS_83f.k (v0 : List Int) (v1 : Int) : topL E (callT E tab) 23 Try.f23 (laws_markIntS_83f.c v0 v1) = laws_markIntS_83f.t (fun b => some (laws_markIntS_83f.mk b)) laws_markIntS_83f.q2 v0 v1 := by kernel_rfl
theorem laws_markIntS_83f.k2 (v0 : List Int) (v1 : Int) (v2 : Int) : roundL E (callT E tab) 23 Try.f23 2 [.r, .l, .r, .b] (⟨(.val .one), [.d .deep (.sl (.int .i64)) v0], true, false, false, 0, 0⟩ :: vc (iL v1) :: nn 3 (vc (iL v2) :: nn 13 ([]))) = laws_markIntS_83f.t2 (fun b => some (laws_markIntS_83f.mk b)) laws_markIntS_83f.q2 v0 v1 v2 := by kernel_rfl
theorem laws_markIntS_83f.eq (v0 : List Int) (v1 : Int) {b : Int × (List Int)} (h : laws_markIntS_83f.t some laws_markIntS_83f.l2 v0 v1 = some b) : laws_markIntS_83f v0 v1 = some b := tOf_intro laws_markIntS_83f.un (fun _ => by kernel_rfl) (vlim_fn (callT_le E tab) rfl rfl rfl ((laws_markIntS_83f.k v0 v1).trans ((by unfold laws_markIntS_83f.t; repeat' first | exact Sub.ret | exact Sub.none | exact Sub.loop | apply Sub.cond | (apply Sub.bind; intro _) : Sub laws_markIntS_83f.mk _ _) b h)))
theorem laws_markIntS_83f.eq2 (v0 : List Int) (v1 : Int) (v2 : Int) {b : Int × (List Int)} (h : laws_markIntS_83f.t2 some laws_markIntS_83f.l2 v0 v1 v2 = some b) : laws_markIntS_83f.l2 v0 v1 v2 = some b := tOf_intro laws_markIntS_83f.un (fun _ => by kernel_rfl) (loopAtL_step ((laws_markIntS_83f.k2 v0 v1 v2).trans ((by unfold laws_markIntS_83f.t2; repeat' first | exact Sub.ret | exact Sub.none | exact Sub.loop | apply Sub.cond | (apply Sub.bind; intro _) : Sub laws_markIntS_83f.mk _ _) b h)))
noncomputable def laws_markPartS_6b8.q2000003 (v0 : List (Int × Int × Int × List (Int × Int × Int) × List Int × List (List Int))) (v1 : Int) (v2 : Int) : Option R := joinAtL E (callT E tab) 24 Try.f24 2 [.r, .l, .r, .b, .o, .r, .r] (⟨(.val .one), [.d .deep (.sl (.pair (.int .i64) (.pair (.int .i64) (.pair (.int .i64) (.pair (.sl (.pair (.int .i64) (.pair (.int .i64) (.int .i64)))) (.pair (.sl (.int .i64)) (.sl (.sl (.int .i64))))))))) v0], true, false, false, 0, 0⟩ :: vc (iL v1) :: nn 3 (vc (iL v2) :: nn 49 ([])))
noncomputable def laws_markPartS_6b8.l2000003 (v0 : List (Int × Int × Int × List (Int × Int × Int) × List Int × List (List Int))) (v1 : Int) (v2 : Int) : Option (Int × (List (Int × Int × Int × List (Int × Int × Int) × List Int × List (List Int)))) := tOf laws_markPartS_6b8.mk (laws_markPartS_6b8.q2000003 v0 v1 v2)
noncomputable def laws_markPartS_6b8.q2000012 (v0 : List (Int × Int × Int × List (Int × Int × Int) × List Int × List (List Int))) (v1 : Int) (v2 : Int) : Option R := joinAtL E (callT E tab) 24 Try.f24 2 [.r, .l, .r, .b, .o, .r, .l, .b, .r, .r, .r, .r, .r, .r, .r, .r] (⟨(.val .one), [.d .deep (.sl (.pair (.int .i64) (.pair (.int .i64) (.pair (.int .i64) (.pair (.sl (.pair (.int .i64) (.pair (.int .i64) (.int .i64)))) (.pair (.sl (.int .i64)) (.sl (.sl (.int .i64))))))))) v0], true, false, false, 0, 0⟩ :: vc (iL v1) :: nn 3 (vc (iL v2) :: nn 49 ([])))
noncomputable def laws_markPartS_6b8.l2000012 (v0 : List (Int × Int × Int × List (Int × Int × Int) × List Int × List (List Int))) (v1 : Int) (v2 : Int) : Option (Int × (List (Int × Int × Int × List (Int × Int × Int) × List Int × List (List Int)))) := tOf laws_markPartS_6b8.mk (laws_markPartS_6b8.q2000012 v0 v1 v2)
noncomputable def laws_markPartS_6b8.q2000011 (v0 : List (Int × Int × Int × List (Int × Int × Int) × List Int × List (List Int))) (v1 : Int) (v2 : Int) : Option R := joinAtL E (callT E tab) 24 Try.f24 2 [.r, .l, .r, .b, .o, .r, .l, .b, .r, .r, .r, .r, .r, .r, .r, .l] (⟨(.val .one), [.d .deep (.sl (.pair (.int .i64) (.pair (.int .i64) (.pair (.int .i64) (.pair (.sl (.pair (.int .i64) (.pair (.int .i64) (.int .i64)))) (.pair (.sl (.int .i64)) (.sl (.sl (.int .i64))))))))) v0], true, false, false, 0, 0⟩ :: vc (iL v1) :: nn 3 (vc (iL v2) :: nn 49 ([])))
noncomputable def laws_markPartS_6b8.l2000011 (v0 : List (Int × Int × Int × List (Int × Int × Int) × List Int × List (List Int))) (v1 : Int) (v2 : Int) : Option (Int × (List (Int × Int × Int × List (Int × Int × Int) × List Int × List (List Int)))) := tOf laws_markPartS_6b8.mk (laws_markPartS_6b8.q2000011 v0 v1 v2)
noncomputable def laws_markPartS_6b8.q2000010 (v0 : List (Int × Int × Int × List (Int × Int × Int) × List Int × List (List Int))) (v1 : Int) (v2 : Int) : Option R := joinAtL E (callT E tab) 24 Try.f24 2 [.r, .l, .r, .b, .o, .r, .l, .b, .r, .r, .r, .r, .r, .r, .l] (⟨(.val .one), [.d .deep (.sl (.pair (.int .i64) (.pair (.int .i64) (.pair (.int .i64) (.pair (.sl (.pair (.int .i64) (.pair (.int .i64) (.int .i64)))) (.pair (.sl (.int .i64)) (.sl (.sl (.int .i64))))))))) v0], true, false, false, 0, 0⟩ :: vc (iL v1) :: nn 3 (vc (iL v2) :: nn 49 ([])))
noncomputable def laws_markPartS_6b8.l2000010 (v0 : List (Int × Int × Int × List (Int × Int × Int) × List Int × List (List Int))) (v1 : Int) (v2 : Int) : Option (Int × (List (Int × Int × Int × List (Int × Int × Int) × List Int × List (List Int)))) := tOf laws_markPartS_6b8.mk (laws_markPartS_6b8.q2000010 v0 v1 v2)
noncomputable def laws_markPartS_6b8.q2000009 (v0 : List (Int × Int × Int × List (Int × Int × Int) × List Int × List (List Int))) (v1 : Int) (v2 : Int) : Option R := joinAtL E (callT E tab) 24 Try.f24 2 [.r, .l, .r, .b, .o, .r, .l, .b, .r, .r, .r, .r, .r, .l] (⟨(.val .one), [.d .deep (.sl (.pair (.int .i64) (.pair (.int .i64) (.pair (.int .i64) (.pair (.sl (.pair (.int .i64) (.pair (.int .i64) (.int .i64)))) (.pair (.sl (.int .i64)) (.sl (.sl (.int .i64))))))))) v0], true, false, false, 0, 0⟩ :: vc (iL v1) :: nn 3 (vc (iL v2) :: nn 49 ([])))
noncomputable def laws_markPartS_6b8.l2000009 (v0 : List (Int × Int × Int × List (Int × Int × Int) × List Int × List (List Int))) (v1 : Int) (v2 : Int) : Option (Int × (List (Int × Int × Int × List (Int × Int × Int) × List Int × List (List Int)))) := tOf laws_markPartS_6b8.mk (laws_markPartS_6b8.q2000009 v0 v1 v2)
noncomputable def laws_markPartS_6b8.q2000008 (v0 : List (Int × Int × Int × List (Int × Int × Int) × List Int × List (List Int))) (v1 : Int) (v2 : Int) : Option R := joinAtL E (callT E tab) 24 Try.f24 2 [.r, .l, .r, .b, .o, .r, .l, .b, .r, .r, .r, .r, .l] (⟨(.val .one), [.d .deep (.sl (.pair (.int .i64) (.pair (.int .i64) (.pair (.int .i64) (.pair (.sl (.pair (.int .i64) (.pair (.int .i64) (.int .i64)))) (.pair (.sl (.int .i64)) (.sl (.sl (.int .i64))))))))) v0], true, false, false, 0, 0⟩ :: vc (iL v1) :: nn 3 (vc (iL v2) :: nn 49 ([])))
noncomputable def laws_markPartS_6b8.l2000008 (v0 : List (Int × Int × Int × List (Int × Int × Int) × List Int × List (List Int))) (v1 : Int) (v2 : Int) : Option (Int × (List (Int × Int × Int × List (Int × Int × Int) × List Int × List (List Int)))) := tOf laws_markPartS_6b8.mk (laws_markPartS_6b8.q2000008 v0 v1 v2)
noncomputable def laws_markPartS_6b8.q2000007 (v0 : List (Int × Int × Int × List (Int × Int × Int) × List Int × List (List Int))) (v1 : Int) (v2 : Int) : Option R := joinAtL E (callT E tab) 24 Try.f24 2 [.r, .l, .r, .b, .o, .r, .l, .b, .r, .r, .r, .l] (⟨(.val .one), [.d .deep (.sl (.pair (.int .i64) (.pair (.int .i64) (.pair (.int .i64) (.pair (.sl (.pair (.int .i64) (.pair (.int .i64) (.int .i64)))) (.pair (.sl (.int .i64)) (.sl (.sl (.int .i64))))))))) v0], true, false, false, 0, 0⟩ :: vc (iL v1) :: nn 3 (vc (iL v2) :: nn 49 ([])))
noncomputable def laws_markPartS_6b8.l2000007 (v0 : List (Int × Int × Int × List (Int × Int × Int) × List Int × List (List Int))) (v1 : Int) (v2 : Int) : Option (Int × (List (Int × Int × Int × List (Int × Int × Int) × List Int × List (List Int)))) := tOf laws_markPartS_6b8.mk (laws_markPartS_6b8.q2000007 v0 v1 v2)
noncomputable def laws_markPartS_6b8.q2000006 (v0 : List (Int × Int × Int × List (Int × Int × Int) × List Int × List (List Int))) (v1 : Int) (v2 : Int) : Option R := joinAtL E (callT E tab) 24 Try.f24 2 [.r, .l, .r, .b, .o, .r, .l, .b, .r, .r, .l] (⟨(.val .one), [.d .deep (.sl (.pair (.int .i64) (.pair (.int .i64) (.pair (.int .i64) (.pair (.sl (.pair (.int .i64) (.pair (.int .i64) (.int .i64)))) (.pair (.sl (.int .i64)) (.sl (.sl (.int .i64))))))))) v0], true, false, false, 0, 0⟩ :: vc (iL v1) :: nn 3 (vc (iL v2) :: nn 49 ([])))
noncomputable def laws_markPartS_6b8.l2000006 (v0 : List (Int × Int × Int × List (Int × Int × Int) × List Int × List (List Int))) (v1 : Int) (v2 : Int) : Option (Int × (List (Int × Int × Int × List (Int × Int × Int) × List Int × List (List Int)))) := tOf laws_markPartS_6b8.mk (laws_markPartS_6b8.q2000006 v0 v1 v2)
noncomputable def laws_markPartS_6b8.q2000005 (v0 : List (Int × Int × Int × List (Int × Int × Int) × List Int × List (List Int))) (v1 : Int) (v2 : Int) : Option R := joinAtL E (callT E tab) 24 Try.f24 2 [.r, .l, .r, .b, .o, .r, .l, .b, .r, .l] (⟨(.val .one), [.d .deep (.sl (.pair (.int .i64) (.pair (.int .i64) (.pair (.int .i64) (.pair (.sl (.pair (.int .i64) (.pair (.int .i64) (.int .i64)))) (.pair (.sl (.int .i64)) (.sl (.sl (.int .i64))))))))) v0], true, false, false, 0, 0⟩ :: vc (iL v1) :: nn 3 (vc (iL v2) :: nn 49 ([])))
noncomputable def laws_markPartS_6b8.l2000005 (v0 : List (Int × Int × Int × List (Int × Int × Int) × List Int × List (List Int))) (v1 : Int) (v2 : Int) : Option (Int × (List (Int × Int × Int × List (Int × Int × Int) × List Int × List (List Int)))) := tOf laws_markPartS_6b8.mk (laws_markPartS_6b8.q2000005 v0 v1 v2)
noncomputable def laws_markPartS_6b8.q2000004 (v0 : List (Int × Int × Int × List (Int × Int × Int) × List Int × List (List Int))) (v1 : Int) (v2 : Int) : Option R := joinAtL E (callT E tab) 24 Try.f24 2 [.r, .l, .r, .b, .o, .r, .l, .b, .l] (⟨(.val .one), [.d .deep (.sl (.pair (.int .i64) (.pair (.int .i64) (.pair (.int .i64) (.pair (.sl (.pair (.int .i64) (.pair (.int .i64) (.int .i64)))) (.pair (.sl (.int .i64)) (.sl (.sl (.int .i64))))))))) v0], true, false, false, 0, 0⟩ :: vc (iL v1) :: nn 3 (vc (iL v2) :: nn 49 ([])))
noncomputable def laws_markPartS_6b8.l2000004 (v0 : List (Int × Int × Int × List (Int × Int × Int) × List Int × List (List Int))) (v1 : Int) (v2 : Int) : Option (Int × (List (Int × Int × Int × List (Int × Int × Int) × List Int × List (List Int)))) := tOf laws_markPartS_6b8.mk (laws_markPartS_6b8.q2000004 v0 v1 v2)
noncomputable def laws_markPartS_6b8.q2 (v0 : List (Int × Int × Int × List (Int × Int × Int) × List Int × List (List Int))) (v1 : Int) (v2 : Int) : Option R := loopAtL E (callT E tab) 24 Try.f24 2 [.r, .l, .r, .b] (⟨(.val .one), [.d .deep (.sl (.pair (.int .i64) (.pair (.int .i64) (.pair (.int .i64) (.pair (.sl (.pair (.int .i64) (.pair (.int .i64) (.int .i64)))) (.pair (.sl (.int .i64)) (.sl (.sl (.int .i64))))))))) v0], true, false, false, 0, 0⟩ :: vc (iL v1) :: nn 3 (vc (iL v2) :: nn 49 ([])))
noncomputable def laws_markPartS_6b8.l2 (v0 : List (Int × Int × Int × List (Int × Int × Int) × List Int × List (List Int))) (v1 : Int) (v2 : Int) : Option (Int × (List (Int × Int × Int × List (Int × Int × Int) × List Int × List (List Int)))) := tOf laws_markPartS_6b8.mk (laws_markPartS_6b8.q2 v0 v1 v2)
noncomputable def laws_markPartS_6b8.t {γ : Type} (ret : (Int × (List (Int × Int × Int × List (Int × Int × Int) × List Int × List (List Int)))) → Option γ) (lp2000003 : (List (Int × Int × Int × List (Int × Int × Int) × List Int × List (List Int))) → Int → Int → Option γ) (lp2000012 : (List (Int × Int × Int × List (Int × Int × Int) × List Int × List (List Int))) → Int → Int → Option γ) (lp2000011 : (List (Int × Int × Int × List (Int × Int × Int) × List Int × List (List Int))) → Int → Int → Option γ) (lp2000010 : (List (Int × Int × Int × List (Int × Int × Int) × List Int × List (List Int))) → Int → Int → Option γ) (lp2000009 : (List (Int × Int × Int × List (Int × Int × Int) × List Int × List (List Int))) → Int → Int → Option γ) (lp2000008 : (List (Int × Int × Int × List (Int × Int × Int) × List Int × List (List Int))) → Int → Int → Option γ) (lp2000007 : (List (Int × Int × Int × List (Int × Int × Int) × List Int × List (List Int))) → Int → Int → Option γ) (lp2000006 : (List (Int × Int × Int × List (Int × Int × Int) × List Int × List (List Int))) → Int → Int → Option γ) (lp2000005 : (List (Int × Int × Int × List (Int × Int × Int) × List Int × List (List Int))) → Int → Int → Option γ) (lp2000004 : (List (Int × Int × Int × List (Int × Int × Int) × List Int × List (List Int))) → Int → Int → Option γ) (lp2 : (List (Int × Int × Int × List (Int × Int × Int) × List Int × List (List Int))) → Int → Int → Option γ) (v0 : List (Int × Int × Int × List (Int × Int × Int) × List Int × List (List Int))) (v1 : Int) : Option γ :=
 lp2 (v0) (v1) ((0 : Int))
noncomputable def laws_markPartS_6b8.t2000003 {γ : Type} (ret : (Int × (List (Int × Int × Int × List (Int × Int × Int) × List Int × List (List Int)))) → Option γ) (lp2000003 : (List (Int × Int × Int × List (Int × Int × Int) × List Int × List (List Int))) → Int → Int → Option γ) (lp2000012 : (List (Int × Int × Int × List (Int × Int × Int) × List Int × List (List Int))) → Int → Int → Option γ) (lp2000011 : (List (Int × Int × Int × List (Int × Int × Int) × List Int × List (List Int))) → Int → Int → Option γ) (lp2000010 : (List (Int × Int × Int × List (Int × Int × Int) × List Int × List (List Int))) → Int → Int → Option γ) (lp2000009 : (List (Int × Int × Int × List (Int × Int × Int) × List Int × List (List Int))) → Int → Int → Option γ) (lp2000008 : (List (Int × Int × Int × List (Int × Int × Int) × List Int × List (List Int))) → Int → Int → Option γ) (lp2000007 : (List (Int × Int × Int × List (Int × Int × Int) × List Int × List (List Int))) → Int → Int → Option γ) (lp2000006 : (List (Int × Int × Int × List (Int × Int × Int) × List Int × List (List Int))) → Int → Int → Option γ) (lp2000005 : (List (Int × Int × Int × List (Int × Int × Int) × List Int × List (List Int))) → Int → Int → Option γ) (lp2000004 : (List (Int × Int × Int × List (Int × Int × Int) × List Int × List (List Int))) → Int → Int → Option γ) (lp2 : (List (Int × Int × Int × List (Int × Int × Int) × List Int × List (List Int))) → Int → Int → Option γ) (v0 : List (Int × Int × Int × List (Int × Int × Int) × List Int × List (List Int))) (v1 : Int) (v2 : Int) : Option γ :=
 lp2 (v0) (v1) (IntKind.i64.wrap (v2 + (1 : Int)))
noncomputable def laws_markPartS_6b8.t2000012 {γ : Type} (ret : (Int × (List (Int × Int × Int × List (Int × Int × Int) × List Int × List (List Int)))) → Option γ) (lp2000003 : (List (Int × Int × Int × List (Int × Int × Int) × List Int × List (List Int))) → Int → Int → Option γ) (lp2000012 : (List (Int × Int × Int × List (Int × Int × Int) × List Int × List (List Int))) → Int → Int → Option γ) (lp2000011 : (List (Int × Int × Int × List (Int × Int × Int) × List Int × List (List Int))) → Int → Int → Option γ) (lp2000010 : (List (Int × Int × Int × List (Int × Int × Int) × List Int × List (List Int))) → Int → Int → Option γ) (lp2000009 : (List (Int × Int × Int × List (Int × Int × Int) × List Int × List (List Int))) → Int → Int → Option γ) (lp2000008 : (List (Int × Int × Int × List (Int × Int × Int) × List Int × List (List Int))) → Int → Int → Option γ) (lp2000007 : (List (Int × Int × Int × List (Int × Int × Int) × List Int × List (List Int))) → Int → Int → Option γ) (lp2000006 : (List (Int × Int × Int × List (Int × Int × Int) × List Int × List (List Int))) → Int → Int → Option γ) (lp2000005 : (List (Int × Int × Int × List (Int × Int × Int) × List Int × List (List Int))) → Int → Int → Option γ) (lp2000004 : (List (Int × Int × Int × List (Int × Int × Int) × List Int × List (List Int))) → Int → Int → Option γ) (lp2 : (List (Int × Int × Int × List (Int × Int × Int) × List Int × List (List Int))) → Int → Int → Option γ) (v0 : List (Int × Int × Int × List (Int × Int × Int) × List Int × List (List Int))) (v1 : Int) (v2 : Int) : Option γ :=
 bif decide ((0 : Int) ≤ v2) then
  bif decide (v2.toNat < v0.length) then
   bif decide (v2.toNat < v0.length) then
    bif decide (v2.toNat < v0.length) then
     (laws_markIntSS_1f6 ((v0.getD v2.toNat ((0 : Int), (0 : Int), (0 : Int), [], [], [])).snd.snd.snd.snd.snd) (v1)).bind fun (r2 : Int × (List (List Int))) =>
     bif decide (v2.toNat = v2.toNat) &&   (decide ((0 : Nat) + (5 : Nat) = (0 : Nat) + (5 : Nat)) &&     decide       ((1 : Nat) + ((1 : Nat) + ((1 : Nat) + ((1 : Nat) + ((1 : Nat) + (1 : Nat))))) =         (1 : Nat) + ((1 : Nat) + ((1 : Nat) + ((1 : Nat) + ((1 : Nat) + (1 : Nat))))))) then
      bif decide (v2.toNat < v0.length) then
       lp2000003 (v0.set v2.toNat   ((v0.getD v2.toNat ((0 : Int), (0 : Int), (0 : Int), [], [], [])).fst,     (v0.getD v2.toNat ((0 : Int), (0 : Int), (0 : Int), [], [], [])).snd.fst,     (v0.getD v2.toNat ((0 : Int), (0 : Int), (0 : Int), [], [], [])).snd.snd.fst,     (v0.getD v2.toNat ((0 : Int), (0 : Int), (0 : Int), [], [], [])).snd.snd.snd.fst,     (v0.getD v2.toNat ((0 : Int), (0 : Int), (0 : Int), [], [], [])).snd.snd.snd.snd.fst, r2.snd)) (r2.fst) (v2)
      else
       none
     else
      none
    else
     none
   else
    none
  else
   none
 else
  none
noncomputable def laws_markPartS_6b8.t2000011 {γ : Type} (ret : (Int × (List (Int × Int × Int × List (Int × Int × Int) × List Int × List (List Int)))) → Option γ) (lp2000003 : (List (Int × Int × Int × List (Int × Int × Int) × List Int × List (List Int))) → Int → Int → Option γ) (lp2000012 : (List (Int × Int × Int × List (Int × Int × Int) × List Int × List (List Int))) → Int → Int → Option γ) (lp2000011 : (List (Int × Int × Int × List (Int × Int × Int) × List Int × List (List Int))) → Int → Int → Option γ) (lp2000010 : (List (Int × Int × Int × List (Int × Int × Int) × List Int × List (List Int))) → Int → Int → Option γ) (lp2000009 : (List (Int × Int × Int × List (Int × Int × Int) × List Int × List (List Int))) → Int → Int → Option γ) (lp2000008 : (List (Int × Int × Int × List (Int × Int × Int) × List Int × List (List Int))) → Int → Int → Option γ) (lp2000007 : (List (Int × Int × Int × List (Int × Int × Int) × List Int × List (List Int))) → Int → Int → Option γ) (lp2000006 : (List (Int × Int × Int × List (Int × Int × Int) × List Int × List (List Int))) → Int → Int → Option γ) (lp2000005 : (List (Int × Int × Int × List (Int × Int × Int) × List Int × List (List Int))) → Int → Int → Option γ) (lp2000004 : (List (Int × Int × Int × List (Int × Int × Int) × List Int × List (List Int))) → Int → Int → Option γ) (lp2 : (List (Int × Int × Int × List (Int × Int × Int) × List Int × List (List Int))) → Int → Int → Option γ) (v0 : List (Int × Int × Int × List (Int × Int × Int) × List Int × List (List Int))) (v1 : Int) (v2 : Int) : Option γ :=
 bif decide ((0 : Int) ≤ v2) then
  bif decide (v2.toNat < v0.length) then
   bif decide (v2.toNat < v0.length) then
    bif decide (v2.toNat < v0.length) then
     (laws_markIntS_83f ((v0.getD v2.toNat ((0 : Int), (0 : Int), (0 : Int), [], [], [])).snd.snd.snd.snd.fst) (v1)).bind fun (r1 : Int × (List Int)) =>
     bif decide (v2.toNat = v2.toNat) &&   (decide ((0 : Nat) + (4 : Nat) = (0 : Nat) + (4 : Nat)) &&     decide       ((1 : Nat) + ((1 : Nat) + ((1 : Nat) + ((1 : Nat) + ((1 : Nat) + (1 : Nat))))) =         (1 : Nat) + ((1 : Nat) + ((1 : Nat) + ((1 : Nat) + ((1 : Nat) + (1 : Nat))))))) then
      bif decide (v2.toNat < v0.length) then
       lp2000012 (v0.set v2.toNat   ((v0.getD v2.toNat ((0 : Int), (0 : Int), (0 : Int), [], [], [])).fst,     (v0.getD v2.toNat ((0 : Int), (0 : Int), (0 : Int), [], [], [])).snd.fst,     (v0.getD v2.toNat ((0 : Int), (0 : Int), (0 : Int), [], [], [])).snd.snd.fst,     (v0.getD v2.toNat ((0 : Int), (0 : Int), (0 : Int), [], [], [])).snd.snd.snd.fst, r1.snd,     (v0.getD v2.toNat ((0 : Int), (0 : Int), (0 : Int), [], [], [])).snd.snd.snd.snd.snd)) (r1.fst) (v2)
      else
       none
     else
      none
    else
     none
   else
    none
  else
   none
 else
  none
noncomputable def laws_markPartS_6b8.t2000010 {γ : Type} (ret : (Int × (List (Int × Int × Int × List (Int × Int × Int) × List Int × List (List Int)))) → Option γ) (lp2000003 : (List (Int × Int × Int × List (Int × Int × Int) × List Int × List (List Int))) → Int → Int → Option γ) (lp2000012 : (List (Int × Int × Int × List (Int × Int × Int) × List Int × List (List Int))) → Int → Int → Option γ) (lp2000011 : (List (Int × Int × Int × List (Int × Int × Int) × List Int × List (List Int))) → Int → Int → Option γ) (lp2000010 : (List (Int × Int × Int × List (Int × Int × Int) × List Int × List (List Int))) → Int → Int → Option γ) (lp2000009 : (List (Int × Int × Int × List (Int × Int × Int) × List Int × List (List Int))) → Int → Int → Option γ) (lp2000008 : (List (Int × Int × Int × List (Int × Int × Int) × List Int × List (List Int))) → Int → Int → Option γ) (lp2000007 : (List (Int × Int × Int × List (Int × Int × Int) × List Int × List (List Int))) → Int → Int → Option γ) (lp2000006 : (List (Int × Int × Int × List (Int × Int × Int) × List Int × List (List Int))) → Int → Int → Option γ) (lp2000005 : (List (Int × Int × Int × List (Int × Int × Int) × List Int × List (List Int))) → Int → Int → Option γ) (lp2000004 : (List (Int × Int × Int × List (Int × Int × Int) × List Int × List (List Int))) → Int → Int → Option γ) (lp2 : (List (Int × Int × Int × List (Int × Int × Int) × List Int × List (List Int))) → Int → Int → Option γ) (v0 : List (Int × Int × Int × List (Int × Int × Int) × List Int × List (List Int))) (v1 : Int) (v2 : Int) : Option γ :=
 bif decide ((0 : Int) ≤ v2) then
  bif decide (v2.toNat < v0.length) then
   bif decide (v2.toNat < v0.length) then
    bif decide (v2.toNat < v0.length) then
     (laws_markTestS_5b1 ((v0.getD v2.toNat ((0 : Int), (0 : Int), (0 : Int), [], [], [])).snd.snd.snd.fst) (v1)).bind fun (r0 : Int × (List (Int × Int × Int))) =>
     bif decide (v2.toNat = v2.toNat) &&   (decide ((0 : Nat) + (3 : Nat) = (0 : Nat) + (3 : Nat)) &&     decide       ((1 : Nat) + ((1 : Nat) + ((1 : Nat) + ((1 : Nat) + ((1 : Nat) + (1 : Nat))))) =         (1 : Nat) + ((1 : Nat) + ((1 : Nat) + ((1 : Nat) + ((1 : Nat) + (1 : Nat))))))) then
      bif decide (v2.toNat < v0.length) then
       lp2000011 (v0.set v2.toNat   ((v0.getD v2.toNat ((0 : Int), (0 : Int), (0 : Int), [], [], [])).fst,     (v0.getD v2.toNat ((0 : Int), (0 : Int), (0 : Int), [], [], [])).snd.fst,     (v0.getD v2.toNat ((0 : Int), (0 : Int), (0 : Int), [], [], [])).snd.snd.fst, r0.snd,     (v0.getD v2.toNat ((0 : Int), (0 : Int), (0 : Int), [], [], [])).snd.snd.snd.snd)) (r0.fst) (v2)
      else
       none
     else
      none
    else
     none
   else
    none
  else
   none
 else
  none
noncomputable def laws_markPartS_6b8.t2000009 {γ : Type} (ret : (Int × (List (Int × Int × Int × List (Int × Int × Int) × List Int × List (List Int)))) → Option γ) (lp2000003 : (List (Int × Int × Int × List (Int × Int × Int) × List Int × List (List Int))) → Int → Int → Option γ) (lp2000012 : (List (Int × Int × Int × List (Int × Int × Int) × List Int × List (List Int))) → Int → Int → Option γ) (lp2000011 : (List (Int × Int × Int × List (Int × Int × Int) × List Int × List (List Int))) → Int → Int → Option γ) (lp2000010 : (List (Int × Int × Int × List (Int × Int × Int) × List Int × List (List Int))) → Int → Int → Option γ) (lp2000009 : (List (Int × Int × Int × List (Int × Int × Int) × List Int × List (List Int))) → Int → Int → Option γ) (lp2000008 : (List (Int × Int × Int × List (Int × Int × Int) × List Int × List (List Int))) → Int → Int → Option γ) (lp2000007 : (List (Int × Int × Int × List (Int × Int × Int) × List Int × List (List Int))) → Int → Int → Option γ) (lp2000006 : (List (Int × Int × Int × List (Int × Int × Int) × List Int × List (List Int))) → Int → Int → Option γ) (lp2000005 : (List (Int × Int × Int × List (Int × Int × Int) × List Int × List (List Int))) → Int → Int → Option γ) (lp2000004 : (List (Int × Int × Int × List (Int × Int × Int) × List Int × List (List Int))) → Int → Int → Option γ) (lp2 : (List (Int × Int × Int × List (Int × Int × Int) × List Int × List (List Int))) → Int → Int → Option γ) (v0 : List (Int × Int × Int × List (Int × Int × Int) × List Int × List (List Int))) (v1 : Int) (v2 : Int) : Option γ :=
 lp2000010 (v0) (IntKind.i64.wrap (v1 + (1 : Int))) (v2)
noncomputable def laws_markPartS_6b8.t2000008 {γ : Type} (ret : (Int × (List (Int × Int × Int × List (Int × Int × Int) × List Int × List (List Int)))) → Option γ) (lp2000003 : (List (Int × Int × Int × List (Int × Int × Int) × List Int × List (List Int))) → Int → Int → Option γ) (lp2000012 : (List (Int × Int × Int × List (Int × Int × Int) × List Int × List (List Int))) → Int → Int → Option γ) (lp2000011 : (List (Int × Int × Int × List (Int × Int × Int) × List Int × List (List Int))) → Int → Int → Option γ) (lp2000010 : (List (Int × Int × Int × List (Int × Int × Int) × List Int × List (List Int))) → Int → Int → Option γ) (lp2000009 : (List (Int × Int × Int × List (Int × Int × Int) × List Int × List (List Int))) → Int → Int → Option γ) (lp2000008 : (List (Int × Int × Int × List (Int × Int × Int) × List Int × List (List Int))) → Int → Int → Option γ) (lp2000007 : (List (Int × Int × Int × List (Int × Int × Int) × List Int × List (List Int))) → Int → Int → Option γ) (lp2000006 : (List (Int × Int × Int × List (Int × Int × Int) × List Int × List (List Int))) → Int → Int → Option γ) (lp2000005 : (List (Int × Int × Int × List (Int × Int × Int) × List Int × List (List Int))) → Int → Int → Option γ) (lp2000004 : (List (Int × Int × Int × List (Int × Int × Int) × List Int × List (List Int))) → Int → Int → Option γ) (lp2 : (List (Int × Int × Int × List (Int × Int × Int) × List Int × List (List Int))) → Int → Int → Option γ) (v0 : List (Int × Int × Int × List (Int × Int × Int) × List Int × List (List Int))) (v1 : Int) (v2 : Int) : Option γ :=
 bif decide ((0 : Int) ≤ v2) then
  bif decide (v2.toNat < v0.length) then
   bif decide (v2.toNat < v0.length) then
    lp2000009 (v0.set v2.toNat   ((v0.getD v2.toNat ((0 : Int), (0 : Int), (0 : Int), [], [], [])).fst,     (v0.getD v2.toNat ((0 : Int), (0 : Int), (0 : Int), [], [], [])).snd.fst, v1,     (v0.getD v2.toNat ((0 : Int), (0 : Int), (0 : Int), [], [], [])).snd.snd.snd)) (v1) (v2)
   else
    none
  else
   none
 else
  none
noncomputable def laws_markPartS_6b8.t2000007 {γ : Type} (ret : (Int × (List (Int × Int × Int × List (Int × Int × Int) × List Int × List (List Int)))) → Option γ) (lp2000003 : (List (Int × Int × Int × List (Int × Int × Int) × List Int × List (List Int))) → Int → Int → Option γ) (lp2000012 : (List (Int × Int × Int × List (Int × Int × Int) × List Int × List (List Int))) → Int → Int → Option γ) (lp2000011 : (List (Int × Int × Int × List (Int × Int × Int) × List Int × List (List Int))) → Int → Int → Option γ) (lp2000010 : (List (Int × Int × Int × List (Int × Int × Int) × List Int × List (List Int))) → Int → Int → Option γ) (lp2000009 : (List (Int × Int × Int × List (Int × Int × Int) × List Int × List (List Int))) → Int → Int → Option γ) (lp2000008 : (List (Int × Int × Int × List (Int × Int × Int) × List Int × List (List Int))) → Int → Int → Option γ) (lp2000007 : (List (Int × Int × Int × List (Int × Int × Int) × List Int × List (List Int))) → Int → Int → Option γ) (lp2000006 : (List (Int × Int × Int × List (Int × Int × Int) × List Int × List (List Int))) → Int → Int → Option γ) (lp2000005 : (List (Int × Int × Int × List (Int × Int × Int) × List Int × List (List Int))) → Int → Int → Option γ) (lp2000004 : (List (Int × Int × Int × List (Int × Int × Int) × List Int × List (List Int))) → Int → Int → Option γ) (lp2 : (List (Int × Int × Int × List (Int × Int × Int) × List Int × List (List Int))) → Int → Int → Option γ) (v0 : List (Int × Int × Int × List (Int × Int × Int) × List Int × List (List Int))) (v1 : Int) (v2 : Int) : Option γ :=
 lp2000008 (v0) (IntKind.i64.wrap (v1 + (1 : Int))) (v2)
noncomputable def laws_markPartS_6b8.t2000006 {γ : Type} (ret : (Int × (List (Int × Int × Int × List (Int × Int × Int) × List Int × List (List Int)))) → Option γ) (lp2000003 : (List (Int × Int × Int × List (Int × Int × Int) × List Int × List (List Int))) → Int → Int → Option γ) (lp2000012 : (List (Int × Int × Int × List (Int × Int × Int) × List Int × List (List Int))) → Int → Int → Option γ) (lp2000011 : (List (Int × Int × Int × List (Int × Int × Int) × List Int × List (List Int))) → Int → Int → Option γ) (lp2000010 : (List (Int × Int × Int × List (Int × Int × Int) × List Int × List (List Int))) → Int → Int → Option γ) (lp2000009 : (List (Int × Int × Int × List (Int × Int × Int) × List Int × List (List Int))) → Int → Int → Option γ) (lp2000008 : (List (Int × Int × Int × List (Int × Int × Int) × List Int × List (List Int))) → Int → Int → Option γ) (lp2000007 : (List (Int × Int × Int × List (Int × Int × Int) × List Int × List (List Int))) → Int → Int → Option γ) (lp2000006 : (List (Int × Int × Int × List (Int × Int × Int) × List Int × List (List Int))) → Int → Int → Option γ) (lp2000005 : (List (Int × Int × Int × List (Int × Int × Int) × List Int × List (List Int))) → Int → Int → Option γ) (lp2000004 : (List (Int × Int × Int × List (Int × Int × Int) × List Int × List (List Int))) → Int → Int → Option γ) (lp2 : (List (Int × Int × Int × List (Int × Int × Int) × List Int × List (List Int))) → Int → Int → Option γ) (v0 : List (Int × Int × Int × List (Int × Int × Int) × List Int × List (List Int))) (v1 : Int) (v2 : Int) : Option γ :=
 bif decide ((0 : Int) ≤ v2) then
  bif decide (v2.toNat < v0.length) then
   bif decide (v2.toNat < v0.length) then
    lp2000007 (v0.set v2.toNat   ((v0.getD v2.toNat ((0 : Int), (0 : Int), (0 : Int), [], [], [])).fst, v1,     (v0.getD v2.toNat ((0 : Int), (0 : Int), (0 : Int), [], [], [])).snd.snd)) (v1) (v2)
   else
    none
  else
   none
 else
  none
noncomputable def laws_markPartS_6b8.t2000005 {γ : Type} (ret : (Int × (List (Int × Int × Int × List (Int × Int × Int) × List Int × List (List Int)))) → Option γ) (lp2000003 : (List (Int × Int × Int × List (Int × Int × Int) × List Int × List (List Int))) → Int → Int → Option γ) (lp2000012 : (List (Int × Int × Int × List (Int × Int × Int) × List Int × List (List Int))) → Int → Int → Option γ) (lp2000011 : (List (Int × Int × Int × List (Int × Int × Int) × List Int × List (List Int))) → Int → Int → Option γ) (lp2000010 : (List (Int × Int × Int × List (Int × Int × Int) × List Int × List (List Int))) → Int → Int → Option γ) (lp2000009 : (List (Int × Int × Int × List (Int × Int × Int) × List Int × List (List Int))) → Int → Int → Option γ) (lp2000008 : (List (Int × Int × Int × List (Int × Int × Int) × List Int × List (List Int))) → Int → Int → Option γ) (lp2000007 : (List (Int × Int × Int × List (Int × Int × Int) × List Int × List (List Int))) → Int → Int → Option γ) (lp2000006 : (List (Int × Int × Int × List (Int × Int × Int) × List Int × List (List Int))) → Int → Int → Option γ) (lp2000005 : (List (Int × Int × Int × List (Int × Int × Int) × List Int × List (List Int))) → Int → Int → Option γ) (lp2000004 : (List (Int × Int × Int × List (Int × Int × Int) × List Int × List (List Int))) → Int → Int → Option γ) (lp2 : (List (Int × Int × Int × List (Int × Int × Int) × List Int × List (List Int))) → Int → Int → Option γ) (v0 : List (Int × Int × Int × List (Int × Int × Int) × List Int × List (List Int))) (v1 : Int) (v2 : Int) : Option γ :=
 lp2000006 (v0) (IntKind.i64.wrap (v1 + (1 : Int))) (v2)
noncomputable def laws_markPartS_6b8.t2000004 {γ : Type} (ret : (Int × (List (Int × Int × Int × List (Int × Int × Int) × List Int × List (List Int)))) → Option γ) (lp2000003 : (List (Int × Int × Int × List (Int × Int × Int) × List Int × List (List Int))) → Int → Int → Option γ) (lp2000012 : (List (Int × Int × Int × List (Int × Int × Int) × List Int × List (List Int))) → Int → Int → Option γ) (lp2000011 : (List (Int × Int × Int × List (Int × Int × Int) × List Int × List (List Int))) → Int → Int → Option γ) (lp2000010 : (List (Int × Int × Int × List (Int × Int × Int) × List Int × List (List Int))) → Int → Int → Option γ) (lp2000009 : (List (Int × Int × Int × List (Int × Int × Int) × List Int × List (List Int))) → Int → Int → Option γ) (lp2000008 : (List (Int × Int × Int × List (Int × Int × Int) × List Int × List (List Int))) → Int → Int → Option γ) (lp2000007 : (List (Int × Int × Int × List (Int × Int × Int) × List Int × List (List Int))) → Int → Int → Option γ) (lp2000006 : (List (Int × Int × Int × List (Int × Int × Int) × List Int × List (List Int))) → Int → Int → Option γ) (lp2000005 : (List (Int × Int × Int × List (Int × Int × Int) × List Int × List (List Int))) → Int → Int → Option γ) (lp2000004 : (List (Int × Int × Int × List (Int × Int × Int) × List Int × List (List Int))) → Int → Int → Option γ) (lp2 : (List (Int × Int × Int × List (Int × Int × Int) × List Int × List (List Int))) → Int → Int → Option γ) (v0 : List (Int × Int × Int × List (Int × Int × Int) × List Int × List (List Int))) (v1 : Int) (v2 : Int) : Option γ :=
 bif decide ((0 : Int) ≤ v2) then
  bif decide (v2.toNat < v0.length) then
   bif decide (v2.toNat < v0.length) then
    lp2000005 (v0.set v2.toNat (v1, (v0.getD v2.toNat ((0 : Int), (0 : Int), (0 : Int), [], [], [])).snd)) (v1) (v2)
   else
    none
  else
   none
 else
  none
noncomputable def laws_markPartS_6b8.t2 {γ : Type} (ret : (Int × (List (Int × Int × Int × List (Int × Int × Int) × List Int × List (List Int)))) → Option γ) (lp2000003 : (List (Int × Int × Int × List (Int × Int × Int) × List Int × List (List Int))) → Int → Int → Option γ) (lp2000012 : (List (Int × Int × Int × List (Int × Int × Int) × List Int × List (List Int))) → Int → Int → Option γ) (lp2000011 : (List (Int × Int × Int × List (Int × Int × Int) × List Int × List (List Int))) → Int → Int → Option γ) (lp2000010 : (List (Int × Int × Int × List (Int × Int × Int) × List Int × List (List Int))) → Int → Int → Option γ) (lp2000009 : (List (Int × Int × Int × List (Int × Int × Int) × List Int × List (List Int))) → Int → Int → Option γ) (lp2000008 : (List (Int × Int × Int × List (Int × Int × Int) × List Int × List (List Int))) → Int → Int → Option γ) (lp2000007 : (List (Int × Int × Int × List (Int × Int × Int) × List Int × List (List Int))) → Int → Int → Option γ) (lp2000006 : (List (Int × Int × Int × List (Int × Int × Int) × List Int × List (List Int))) → Int → Int → Option γ) (lp2000005 : (List (Int × Int × Int × List (Int × Int × Int) × List Int × List (List Int))) → Int → Int → Option γ) (lp2000004 : (List (Int × Int × Int × List (Int × Int × Int) × List Int × List (List Int))) → Int → Int → Option γ) (lp2 : (List (Int × Int × Int × List (Int × Int × Int) × List Int × List (List Int))) → Int → Int → Option γ) (v0 : List (Int × Int × Int × List (Int × Int × Int) × List Int × List (List Int))) (v1 : Int) (v2 : Int) : Option γ :=
 bif decide (v2 < (↑v0.length : Int)) then
  lp2000004 (v0) (v1) (v2)
 else
  ret (v1, v0)
theorem laws_markPartS_6b8.k (v0 : List (Int × Int × Int × List (Int × Int × Int) × List Int × List (List Int))) (v1 : Int) : topL E (callT E tab) 24 Try.f24 (laws_markPartS_6b8.c v0 v1) = laws_markPartS_6b8.t (fun b => some (laws_markPartS_6b8.mk b)) laws_markPartS_6b8.q2000003 laws_markPartS_6b8.q2000012 laws_markPartS_6b8.q2000011 laws_markPartS_6b8.q2000010 laws_markPartS_6b8.q2000009 laws_markPartS_6b8.q2000008 laws_markPartS_6b8.q2000007 laws_markPartS_6b8.q2000006 laws_markPartS_6b8.q2000005 laws_markPartS_6b8.q2000004 laws_markPartS_6b8.q2 v0 v1 := by kernel_rfl
theorem laws_markPartS_6b8.k2000003 (v0 : List (Int × Int × Int × List (Int × Int × Int) × List Int × List (List Int))) (v1 : Int) (v2 : Int) : roundJ E (callT E tab) 24 Try.f24 2 [.r, .l, .r, .b, .o, .r, .r] (⟨(.val .one), [.d .deep (.sl (.pair (.int .i64) (.pair (.int .i64) (.pair (.int .i64) (.pair (.sl (.pair (.int .i64) (.pair (.int .i64) (.int .i64)))) (.pair (.sl (.int .i64)) (.sl (.sl (.int .i64))))))))) v0], true, false, false, 0, 0⟩ :: vc (iL v1) :: nn 3 (vc (iL v2) :: nn 49 ([]))) = laws_markPartS_6b8.t2000003 (fun b => some (laws_markPartS_6b8.mk b)) laws_markPartS_6b8.q2000003 laws_markPartS_6b8.q2000012 laws_markPartS_6b8.q2000011 laws_markPartS_6b8.q2000010 laws_markPartS_6b8.q2000009 laws_markPartS_6b8.q2000008 laws_markPartS_6b8.q2000007 laws_markPartS_6b8.q2000006 laws_markPartS_6b8.q2000005 laws_markPartS_6b8.q2000004 laws_markPartS_6b8.q2 v0 v1 v2 := by kernel_rfl
theorem laws_markPartS_6b8.k2000012 (v0 : List (Int × Int × Int × List (Int × Int × Int) × List Int × List (List Int))) (v1 : Int) (v2 : Int) : roundJ E (callT E tab) 24 Try.f24 2 [.r, .l, .r, .b, .o, .r, .l, .b, .r, .r, .r, .r, .r, .r, .r, .r] (⟨(.val .one), [.d .deep (.sl (.pair (.int .i64) (.pair (.int .i64) (.pair (.int .i64) (.pair (.sl (.pair (.int .i64) (.pair (.int .i64) (.int .i64)))) (.pair (.sl (.int .i64)) (.sl (.sl (.int .i64))))))))) v0], true, false, false, 0, 0⟩ :: vc (iL v1) :: nn 3 (vc (iL v2) :: nn 49 ([]))) = laws_markPartS_6b8.t2000012 (fun b => some (laws_markPartS_6b8.mk b)) laws_markPartS_6b8.q2000003 laws_markPartS_6b8.q2000012 laws_markPartS_6b8.q2000011 laws_markPartS_6b8.q2000010 laws_markPartS_6b8.q2000009 laws_markPartS_6b8.q2000008 laws_markPartS_6b8.q2000007 laws_markPartS_6b8.q2000006 laws_markPartS_6b8.q2000005 laws_markPartS_6b8.q2000004 laws_markPartS_6b8.q2 v0 v1 v2 := by kernel_rfl
theorem laws_markPartS_6b8.k2000011 (v0 : List (Int × Int × Int × List (Int × Int × Int) × List Int × List (List Int))) (v1 : Int) (v2 : Int) : roundJ E (callT E tab) 24 Try.f24 2 [.r, .l, .r, .b, .o, .r, .l, .b, .r, .r, .r, .r, .r, .r, .r, .l] (⟨(.val .one), [.d .deep (.sl (.pair (.int .i64) (.pair (.int .i64) (.pair (.int .i64) (.pair (.sl (.pair (.int .i64) (.pair (.int .i64) (.int .i64)))) (.pair (.sl (.int .i64)) (.sl (.sl (.int .i64))))))))) v0], true, false, false, 0, 0⟩ :: vc (iL v1) :: nn 3 (vc (iL v2) :: nn 49 ([]))) = laws_markPartS_6b8.t2000011 (fun b => some (laws_markPartS_6b8.mk b)) laws_markPartS_6b8.q2000003 laws_markPartS_6b8.q2000012 laws_markPartS_6b8.q2000011 laws_markPartS_6b8.q2000010 laws_markPartS_6b8.q2000009 laws_markPartS_6b8.q2000008 laws_markPartS_6b8.q2000007 laws_markPartS_6b8.q2000006 laws_markPartS_6b8.q2000005 laws_markPartS_6b8.q2000004 laws_markPartS_6b8.q2 v0 v1 v2 := by kernel_rfl
theorem laws_markPartS_6b8.k2000010 (v0 : List (Int × Int × Int × List (Int × Int × Int) × List Int × List (List Int))) (v1 : Int) (v2 : Int) : roundJ E (callT E tab) 24 Try.f24 2 [.r, .l, .r, .b, .o, .r, .l, .b, .r, .r, .r, .r, .r, .r, .l] (⟨(.val .one), [.d .deep (.sl (.pair (.int .i64) (.pair (.int .i64) (.pair (.int .i64) (.pair (.sl (.pair (.int .i64) (.pair (.int .i64) (.int .i64)))) (.pair (.sl (.int .i64)) (.sl (.sl (.int .i64))))))))) v0], true, false, false, 0, 0⟩ :: vc (iL v1) :: nn 3 (vc (iL v2) :: nn 49 ([]))) = laws_markPartS_6b8.t2000010 (fun b => some (laws_markPartS_6b8.mk b)) laws_markPartS_6b8.q2000003 laws_markPartS_6b8.q2000012 laws_markPartS_6b8.q2000011 laws_markPartS_6b8.q2000010 laws_markPartS_6b8.q2000009 laws_markPartS_6b8.q2000008 laws_markPartS_6b8.q2000007 laws_markPartS_6b8.q2000006 laws_markPartS_6b8.q2000005 laws_markPartS_6b8.q2000004 laws_markPartS_6b8.q2 v0 v1 v2 := by kernel_rfl
theorem laws_markPartS_6b8.k2000009 (v0 : List (Int × Int × Int × List (Int × Int × Int) × List Int × List (List Int))) (v1 : Int) (v2 : Int) : roundJ E (callT E tab) 24 Try.f24 2 [.r, .l, .r, .b, .o, .r, .l, .b, .r, .r, .r, .r, .r, .l] (⟨(.val .one), [.d .deep (.sl (.pair (.int .i64) (.pair (.int .i64) (.pair (.int .i64) (.pair (.sl (.pair (.int .i64) (.pair (.int .i64) (.int .i64)))) (.pair (.sl (.int .i64)) (.sl (.sl (.int .i64))))))))) v0], true, false, false, 0, 0⟩ :: vc (iL v1) :: nn 3 (vc (iL v2) :: nn 49 ([]))) = laws_markPartS_6b8.t2000009 (fun b => some (laws_markPartS_6b8.mk b)) laws_markPartS_6b8.q2000003 laws_markPartS_6b8.q2000012 laws_markPartS_6b8.q2000011 laws_markPartS_6b8.q2000010 laws_markPartS_6b8.q2000009 laws_markPartS_6b8.q2000008 laws_markPartS_6b8.q2000007 laws_markPartS_6b8.q2000006 laws_markPartS_6b8.q2000005 laws_markPartS_6b8.q2000004 laws_markPartS_6b8.q2 v0 v1 v2 := by kernel_rfl
theorem laws_markPartS_6b8.k2000008 (v0 : List (Int × Int × Int × List (Int × Int × Int) × List Int × List (List Int))) (v1 : Int) (v2 : Int) : roundJ E (callT E tab) 24 Try.f24 2 [.r, .l, .r, .b, .o, .r, .l, .b, .r, .r, .r, .r, .l] (⟨(.val .one), [.d .deep (.sl (.pair (.int .i64) (.pair (.int .i64) (.pair (.int .i64) (.pair (.sl (.pair (.int .i64) (.pair (.int .i64) (.int .i64)))) (.pair (.sl (.int .i64)) (.sl (.sl (.int .i64))))))))) v0], true, false, false, 0, 0⟩ :: vc (iL v1) :: nn 3 (vc (iL v2) :: nn 49 ([]))) = laws_markPartS_6b8.t2000008 (fun b => some (laws_markPartS_6b8.mk b)) laws_markPartS_6b8.q2000003 laws_markPartS_6b8.q2000012 laws_markPartS_6b8.q2000011 laws_markPartS_6b8.q2000010 laws_markPartS_6b8.q2000009 laws_markPartS_6b8.q2000008 laws_markPartS_6b8.q2000007 laws_markPartS_6b8.q2000006 laws_markPartS_6b8.q2000005 laws_markPartS_6b8.q2000004 laws_markPartS_6b8.q2 v0 v1 v2 := by kernel_rfl
theorem laws_markPartS_6b8.k2000007 (v0 : List (Int × Int × Int × List (Int × Int × Int) × List Int × List (List Int))) (v1 : Int) (v2 : Int) : roundJ E (callT E tab) 24 Try.f24 2 [.r, .l, .r, .b, .o, .r, .l, .b, .r, .r, .r, .l] (⟨(.val .one), [.d .deep (.sl (.pair (.int .i64) (.pair (.int .i64) (.pair (.int .i64) (.pair (.sl (.pair (.int .i64) (.pair (.int .i64) (.int .i64)))) (.pair (.sl (.int .i64)) (.sl (.sl (.int .i64))))))))) v0], true, false, false, 0, 0⟩ :: vc (iL v1) :: nn 3 (vc (iL v2) :: nn 49 ([]))) = laws_markPartS_6b8.t2000007 (fun b => some (laws_markPartS_6b8.mk b)) laws_markPartS_6b8.q2000003 laws_markPartS_6b8.q2000012 laws_markPartS_6b8.q2000011 laws_markPartS_6b8.q2000010 laws_markPartS_6b8.q2000009 laws_markPartS_6b8.q2000008 laws_markPartS_6b8.q2000007 laws_markPartS_6b8.q2000006 laws_markPartS_6b8.q2000005 laws_markPartS_6b8.q2000004 laws_markPartS_6b8.q2 v0 v1 v2 := by kernel_rfl
theorem laws_markPartS_6b8.k2000006 (v0 : List (Int × Int × Int × List (Int × Int × Int) × List Int × List (List Int))) (v1 : Int) (v2 : Int) : roundJ E (callT E tab) 24 Try.f24 2 [.r, .l, .r, .b, .o, .r, .l, .b, .r, .r, .l] (⟨(.val .one), [.d .deep (.sl (.pair (.int .i64) (.pair (.int .i64) (.pair (.int .i64) (.pair (.sl (.pair (.int .i64) (.pair (.int .i64) (.int .i64)))) (.pair (.sl (.int .i64)) (.sl (.sl (.int .i64))))))))) v0], true, false, false, 0, 0⟩ :: vc (iL v1) :: nn 3 (vc (iL v2) :: nn 49 ([]))) = laws_markPartS_6b8.t2000006 (fun b => some (laws_markPartS_6b8.mk b)) laws_markPartS_6b8.q2000003 laws_markPartS_6b8.q2000012 laws_markPartS_6b8.q2000011 laws_markPartS_6b8.q2000010 laws_markPartS_6b8.q2000009 laws_markPartS_6b8.q2000008 laws_markPartS_6b8.q2000007 laws_markPartS_6b8.q2000006 laws_markPartS_6b8.q2000005 laws_markPartS_6b8.q2000004 laws_markPartS_6b8.q2 v0 v1 v2 := by kernel_rfl
theorem laws_markPartS_6b8.k2000005 (v0 : List (Int × Int × Int × List (Int × Int × Int) × List Int × List (List Int))) (v1 : Int) (v2 : Int) : roundJ E (callT E tab) 24 Try.f24 2 [.r, .l, .r, .b, .o, .r, .l, .b, .r, .l] (⟨(.val .one), [.d .deep (.sl (.pair (.int .i64) (.pair (.int .i64) (.pair (.int .i64) (.pair (.sl (.pair (.int .i64) (.pair (.int .i64) (.int .i64)))) (.pair (.sl (.int .i64)) (.sl (.sl (.int .i64))))))))) v0], true, false, false, 0, 0⟩ :: vc (iL v1) :: nn 3 (vc (iL v2) :: nn 49 ([]))) = laws_markPartS_6b8.t2000005 (fun b => some (laws_markPartS_6b8.mk b)) laws_markPartS_6b8.q2000003 laws_markPartS_6b8.q2000012 laws_markPartS_6b8.q2000011 laws_markPartS_6b8.q2000010 laws_markPartS_6b8.q2000009 laws_markPartS_6b8.q2000008 laws_markPartS_6b8.q2000007 laws_markPartS_6b8.q2000006 laws_markPartS_6b8.q2000005 laws_markPartS_6b8.q2000004 laws_markPartS_6b8.q2 v0 v1 v2 := by kernel_rfl
theorem laws_markPartS_6b8.k2000004 (v0 : List (Int × Int × Int × List (Int × Int × Int) × List Int × List (List Int))) (v1 : Int) (v2 : Int) : roundJ E (callT E tab) 24 Try.f24 2 [.r, .l, .r, .b, .o, .r, .l, .b, .l] (⟨(.val .one), [.d .deep (.sl (.pair (.int .i64) (.pair (.int .i64) (.pair (.int .i64) (.pair (.sl (.pair (.int .i64) (.pair (.int .i64) (.int .i64)))) (.pair (.sl (.int .i64)) (.sl (.sl (.int .i64))))))))) v0], true, false, false, 0, 0⟩ :: vc (iL v1) :: nn 3 (vc (iL v2) :: nn 49 ([]))) = laws_markPartS_6b8.t2000004 (fun b => some (laws_markPartS_6b8.mk b)) laws_markPartS_6b8.q2000003 laws_markPartS_6b8.q2000012 laws_markPartS_6b8.q2000011 laws_markPartS_6b8.q2000010 laws_markPartS_6b8.q2000009 laws_markPartS_6b8.q2000008 laws_markPartS_6b8.q2000007 laws_markPartS_6b8.q2000006 laws_markPartS_6b8.q2000005 laws_markPartS_6b8.q2000004 laws_markPartS_6b8.q2 v0 v1 v2 := by kernel_rfl
theorem laws_markPartS_6b8.k2 (v0 : List (Int × Int × Int × List (Int × Int × Int) × List Int × List (List Int))) (v1 : Int) (v2 : Int) : roundL E (callT E tab) 24 Try.f24 2 [.r, .l, .r, .b] (⟨(.val .one), [.d .deep (.sl (.pair (.int .i64) (.pair (.int .i64) (.pair (.int .i64) (.pair (.sl (.pair (.int .i64) (.pair (.int .i64) (.int .i64)))) (.pair (.sl (.int .i64)) (.sl (.sl (.int .i64))))))))) v0], true, false, false, 0, 0⟩ :: vc (iL v1) :: nn 3 (vc (iL v2) :: nn 49 ([]))) = laws_markPartS_6b8.t2 (fun b => some (laws_markPartS_6b8.mk b)) laws_markPartS_6b8.q2000003 laws_markPartS_6b8.q2000012 laws_markPartS_6b8.q2000011 laws_markPartS_6b8.q2000010 laws_markPartS_6b8.q2000009 laws_markPartS_6b8.q2000008 laws_markPartS_6b8.q2000007 laws_markPartS_6b8.q2000006 laws_markPartS_6b8.q2000005 laws_markPartS_6b8.q2000004 laws_markPartS_6b8.q2 v0 v1 v2 := by kernel_rfl
theorem laws_markPartS_6b8.eq (v0 : List (Int × Int × Int × List (Int × Int × Int) × List Int × List (List Int))) (v1 : Int) {b : Int × (List (Int × Int × Int × List (Int × Int × Int) × List Int × List (List Int)))} (h : laws_markPartS_6b8.t some laws_markPartS_6b8.l2000003 laws_markPartS_6b8.l2000012 laws_markPartS_6b8.l2000011 laws_markPartS_6b8.l2000010 laws_markPartS_6b8.l2000009 laws_markPartS_6b8.l2000008 laws_markPartS_6b8.l2000007 laws_markPartS_6b8.l2000006 laws_markPartS_6b8.l2000005 laws_markPartS_6b8.l2000004 laws_markPartS_6b8.l2 v0 v1 = some b) : laws_markPartS_6b8 v0 v1 = some b := tOf_intro laws_markPartS_6b8.un (fun _ => by kernel_rfl) (vlim_fn (callT_le E tab) rfl rfl rfl ((laws_markPartS_6b8.k v0 v1).trans ((by unfold laws_markPartS_6b8.t; repeat' first | exact Sub.ret | exact Sub.none | exact Sub.loop | apply Sub.cond | (apply Sub.bind; intro _) : Sub laws_markPartS_6b8.mk _ _) b h)))
theorem laws_markPartS_6b8.eq2000003 (v0 : List (Int × Int × Int × List (Int × Int × Int) × List Int × List (List Int))) (v1 : Int) (v2 : Int) {b : Int × (List (Int × Int × Int × List (Int × Int × Int) × List Int × List (List Int)))} (h : laws_markPartS_6b8.t2000003 some laws_markPartS_6b8.l2000003 laws_markPartS_6b8.l2000012 laws_markPartS_6b8.l2000011 laws_markPartS_6b8.l2000010 laws_markPartS_6b8.l2000009 laws_markPartS_6b8.l2000008 laws_markPartS_6b8.l2000007 laws_markPartS_6b8.l2000006 laws_markPartS_6b8.l2000005 laws_markPartS_6b8.l2000004 laws_markPartS_6b8.l2 v0 v1 v2 = some b) : laws_markPartS_6b8.l2000003 v0 v1 v2 = some b := tOf_intro laws_markPartS_6b8.un (fun _ => by kernel_rfl) (joinAtL_step ((laws_markPartS_6b8.k2000003 v0 v1 v2).trans ((by unfold laws_markPartS_6b8.t2000003; repeat' first | exact Sub.ret | exact Sub.none | exact Sub.loop | apply Sub.cond | (apply Sub.bind; intro _) : Sub laws_markPartS_6b8.mk _ _) b h)))
theorem laws_markPartS_6b8.eq2000012 (v0 : List (Int × Int × Int × List (Int × Int × Int) × List Int × List (List Int))) (v1 : Int) (v2 : Int) {b : Int × (List (Int × Int × Int × List (Int × Int × Int) × List Int × List (List Int)))} (h : laws_markPartS_6b8.t2000012 some laws_markPartS_6b8.l2000003 laws_markPartS_6b8.l2000012 laws_markPartS_6b8.l2000011 laws_markPartS_6b8.l2000010 laws_markPartS_6b8.l2000009 laws_markPartS_6b8.l2000008 laws_markPartS_6b8.l2000007 laws_markPartS_6b8.l2000006 laws_markPartS_6b8.l2000005 laws_markPartS_6b8.l2000004 laws_markPartS_6b8.l2 v0 v1 v2 = some b) : laws_markPartS_6b8.l2000012 v0 v1 v2 = some b := tOf_intro laws_markPartS_6b8.un (fun _ => by kernel_rfl) (joinAtL_step ((laws_markPartS_6b8.k2000012 v0 v1 v2).trans ((by unfold laws_markPartS_6b8.t2000012; repeat' first | exact Sub.ret | exact Sub.none | exact Sub.loop | apply Sub.cond | (apply Sub.bind; intro _) : Sub laws_markPartS_6b8.mk _ _) b h)))
theorem laws_markPartS_6b8.eq2000011 (v0 : List (Int × Int × Int × List (Int × Int × Int) × List Int × List (List Int))) (v1 : Int) (v2 : Int) {b : Int × (List (Int × Int × Int × List (Int × Int × Int) × List Int × List (List Int)))} (h : laws_markPartS_6b8.t2000011 some laws_markPartS_6b8.l2000003 laws_markPartS_6b8.l2000012 laws_markPartS_6b8.l2000011 laws_markPartS_6b8.l2000010 laws_markPartS_6b8.l2000009 laws_markPartS_6b8.l2000008 laws_markPartS_6b8.l2000007 laws_markPartS_6b8.l2000006 laws_markPartS_6b8.l2000005 laws_markPartS_6b8.l2000004 laws_markPartS_6b8.l2 v0 v1 v2 = some b) : laws_markPartS_6b8.l2000011 v0 v1 v2 = some b := tOf_intro laws_markPartS_6b8.un (fun _ => by kernel_rfl) (joinAtL_step ((laws_markPartS_6b8.k2000011 v0 v1 v2).trans ((by unfold laws_markPartS_6b8.t2000011; repeat' first | exact Sub.ret | exact Sub.none | exact Sub.loop | apply Sub.cond | (apply Sub.bind; intro _) : Sub laws_markPartS_6b8.mk _ _) b h)))
theorem laws_markPartS_6b8.eq2000010 (v0 : List (Int × Int × Int × List (Int × Int × Int) × List Int × List (List Int))) (v1 : Int) (v2 : Int) {b : Int × (List (Int × Int × Int × List (Int × Int × Int) × List Int × List (List Int)))} (h : laws_markPartS_6b8.t2000010 some laws_markPartS_6b8.l2000003 laws_markPartS_6b8.l2000012 laws_markPartS_6b8.l2000011 laws_markPartS_6b8.l2000010 laws_markPartS_6b8.l2000009 laws_markPartS_6b8.l2000008 laws_markPartS_6b8.l2000007 laws_markPartS_6b8.l2000006 laws_markPartS_6b8.l2000005 laws_markPartS_6b8.l2000004 laws_markPartS_6b8.l2 v0 v1 v2 = some b) : laws_markPartS_6b8.l2000010 v0 v1 v2 = some b := tOf_intro laws_markPartS_6b8.un (fun _ => by kernel_rfl) (joinAtL_step ((laws_markPartS_6b8.k2000010 v0 v1 v2).trans ((by unfold laws_markPartS_6b8.t2000010; repeat' first | exact Sub.ret | exact Sub.none | exact Sub.loop | apply Sub.cond | (apply Sub.bind; intro _) : Sub laws_markPartS_6b8.mk _ _) b h)))
theorem laws_markPartS_6b8.eq2000009 (v0 : List (Int × Int × Int × List (Int × Int × Int) × List Int × List (List Int))) (v1 : Int) (v2 : Int) {b : Int × (List (Int × Int × Int × List (Int × Int × Int) × List Int × List (List Int)))} (h : laws_markPartS_6b8.t2000009 some laws_markPartS_6b8.l2000003 laws_markPartS_6b8.l2000012 laws_markPartS_6b8.l2000011 laws_markPartS_6b8.l2000010 laws_markPartS_6b8.l2000009 laws_markPartS_6b8.l2000008 laws_markPartS_6b8.l2000007 laws_markPartS_6b8.l2000006 laws_markPartS_6b8.l2000005 laws_markPartS_6b8.l2000004 laws_markPartS_6b8.l2 v0 v1 v2 = some b) : laws_markPartS_6b8.l2000009 v0 v1 v2 = some b := tOf_intro laws_markPartS_6b8.un (fun _ => by kernel_rfl) (joinAtL_step ((laws_markPartS_6b8.k2000009 v0 v1 v2).trans ((by unfold laws_markPartS_6b8.t2000009; repeat' first | exact Sub.ret | exact Sub.none | exact Sub.loop | apply Sub.cond | (apply Sub.bind; intro _) : Sub laws_markPartS_6b8.mk _ _) b h)))
theorem laws_markPartS_6b8.eq2000008 (v0 : List (Int × Int × Int × List (Int × Int × Int) × List Int × List (List Int))) (v1 : Int) (v2 : Int) {b : Int × (List (Int × Int × Int × List (Int × Int × Int) × List Int × List (List Int)))} (h : laws_markPartS_6b8.t2000008 some laws_markPartS_6b8.l2000003 laws_markPartS_6b8.l2000012 laws_markPartS_6b8.l2000011 laws_markPartS_6b8.l2000010 laws_markPartS_6b8.l2000009 laws_markPartS_6b8.l2000008 laws_markPartS_6b8.l2000007 laws_markPartS_6b8.l2000006 laws_markPartS_6b8.l2000005 laws_markPartS_6b8.l2000004 laws_markPartS_6b8.l2 v0 v1 v2 = some b) : laws_markPartS_6b8.l2000008 v0 v1 v2 = some b := tOf_intro laws_markPartS_6b8.un (fun _ => by kernel_rfl) (joinAtL_step ((laws_markPartS_6b8.k2000008 v0 v1 v2).trans ((by unfold laws_markPartS_6b8.t2000008; repeat' first | exact Sub.ret | exact Sub.none | exact Sub.loop | apply Sub.cond | (apply Sub.bind; intro _) : Sub laws_markPartS_6b8.mk _ _) b h)))
theorem laws_markPartS_6b8.eq2000007 (v0 : List (Int × Int × Int × List (Int × Int × Int) × List Int × List (List Int))) (v1 : Int) (v2 : Int) {b : Int × (List (Int × Int × Int × List (Int × Int × Int) × List Int × List (List Int)))} (h : laws_markPartS_6b8.t2000007 some laws_markPartS_6b8.l2000003 laws_markPartS_6b8.l2000012 laws_markPartS_6b8.l2000011 laws_markPartS_6b8.l2000010 laws_markPartS_6b8.l2000009 laws_markPartS_6b8.l2000008 laws_markPartS_6b8.l2000007 laws_markPartS_6b8.l2000006 laws_markPartS_6b8.l2000005 laws_markPartS_6b8.l2000004 laws_markPartS_6b8.l2 v0 v1 v2 = some b) : laws_markPartS_6b8.l2000007 v0 v1 v2 = some b := tOf_intro laws_markPartS_6b8.un (fun _ => by kernel_rfl) (joinAtL_step ((laws_markPartS_6b8.k2000007 v0 v1 v2).trans ((by unfold laws_markPartS_6b8.t2000007; repeat' first | exact Sub.ret | exact Sub.none | exact Sub.loop | apply Sub.cond | (apply Sub.bind; intro _) : Sub laws_markPartS_6b8.mk _ _) b h)))
theorem laws_markPartS_6b8.eq2000006 (v0 : List (Int × Int × Int × List (Int × Int × Int) × List Int × List (List Int))) (v1 : Int) (v2 : Int) {b : Int × (List (Int × Int × Int × List (Int × Int × Int) × List Int × List (List Int)))} (h : laws_markPartS_6b8.t2000006 some laws_markPartS_6b8.l2000003 laws_markPartS_6b8.l2000012 laws_markPartS_6b8.l2000011 laws_markPartS_6b8.l2000010 laws_markPartS_6b8.l2000009 laws_markPartS_6b8.l2000008 laws_markPartS_6b8.l2000007 laws_markPartS_6b8.l2000006 laws_markPartS_6b8.l2000005 laws_markPartS_6b8.l2000004 laws_markPartS_6b8.l2 v0 v1 v2 = some b) : laws_markPartS_6b8.l2000006 v0 v1 v2 = some b := tOf_intro laws_markPartS_6b8.un (fun _ => by kernel_rfl) (joinAtL_step ((laws_markPartS_6b8.k2000006 v0 v1 v2).trans ((by unfold laws_markPartS_6b8.t2000006; repeat' first | exact Sub.ret | exact Sub.none | exact Sub.loop | apply Sub.cond | (apply Sub.bind; intro _) : Sub laws_markPartS_6b8.mk _ _) b h)))
theorem laws_markPartS_6b8.eq2000005 (v0 : List (Int × Int × Int × List (Int × Int × Int) × List Int × List (List Int))) (v1 : Int) (v2 : Int) {b : Int × (List (Int × Int × Int × List (Int × Int × Int) × List Int × List (List Int)))} (h : laws_markPartS_6b8.t2000005 some laws_markPartS_6b8.l2000003 laws_markPartS_6b8.l2000012 laws_markPartS_6b8.l2000011 laws_markPartS_6b8.l2000010 laws_markPartS_6b8.l2000009 laws_markPartS_6b8.l2000008 laws_markPartS_6b8.l2000007 laws_markPartS_6b8.l2000006 laws_markPartS_6b8.l2000005 laws_markPartS_6b8.l2000004 laws_markPartS_6b8.l2 v0 v1 v2 = some b) : laws_markPartS_6b8.l2000005 v0 v1 v2 = some b := tOf_intro laws_markPartS_6b8.un (fun _ => by kernel_rfl) (joinAtL_step ((laws_markPartS_6b8.k2000005 v0 v1 v2).trans ((by unfold laws_markPartS_6b8.t2000005; repeat' first | exact Sub.ret | exact Sub.none | exact Sub.loop | apply Sub.cond | (apply Sub.bind; intro _) : Sub laws_markPartS_6b8.mk _ _) b h)))
theorem laws_markPartS_6b8.eq2000004 (v0 : List (Int × Int × Int × List (Int × Int × Int) × List Int × List (List Int))) (v1 : Int) (v2 : Int) {b : Int × (List (Int × Int × Int × List (Int × Int × Int) × List Int × List (List Int)))} (h : laws_markPartS_6b8.t2000004 some laws_markPartS_6b8.l2000003 laws_markPartS_6b8.l2000012 laws_markPartS_6b8.l2000011 laws_markPartS_6b8.l2000010 laws_markPartS_6b8.l2000009 laws_markPartS_6b8.l2000008 laws_markPartS_6b8.l2000007 laws_markPartS_6b8.l2000006 laws_markPartS_6b8.l2000005 laws_markPartS_6b8.l2000004 laws_markPartS_6b8.l2 v0 v1 v2 = some b) : laws_markPartS_6b8.l2000004 v0 v1 v2 = some b := tOf_intro laws_markPartS_6b8.un (fun _ => by kernel_rfl) (joinAtL_step ((laws_markPartS_6b8.k2000004 v0 v1 v2).trans ((by unfold laws_markPartS_6b8.t2000004; repeat' first | exact Sub.ret | exact Sub.none | exact Sub.loop | apply Sub.cond | (apply Sub.bind; intro _) : Sub laws_markPartS_6b8.mk _ _) b h)))
theorem laws_markPartS_6b8.eq2 (v0 : List (Int × Int × Int × List (Int × Int × Int) × List Int × List (List Int))) (v1 : Int) (v2 : Int) {b : Int × (List (Int × Int × Int × List (Int × Int × Int) × List Int × List (List Int)))} (h : laws_markPartS_6b8.t2 some laws_markPartS_6b8.l2000003 laws_markPartS_6b8.l2000012 laws_markPartS_6b8.l2000011 laws_markPartS_6b8.l2000010 laws_markPartS_6b8.l2000009 laws_markPartS_6b8.l2000008 laws_markPartS_6b8.l2000007 laws_markPartS_6b8.l2000006 laws_markPartS_6b8.l2000005 laws_markPartS_6b8.l2000004 laws_markPartS_6b8.l2 v0 v1 v2 = some b) : laws_markPartS_6b8.l2 v0 v1 v2 = some b := tOf_intro laws_markPartS_6b8.un (fun _ => by kernel_rfl) (loopAtL_step ((laws_markPartS_6b8.k2 v0 v1 v2).trans ((by unfold laws_markPartS_6b8.t2; repeat' first | exact Sub.ret | exact Sub.none | exact Sub.loop | apply Sub.cond | (apply Sub.bind; intro _) : Sub laws_markPartS_6b8.mk _ _) b h)))
noncomputable def laws_markTestS_5b1.q2 (v0 : List (Int × Int × Int)) (v1 : Int) (v2 : Int) : Option R := loopAtL E (callT E tab) 39 Try.f39 2 [.r, .l, .r, .b] (⟨(.val .one), [.d .deep (.sl (.pair (.int .i64) (.pair (.int .i64) (.int .i64)))) v0], true, false, false, 0, 0⟩ :: vc (iL v1) :: nn 3 (vc (iL v2) :: nn 28 ([])))
noncomputable def laws_markTestS_5b1.l2 (v0 : List (Int × Int × Int)) (v1 : Int) (v2 : Int) : Option (Int × (List (Int × Int × Int))) := tOf laws_markTestS_5b1.mk (laws_markTestS_5b1.q2 v0 v1 v2)
noncomputable def laws_markTestS_5b1.t {γ : Type} (ret : (Int × (List (Int × Int × Int))) → Option γ) (lp2 : (List (Int × Int × Int)) → Int → Int → Option γ) (v0 : List (Int × Int × Int)) (v1 : Int) : Option γ :=
 lp2 (v0) (v1) ((0 : Int))
noncomputable def laws_markTestS_5b1.t2 {γ : Type} (ret : (Int × (List (Int × Int × Int))) → Option γ) (lp2 : (List (Int × Int × Int)) → Int → Int → Option γ) (v0 : List (Int × Int × Int)) (v1 : Int) (v2 : Int) : Option γ :=
 bif decide (v2 < (↑v0.length : Int)) then
  bif decide ((0 : Int) ≤ v2) then
   bif decide (v2.toNat < v0.length) then
    bif decide (v2.toNat < v0.length) then
     bif decide ((0 : Int) ≤ v2) then
      bif decide (v2.toNat < (v0.set v2.toNat (v1, (v0.getD v2.toNat ((0 : Int), (0 : Int), (0 : Int))).snd)).length) then
       bif decide (v2.toNat < (v0.set v2.toNat (v1, (v0.getD v2.toNat ((0 : Int), (0 : Int), (0 : Int))).snd)).length) then
        bif decide ((0 : Int) ≤ v2) then
         bif decide   (v2.toNat <     ((v0.set v2.toNat (v1, (v0.getD v2.toNat ((0 : Int), (0 : Int), (0 : Int))).snd)).set v2.toNat         (((v0.set v2.toNat (v1, (v0.getD v2.toNat ((0 : Int), (0 : Int), (0 : Int))).snd)).getD v2.toNat               ((0 : Int), (0 : Int), (0 : Int))).fst,           IntKind.i64.wrap (v1 + (1 : Int)),           ((v0.set v2.toNat (v1, (v0.getD v2.toNat ((0 : Int), (0 : Int), (0 : Int))).snd)).getD v2.toNat                 ((0 : Int), (0 : Int), (0 : Int))).snd.snd)).length) then
          bif decide   (v2.toNat <     ((v0.set v2.toNat (v1, (v0.getD v2.toNat ((0 : Int), (0 : Int), (0 : Int))).snd)).set v2.toNat         (((v0.set v2.toNat (v1, (v0.getD v2.toNat ((0 : Int), (0 : Int), (0 : Int))).snd)).getD v2.toNat               ((0 : Int), (0 : Int), (0 : Int))).fst,           IntKind.i64.wrap (v1 + (1 : Int)),           ((v0.set v2.toNat (v1, (v0.getD v2.toNat ((0 : Int), (0 : Int), (0 : Int))).snd)).getD v2.toNat                 ((0 : Int), (0 : Int), (0 : Int))).snd.snd)).length) then
           lp2 (((v0.set v2.toNat (v1, (v0.getD v2.toNat ((0 : Int), (0 : Int), (0 : Int))).snd)).set v2.toNat       (((v0.set v2.toNat (v1, (v0.getD v2.toNat ((0 : Int), (0 : Int), (0 : Int))).snd)).getD v2.toNat             ((0 : Int), (0 : Int), (0 : Int))).fst,         IntKind.i64.wrap (v1 + (1 : Int)),         ((v0.set v2.toNat (v1, (v0.getD v2.toNat ((0 : Int), (0 : Int), (0 : Int))).snd)).getD v2.toNat               ((0 : Int), (0 : Int), (0 : Int))).snd.snd)).set   v2.toNat   ((((v0.set v2.toNat (v1, (v0.getD v2.toNat ((0 : Int), (0 : Int), (0 : Int))).snd)).set v2.toNat             (((v0.set v2.toNat (v1, (v0.getD v2.toNat ((0 : Int), (0 : Int), (0 : Int))).snd)).getD v2.toNat                   ((0 : Int), (0 : Int), (0 : Int))).fst,               IntKind.i64.wrap (v1 + (1 : Int)),               ((v0.set v2.toNat (v1, (v0.getD v2.toNat ((0 : Int), (0 : Int), (0 : Int))).snd)).getD v2.toNat                     ((0 : Int), (0 : Int), (0 : Int))).snd.snd)).getD         v2.toNat ((0 : Int), (0 : Int), (0 : Int))).fst,     (((v0.set v2.toNat (v1, (v0.getD v2.toNat ((0 : Int), (0 : Int), (0 : Int))).snd)).set v2.toNat               (((v0.set v2.toNat (v1, (v0.getD v2.toNat ((0 : Int), (0 : Int), (0 : Int))).snd)).getD v2.toNat                     ((0 : Int), (0 : Int), (0 : Int))).fst,                 IntKind.i64.wrap (v1 + (1 : Int)),                 ((v0.set v2.toNat (v1, (v0.getD v2.toNat ((0 : Int), (0 : Int), (0 : Int))).snd)).getD v2.toNat                       ((0 : Int), (0 : Int), (0 : Int))).snd.snd)).getD           v2.toNat ((0 : Int), (0 : Int), (0 : Int))).snd.fst,     IntKind.i64.wrap (IntKind.i64.wrap (v1 + (1 : Int)) + (1 : Int)))) (IntKind.i64.wrap (IntKind.i64.wrap (IntKind.i64.wrap (v1 + (1 : Int)) + (1 : Int)) + (1 : Int))) (IntKind.i64.wrap (v2 + (1 : Int)))
          else
           none
         else
          none
        else
         none
       else
        none
      else
       none
     else
      none
    else
     none
   else
    none
  else
   none
 else
  ret (v1, v0)
theorem laws_markTestS_5b1.k (v0 : List (Int × Int × Int)) (v1 : Int) : topL E (callT E tab) 39 Try.f39 (laws_markTestS_5b1.c v0 v1) = laws_markTestS_5b1.t (fun b => some (laws_markTestS_5b1.mk b)) laws_markTestS_5b1.q2 v0 v1 := by kernel_rfl
theorem laws_markTestS_5b1.k2 (v0 : List (Int × Int × Int)) (v1 : Int) (v2 : Int) : roundL E (callT E tab) 39 Try.f39 2 [.r, .l, .r, .b] (⟨(.val .one), [.d .deep (.sl (.pair (.int .i64) (.pair (.int .i64) (.int .i64)))) v0], true, false, false, 0, 0⟩ :: vc (iL v1) :: nn 3 (vc (iL v2) :: nn 28 ([]))) = laws_markTestS_5b1.t2 (fun b => some (laws_markTestS_5b1.mk b)) laws_markTestS_5b1.q2 v0 v1 v2 := by kernel_rfl
theorem laws_markTestS_5b1.eq (v0 : List (Int × Int × Int)) (v1 : Int) {b : Int × (List (Int × Int × Int))} (h : laws_markTestS_5b1.t some laws_markTestS_5b1.l2 v0 v1 = some b) : laws_markTestS_5b1 v0 v1 = some b := tOf_intro laws_markTestS_5b1.un (fun _ => by kernel_rfl) (vlim_fn (callT_le E tab) rfl rfl rfl ((laws_markTestS_5b1.k v0 v1).trans ((by unfold laws_markTestS_5b1.t; repeat' first | exact Sub.ret | exact Sub.none | exact Sub.loop | apply Sub.cond | (apply Sub.bind; intro _) : Sub laws_markTestS_5b1.mk _ _) b h)))
theorem laws_markTestS_5b1.eq2 (v0 : List (Int × Int × Int)) (v1 : Int) (v2 : Int) {b : Int × (List (Int × Int × Int))} (h : laws_markTestS_5b1.t2 some laws_markTestS_5b1.l2 v0 v1 v2 = some b) : laws_markTestS_5b1.l2 v0 v1 v2 = some b := tOf_intro laws_markTestS_5b1.un (fun _ => by kernel_rfl) (loopAtL_step ((laws_markTestS_5b1.k2 v0 v1 v2).trans ((by unfold laws_markTestS_5b1.t2; repeat' first | exact Sub.ret | exact Sub.none | exact Sub.loop | apply Sub.cond | (apply Sub.bind; intro _) : Sub laws_markTestS_5b1.mk _ _) b h)))
noncomputable def laws_markIntSS_1f6.q2 (v0 : List (List Int)) (v1 : Int) (v2 : Int) : Option R := loopAtL E (callT E tab) 40 Try.f40 2 [.r, .l, .r, .b] (⟨(.val .one), [.d .deep (.sl (.sl (.int .i64))) v0], true, false, false, 0, 0⟩ :: vc (iL v1) :: nn 3 (vc (iL v2) :: nn 13 ([])))
noncomputable def laws_markIntSS_1f6.l2 (v0 : List (List Int)) (v1 : Int) (v2 : Int) : Option (Int × (List (List Int))) := tOf laws_markIntSS_1f6.mk (laws_markIntSS_1f6.q2 v0 v1 v2)
noncomputable def laws_markIntSS_1f6.t {γ : Type} (ret : (Int × (List (List Int))) → Option γ) (lp2 : (List (List Int)) → Int → Int → Option γ) (v0 : List (List Int)) (v1 : Int) : Option γ :=
 lp2 (v0) (v1) ((0 : Int))
noncomputable def laws_markIntSS_1f6.t2 {γ : Type} (ret : (Int × (List (List Int))) → Option γ) (lp2 : (List (List Int)) → Int → Int → Option γ) (v0 : List (List Int)) (v1 : Int) (v2 : Int) : Option γ :=
 bif decide (v2 < (↑v0.length : Int)) then
  bif decide ((0 : Int) ≤ v2) then
   bif decide (v2.toNat < v0.length) then
    bif decide (v2.toNat < v0.length) then
     bif decide (v2.toNat < v0.length) then
      (laws_markIntS_83f (v0.getD v2.toNat []) (v1)).bind fun (r0 : Int × (List Int)) =>
      bif decide (v2.toNat = v2.toNat) &&   (decide ((0 : Nat) = (0 : Nat)) && decide ((1 : Nat) = (1 : Nat))) then
       bif decide (v2.toNat < v0.length) then
        lp2 (v0.set v2.toNat r0.snd) (r0.fst) (IntKind.i64.wrap (v2 + (1 : Int)))
       else
        none
      else
       none
     else
      none
    else
     none
   else
    none
  else
   none
 else
  ret (v1, v0)
theorem laws_markIntSS_1f6.k (v0 : List (List Int)) (v1 : Int) : topL E (callT E tab) 40 Try.f40 (laws_markIntSS_1f6.c v0 v1) = laws_markIntSS_1f6.t (fun b => some (laws_markIntSS_1f6.mk b)) laws_markIntSS_1f6.q2 v0 v1 := by kernel_rfl
theorem laws_markIntSS_1f6.k2 (v0 : List (List Int)) (v1 : Int) (v2 : Int) : roundL E (callT E tab) 40 Try.f40 2 [.r, .l, .r, .b] (⟨(.val .one), [.d .deep (.sl (.sl (.int .i64))) v0], true, false, false, 0, 0⟩ :: vc (iL v1) :: nn 3 (vc (iL v2) :: nn 13 ([]))) = laws_markIntSS_1f6.t2 (fun b => some (laws_markIntSS_1f6.mk b)) laws_markIntSS_1f6.q2 v0 v1 v2 := by kernel_rfl
theorem laws_markIntSS_1f6.eq (v0 : List (List Int)) (v1 : Int) {b : Int × (List (List Int))} (h : laws_markIntSS_1f6.t some laws_markIntSS_1f6.l2 v0 v1 = some b) : laws_markIntSS_1f6 v0 v1 = some b := tOf_intro laws_markIntSS_1f6.un (fun _ => by kernel_rfl) (vlim_fn (callT_le E tab) rfl rfl rfl ((laws_markIntSS_1f6.k v0 v1).trans ((by unfold laws_markIntSS_1f6.t; repeat' first | exact Sub.ret | exact Sub.none | exact Sub.loop | apply Sub.cond | (apply Sub.bind; intro _) : Sub laws_markIntSS_1f6.mk _ _) b h)))
theorem laws_markIntSS_1f6.eq2 (v0 : List (List Int)) (v1 : Int) (v2 : Int) {b : Int × (List (List Int))} (h : laws_markIntSS_1f6.t2 some laws_markIntSS_1f6.l2 v0 v1 v2 = some b) : laws_markIntSS_1f6.l2 v0 v1 v2 = some b := tOf_intro laws_markIntSS_1f6.un (fun _ => by kernel_rfl) (loopAtL_step ((laws_markIntSS_1f6.k2 v0 v1 v2).trans ((by unfold laws_markIntSS_1f6.t2; repeat' first | exact Sub.ret | exact Sub.none | exact Sub.loop | apply Sub.cond | (apply Sub.bind; intro _) : Sub laws_markIntSS_1f6.mk _ _) b h)))
noncomputable def laws_heldView.t {γ : Type} (ret : (Int) → Option γ) (v0 : List Int) (v1 : List (Int × Int × Int × List (Int × Int × Int) × List Int × List (List Int))) (v2 : Int) : Option γ :=
 (laws_heldIntS (v0) (v2)).bind fun (r0 : Int) =>
 bif decide (r0 < (0 : Int)) then
  ret ((-1 : Int))
 else
  (laws_heldPartS (v1) (r0)).bind fun (r1 : Int) =>
  bif decide (r1 < (0 : Int)) then
   ret ((-1 : Int))
  else
   ret (r1)
theorem laws_heldView.k (v0 : List Int) (v1 : List (Int × Int × Int × List (Int × Int × Int) × List Int × List (List Int))) (v2 : Int) : topL E (callT E tab) 10 Try.f10 (laws_heldView.c v0 v1 v2) = laws_heldView.t (fun b => some (laws_heldView.mk b)) v0 v1 v2 := by kernel_rfl
theorem laws_heldView.eq (v0 : List Int) (v1 : List (Int × Int × Int × List (Int × Int × Int) × List Int × List (List Int))) (v2 : Int) {b : Int} (h : laws_heldView.t some v0 v1 v2 = some b) : laws_heldView v0 v1 v2 = some b := tOf_intro laws_heldView.un (fun _ => by kernel_rfl) (vlim_fn (callT_le E tab) rfl rfl rfl ((laws_heldView.k v0 v1 v2).trans ((by unfold laws_heldView.t; repeat' first | exact Sub.ret | exact Sub.none | exact Sub.loop | apply Sub.cond | (apply Sub.bind; intro _) : Sub laws_heldView.mk _ _) b h)))
noncomputable def laws_heldIntS.q2 (v0 : List Int) (v1 : Int) (v2 : Int) : Option R := loopAtL E (callT E tab) 25 Try.f25 2 [.r, .l, .r, .b] (vc (.d .fro (.sl (.int .i64)) v0) :: vc (iL v1) :: nn 3 (vc (iL v2) :: nn 15 ([])))
noncomputable def laws_heldIntS.l2 (v0 : List Int) (v1 : Int) (v2 : Int) : Option (Int) := tOf laws_heldIntS.mk (laws_heldIntS.q2 v0 v1 v2)
noncomputable def laws_heldIntS.t {γ : Type} (ret : (Int) → Option γ) (lp2 : (List Int) → Int → Int → Option γ) (v0 : List Int) (v1 : Int) : Option γ :=
 lp2 (v0) (v1) ((0 : Int))
noncomputable def laws_heldIntS.t2 {γ : Type} (ret : (Int) → Option γ) (lp2 : (List Int) → Int → Int → Option γ) (v0 : List Int) (v1 : Int) (v2 : Int) : Option γ :=
 bif decide (v2 < (↑v0.length : Int)) then
  bif decide ((0 : Int) ≤ v2) then
   bif decide (v2.toNat < v0.length) then
    bif v0.getD v2.toNat (0 : Int) != v1 then
     ret ((-1 : Int))
    else
     lp2 (v0) (IntKind.i64.wrap (v1 + (1 : Int))) (IntKind.i64.wrap (v2 + (1 : Int)))
   else
    none
  else
   none
 else
  ret (v1)
theorem laws_heldIntS.k (v0 : List Int) (v1 : Int) : topL E (callT E tab) 25 Try.f25 (laws_heldIntS.c v0 v1) = laws_heldIntS.t (fun b => some (laws_heldIntS.mk b)) laws_heldIntS.q2 v0 v1 := by kernel_rfl
theorem laws_heldIntS.k2 (v0 : List Int) (v1 : Int) (v2 : Int) : roundL E (callT E tab) 25 Try.f25 2 [.r, .l, .r, .b] (vc (.d .fro (.sl (.int .i64)) v0) :: vc (iL v1) :: nn 3 (vc (iL v2) :: nn 15 ([]))) = laws_heldIntS.t2 (fun b => some (laws_heldIntS.mk b)) laws_heldIntS.q2 v0 v1 v2 := by kernel_rfl
theorem laws_heldIntS.eq (v0 : List Int) (v1 : Int) {b : Int} (h : laws_heldIntS.t some laws_heldIntS.l2 v0 v1 = some b) : laws_heldIntS v0 v1 = some b := tOf_intro laws_heldIntS.un (fun _ => by kernel_rfl) (vlim_fn (callT_le E tab) rfl rfl rfl ((laws_heldIntS.k v0 v1).trans ((by unfold laws_heldIntS.t; repeat' first | exact Sub.ret | exact Sub.none | exact Sub.loop | apply Sub.cond | (apply Sub.bind; intro _) : Sub laws_heldIntS.mk _ _) b h)))
theorem laws_heldIntS.eq2 (v0 : List Int) (v1 : Int) (v2 : Int) {b : Int} (h : laws_heldIntS.t2 some laws_heldIntS.l2 v0 v1 v2 = some b) : laws_heldIntS.l2 v0 v1 v2 = some b := tOf_intro laws_heldIntS.un (fun _ => by kernel_rfl) (loopAtL_step ((laws_heldIntS.k2 v0 v1 v2).trans ((by unfold laws_heldIntS.t2; repeat' first | exact Sub.ret | exact Sub.none | exact Sub.loop | apply Sub.cond | (apply Sub.bind; intro _) : Sub laws_heldIntS.mk _ _) b h)))
noncomputable def laws_heldPartS.q2 (v0 : List (Int × Int × Int × List (Int × Int × Int) × List Int × List (List Int))) (v1 : Int) (v2 : Int) : Option R := loopAtL E (callT E tab) 26 Try.f26 2 [.r, .l, .r, .b] (vc (.d .fro (.sl (.pair (.int .i64) (.pair (.int .i64) (.pair (.int .i64) (.pair (.sl (.pair (.int .i64) (.pair (.int .i64) (.int .i64)))) (.pair (.sl (.int .i64)) (.sl (.sl (.int .i64))))))))) v0) :: vc (iL v1) :: nn 3 (vc (iL v2) :: nn 61 ([])))
noncomputable def laws_heldPartS.l2 (v0 : List (Int × Int × Int × List (Int × Int × Int) × List Int × List (List Int))) (v1 : Int) (v2 : Int) : Option (Int) := tOf laws_heldPartS.mk (laws_heldPartS.q2 v0 v1 v2)
noncomputable def laws_heldPartS.t {γ : Type} (ret : (Int) → Option γ) (lp2 : (List (Int × Int × Int × List (Int × Int × Int) × List Int × List (List Int))) → Int → Int → Option γ) (v0 : List (Int × Int × Int × List (Int × Int × Int) × List Int × List (List Int))) (v1 : Int) : Option γ :=
 lp2 (v0) (v1) ((0 : Int))
noncomputable def laws_heldPartS.t2 {γ : Type} (ret : (Int) → Option γ) (lp2 : (List (Int × Int × Int × List (Int × Int × Int) × List Int × List (List Int))) → Int → Int → Option γ) (v0 : List (Int × Int × Int × List (Int × Int × Int) × List Int × List (List Int))) (v1 : Int) (v2 : Int) : Option γ :=
 bif decide (v2 < (↑v0.length : Int)) then
  bif decide ((0 : Int) ≤ v2) then
   bif decide (v2.toNat < v0.length) then
    bif (v0.getD v2.toNat ((0 : Int), (0 : Int), (0 : Int), [], [], [])).fst != v1 then
     ret ((-1 : Int))
    else
     bif decide ((0 : Int) ≤ v2) then
      bif decide (v2.toNat < v0.length) then
       bif (v0.getD v2.toNat ((0 : Int), (0 : Int), (0 : Int), [], [], [])).snd.fst != IntKind.i64.wrap (v1 + (1 : Int)) then
        ret ((-1 : Int))
       else
        bif decide ((0 : Int) ≤ v2) then
         bif decide (v2.toNat < v0.length) then
          bif (v0.getD v2.toNat ((0 : Int), (0 : Int), (0 : Int), [], [], [])).snd.snd.fst !=   IntKind.i64.wrap (IntKind.i64.wrap (v1 + (1 : Int)) + (1 : Int)) then
           ret ((-1 : Int))
          else
           bif decide ((0 : Int) ≤ v2) then
            bif decide (v2.toNat < v0.length) then
             (laws_heldTestS ((v0.getD v2.toNat ((0 : Int), (0 : Int), (0 : Int), [], [], [])).snd.snd.snd.fst) (IntKind.i64.wrap (IntKind.i64.wrap (IntKind.i64.wrap (v1 + (1 : Int)) + (1 : Int)) + (1 : Int)))).bind fun (r0 : Int) =>
             bif decide (r0 < (0 : Int)) then
              ret ((-1 : Int))
             else
              bif decide ((0 : Int) ≤ v2) then
               bif decide (v2.toNat < v0.length) then
                (laws_heldIntS ((v0.getD v2.toNat ((0 : Int), (0 : Int), (0 : Int), [], [], [])).snd.snd.snd.snd.fst) (r0)).bind fun (r1 : Int) =>
                bif decide (r1 < (0 : Int)) then
                 ret ((-1 : Int))
                else
                 bif decide ((0 : Int) ≤ v2) then
                  bif decide (v2.toNat < v0.length) then
                   (laws_heldIntSS ((v0.getD v2.toNat ((0 : Int), (0 : Int), (0 : Int), [], [], [])).snd.snd.snd.snd.snd) (r1)).bind fun (r2 : Int) =>
                   bif decide (r2 < (0 : Int)) then
                    ret ((-1 : Int))
                   else
                    lp2 (v0) (r2) (IntKind.i64.wrap (v2 + (1 : Int)))
                  else
                   none
                 else
                  none
               else
                none
              else
               none
            else
             none
           else
            none
         else
          none
        else
         none
      else
       none
     else
      none
   else
    none
  else
   none
 else
  ret (v1)
theorem laws_heldPartS.k (v0 : List (Int × Int × Int × List (Int × Int × Int) × List Int × List (List Int))) (v1 : Int) : topL E (callT E tab) 26 Try.f26 (laws_heldPartS.c v0 v1) = laws_heldPartS.t (fun b => some (laws_heldPartS.mk b)) laws_heldPartS.q2 v0 v1 := by kernel_rfl
theorem laws_heldPartS.k2 (v0 : List (Int × Int × Int × List (Int × Int × Int) × List Int × List (List Int))) (v1 : Int) (v2 : Int) : roundL E (callT E tab) 26 Try.f26 2 [.r, .l, .r, .b] (vc (.d .fro (.sl (.pair (.int .i64) (.pair (.int .i64) (.pair (.int .i64) (.pair (.sl (.pair (.int .i64) (.pair (.int .i64) (.int .i64)))) (.pair (.sl (.int .i64)) (.sl (.sl (.int .i64))))))))) v0) :: vc (iL v1) :: nn 3 (vc (iL v2) :: nn 61 ([]))) = laws_heldPartS.t2 (fun b => some (laws_heldPartS.mk b)) laws_heldPartS.q2 v0 v1 v2 := by kernel_rfl
theorem laws_heldPartS.eq (v0 : List (Int × Int × Int × List (Int × Int × Int) × List Int × List (List Int))) (v1 : Int) {b : Int} (h : laws_heldPartS.t some laws_heldPartS.l2 v0 v1 = some b) : laws_heldPartS v0 v1 = some b := tOf_intro laws_heldPartS.un (fun _ => by kernel_rfl) (vlim_fn (callT_le E tab) rfl rfl rfl ((laws_heldPartS.k v0 v1).trans ((by unfold laws_heldPartS.t; repeat' first | exact Sub.ret | exact Sub.none | exact Sub.loop | apply Sub.cond | (apply Sub.bind; intro _) : Sub laws_heldPartS.mk _ _) b h)))
theorem laws_heldPartS.eq2 (v0 : List (Int × Int × Int × List (Int × Int × Int) × List Int × List (List Int))) (v1 : Int) (v2 : Int) {b : Int} (h : laws_heldPartS.t2 some laws_heldPartS.l2 v0 v1 v2 = some b) : laws_heldPartS.l2 v0 v1 v2 = some b := tOf_intro laws_heldPartS.un (fun _ => by kernel_rfl) (loopAtL_step ((laws_heldPartS.k2 v0 v1 v2).trans ((by unfold laws_heldPartS.t2; repeat' first | exact Sub.ret | exact Sub.none | exact Sub.loop | apply Sub.cond | (apply Sub.bind; intro _) : Sub laws_heldPartS.mk _ _) b h)))
noncomputable def laws_heldTestS.q2 (v0 : List (Int × Int × Int)) (v1 : Int) (v2 : Int) : Option R := loopAtL E (callT E tab) 41 Try.f41 2 [.r, .l, .r, .b] (vc (.d .fro (.sl (.pair (.int .i64) (.pair (.int .i64) (.int .i64)))) v0) :: vc (iL v1) :: nn 3 (vc (iL v2) :: nn 34 ([])))
noncomputable def laws_heldTestS.l2 (v0 : List (Int × Int × Int)) (v1 : Int) (v2 : Int) : Option (Int) := tOf laws_heldTestS.mk (laws_heldTestS.q2 v0 v1 v2)
noncomputable def laws_heldTestS.t {γ : Type} (ret : (Int) → Option γ) (lp2 : (List (Int × Int × Int)) → Int → Int → Option γ) (v0 : List (Int × Int × Int)) (v1 : Int) : Option γ :=
 lp2 (v0) (v1) ((0 : Int))
noncomputable def laws_heldTestS.t2 {γ : Type} (ret : (Int) → Option γ) (lp2 : (List (Int × Int × Int)) → Int → Int → Option γ) (v0 : List (Int × Int × Int)) (v1 : Int) (v2 : Int) : Option γ :=
 bif decide (v2 < (↑v0.length : Int)) then
  bif decide ((0 : Int) ≤ v2) then
   bif decide (v2.toNat < v0.length) then
    bif (v0.getD v2.toNat ((0 : Int), (0 : Int), (0 : Int))).fst != v1 then
     ret ((-1 : Int))
    else
     bif decide ((0 : Int) ≤ v2) then
      bif decide (v2.toNat < v0.length) then
       bif (v0.getD v2.toNat ((0 : Int), (0 : Int), (0 : Int))).snd.fst != IntKind.i64.wrap (v1 + (1 : Int)) then
        ret ((-1 : Int))
       else
        bif decide ((0 : Int) ≤ v2) then
         bif decide (v2.toNat < v0.length) then
          bif (v0.getD v2.toNat ((0 : Int), (0 : Int), (0 : Int))).snd.snd !=   IntKind.i64.wrap (IntKind.i64.wrap (v1 + (1 : Int)) + (1 : Int)) then
           ret ((-1 : Int))
          else
           lp2 (v0) (IntKind.i64.wrap (IntKind.i64.wrap (IntKind.i64.wrap (v1 + (1 : Int)) + (1 : Int)) + (1 : Int))) (IntKind.i64.wrap (v2 + (1 : Int)))
         else
          none
        else
         none
      else
       none
     else
      none
   else
    none
  else
   none
 else
  ret (v1)
theorem laws_heldTestS.k (v0 : List (Int × Int × Int)) (v1 : Int) : topL E (callT E tab) 41 Try.f41 (laws_heldTestS.c v0 v1) = laws_heldTestS.t (fun b => some (laws_heldTestS.mk b)) laws_heldTestS.q2 v0 v1 := by kernel_rfl
theorem laws_heldTestS.k2 (v0 : List (Int × Int × Int)) (v1 : Int) (v2 : Int) : roundL E (callT E tab) 41 Try.f41 2 [.r, .l, .r, .b] (vc (.d .fro (.sl (.pair (.int .i64) (.pair (.int .i64) (.int .i64)))) v0) :: vc (iL v1) :: nn 3 (vc (iL v2) :: nn 34 ([]))) = laws_heldTestS.t2 (fun b => some (laws_heldTestS.mk b)) laws_heldTestS.q2 v0 v1 v2 := by kernel_rfl
theorem laws_heldTestS.eq (v0 : List (Int × Int × Int)) (v1 : Int) {b : Int} (h : laws_heldTestS.t some laws_heldTestS.l2 v0 v1 = some b) : laws_heldTestS v0 v1 = some b := tOf_intro laws_heldTestS.un (fun _ => by kernel_rfl) (vlim_fn (callT_le E tab) rfl rfl rfl ((laws_heldTestS.k v0 v1).trans ((by unfold laws_heldTestS.t; repeat' first | exact Sub.ret | exact Sub.none | exact Sub.loop | apply Sub.cond | (apply Sub.bind; intro _) : Sub laws_heldTestS.mk _ _) b h)))
theorem laws_heldTestS.eq2 (v0 : List (Int × Int × Int)) (v1 : Int) (v2 : Int) {b : Int} (h : laws_heldTestS.t2 some laws_heldTestS.l2 v0 v1 v2 = some b) : laws_heldTestS.l2 v0 v1 v2 = some b := tOf_intro laws_heldTestS.un (fun _ => by kernel_rfl) (loopAtL_step ((laws_heldTestS.k2 v0 v1 v2).trans ((by unfold laws_heldTestS.t2; repeat' first | exact Sub.ret | exact Sub.none | exact Sub.loop | apply Sub.cond | (apply Sub.bind; intro _) : Sub laws_heldTestS.mk _ _) b h)))
noncomputable def laws_heldIntSS.q2 (v0 : List (List Int)) (v1 : Int) (v2 : Int) : Option R := loopAtL E (callT E tab) 42 Try.f42 2 [.r, .l, .r, .b] (vc (.d .fro (.sl (.sl (.int .i64))) v0) :: vc (iL v1) :: nn 3 (vc (iL v2) :: nn 15 ([])))
noncomputable def laws_heldIntSS.l2 (v0 : List (List Int)) (v1 : Int) (v2 : Int) : Option (Int) := tOf laws_heldIntSS.mk (laws_heldIntSS.q2 v0 v1 v2)
noncomputable def laws_heldIntSS.t {γ : Type} (ret : (Int) → Option γ) (lp2 : (List (List Int)) → Int → Int → Option γ) (v0 : List (List Int)) (v1 : Int) : Option γ :=
 lp2 (v0) (v1) ((0 : Int))
noncomputable def laws_heldIntSS.t2 {γ : Type} (ret : (Int) → Option γ) (lp2 : (List (List Int)) → Int → Int → Option γ) (v0 : List (List Int)) (v1 : Int) (v2 : Int) : Option γ :=
 bif decide (v2 < (↑v0.length : Int)) then
  bif decide ((0 : Int) ≤ v2) then
   bif decide (v2.toNat < v0.length) then
    (laws_heldIntS (v0.getD v2.toNat []) (v1)).bind fun (r0 : Int) =>
    bif decide (r0 < (0 : Int)) then
     ret ((-1 : Int))
    else
     lp2 (v0) (r0) (IntKind.i64.wrap (v2 + (1 : Int)))
   else
    none
  else
   none
 else
  ret (v1)
theorem laws_heldIntSS.k (v0 : List (List Int)) (v1 : Int) : topL E (callT E tab) 42 Try.f42 (laws_heldIntSS.c v0 v1) = laws_heldIntSS.t (fun b => some (laws_heldIntSS.mk b)) laws_heldIntSS.q2 v0 v1 := by kernel_rfl
theorem laws_heldIntSS.k2 (v0 : List (List Int)) (v1 : Int) (v2 : Int) : roundL E (callT E tab) 42 Try.f42 2 [.r, .l, .r, .b] (vc (.d .fro (.sl (.sl (.int .i64))) v0) :: vc (iL v1) :: nn 3 (vc (iL v2) :: nn 15 ([]))) = laws_heldIntSS.t2 (fun b => some (laws_heldIntSS.mk b)) laws_heldIntSS.q2 v0 v1 v2 := by kernel_rfl
theorem laws_heldIntSS.eq (v0 : List (List Int)) (v1 : Int) {b : Int} (h : laws_heldIntSS.t some laws_heldIntSS.l2 v0 v1 = some b) : laws_heldIntSS v0 v1 = some b := tOf_intro laws_heldIntSS.un (fun _ => by kernel_rfl) (vlim_fn (callT_le E tab) rfl rfl rfl ((laws_heldIntSS.k v0 v1).trans ((by unfold laws_heldIntSS.t; repeat' first | exact Sub.ret | exact Sub.none | exact Sub.loop | apply Sub.cond | (apply Sub.bind; intro _) : Sub laws_heldIntSS.mk _ _) b h)))
theorem laws_heldIntSS.eq2 (v0 : List (List Int)) (v1 : Int) (v2 : Int) {b : Int} (h : laws_heldIntSS.t2 some laws_heldIntSS.l2 v0 v1 v2 = some b) : laws_heldIntSS.l2 v0 v1 v2 = some b := tOf_intro laws_heldIntSS.un (fun _ => by kernel_rfl) (loopAtL_step ((laws_heldIntSS.k2 v0 v1 v2).trans ((by unfold laws_heldIntSS.t2; repeat' first | exact Sub.ret | exact Sub.none | exact Sub.loop | apply Sub.cond | (apply Sub.bind; intro _) : Sub laws_heldIntSS.mk _ _) b h)))
end GoV
