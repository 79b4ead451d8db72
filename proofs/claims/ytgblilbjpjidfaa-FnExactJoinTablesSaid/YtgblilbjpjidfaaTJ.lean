/- A part of the proof of FnExactJoinTables: an interpreter of the model over plain data, its soundness, and what it makes of the functions that the statement reaches. Conditions: none beyond what the given statement itself says. -/
import Derived.Test.YtgblilbjpjidfaaTI
set_option linter.unusedVariables false
set_option linter.unusedSimpArgs false
set_option linter.unnecessarySimpa false
set_option linter.unusedSectionVars false
/- Equations of the program's functions (printed by wip/tools/emit.py). -/
namespace GoV
open Go Go.Proofs
set_option maxRecDepth 100000

noncomputable def spec_l1Pairs.q2 (v0 : List (List Int)) (v1 : Int) (v2 : Int) (v3 : List (List Int)) (v4 : Int) (v5 : Int) : Option R := loopAtL E (callT E tab) 101 Try.f101 3 [.r, .l, .r, .b] (vc (.d .fro (.sl (.sl (.int .i64))) v0) :: vc (iL v1) :: vc (iL v2) :: nn 6 (vc (.d .fro (.sl (.sl (.int .i64))) v3) :: vc (iL v4) :: vc (iL v5) :: nn 36 ([])))
noncomputable def spec_l1Pairs.l2 (v0 : List (List Int)) (v1 : Int) (v2 : Int) (v3 : List (List Int)) (v4 : Int) (v5 : Int) : Option (Bool) := tOf spec_l1Pairs.mk (spec_l1Pairs.q2 v0 v1 v2 v3 v4 v5)
noncomputable def spec_l1Pairs.t {γ : Type} (ret : (Bool) → Option γ) (lp2 : (List (List Int)) → Int → Int → (List (List Int)) → Int → Int → Option γ) (v0 : List (List Int)) (v1 : Int) (v2 : Int) : Option γ :=
 lp2 (v0) (v1) (v2) (v0) ((↑v0.length : Int)) ((0 : Int))
noncomputable def spec_l1Pairs.t2 {γ : Type} (ret : (Bool) → Option γ) (lp2 : (List (List Int)) → Int → Int → (List (List Int)) → Int → Int → Option γ) (v0 : List (List Int)) (v1 : Int) (v2 : Int) (v3 : List (List Int)) (v4 : Int) (v5 : Int) : Option γ :=
 bif decide (v5 < v4) then
  bif decide ((0 : Int) ≤ v5) then
   bif decide (v5.toNat < v3.length) then
    bif (↑(v3.getD v5.toNat []).length : Int) != (2 : Int) then
     ret (Bool.false)
    else
     bif decide (Int.toNat (0 : Int) < (v3.getD v5.toNat []).length) then
      bif decide ((v3.getD v5.toNat []).getD (Int.toNat (0 : Int)) (0 : Int) < (0 : Int)) then
       ret (Bool.false)
      else
       bif decide (Int.toNat (0 : Int) < (v3.getD v5.toNat []).length) then
        bif decide ((v3.getD v5.toNat []).getD (Int.toNat (0 : Int)) (0 : Int) ≥ v1) then
         ret (Bool.false)
        else
         bif decide (Int.toNat (1 : Int) < (v3.getD v5.toNat []).length) then
          bif decide ((v3.getD v5.toNat []).getD (Int.toNat (1 : Int)) (0 : Int) < (0 : Int)) then
           ret (Bool.false)
          else
           bif decide (Int.toNat (1 : Int) < (v3.getD v5.toNat []).length) then
            bif decide ((v3.getD v5.toNat []).getD (Int.toNat (1 : Int)) (0 : Int) ≥ v2) then
             ret (Bool.false)
            else
             lp2 (v0) (v1) (v2) (v3) (v4) (IntKind.i64.wrap (v5 + (1 : Int)))
           else
            none
         else
          none
       else
        none
     else
      none
   else
    none
  else
   none
 else
  ret (decide ((↑v0.length : Int) ≤ (6 : Int)))
theorem spec_l1Pairs.k (v0 : List (List Int)) (v1 : Int) (v2 : Int) : topL E (callT E tab) 101 Try.f101 (spec_l1Pairs.c v0 v1 v2) = spec_l1Pairs.t (fun b => some (spec_l1Pairs.mk b)) spec_l1Pairs.q2 v0 v1 v2 := by kernel_rfl
theorem spec_l1Pairs.k2 (v0 : List (List Int)) (v1 : Int) (v2 : Int) (v3 : List (List Int)) (v4 : Int) (v5 : Int) : roundL E (callT E tab) 101 Try.f101 3 [.r, .l, .r, .b] (vc (.d .fro (.sl (.sl (.int .i64))) v0) :: vc (iL v1) :: vc (iL v2) :: nn 6 (vc (.d .fro (.sl (.sl (.int .i64))) v3) :: vc (iL v4) :: vc (iL v5) :: nn 36 ([]))) = spec_l1Pairs.t2 (fun b => some (spec_l1Pairs.mk b)) spec_l1Pairs.q2 v0 v1 v2 v3 v4 v5 := by kernel_rfl
theorem spec_l1Pairs.s (v0 : List (List Int)) (v1 : Int) (v2 : Int) : Sub spec_l1Pairs.mk (spec_l1Pairs.t some spec_l1Pairs.l2 v0 v1 v2) (spec_l1Pairs.t (fun b => some (spec_l1Pairs.mk b)) spec_l1Pairs.q2 v0 v1 v2) := by
 unfold spec_l1Pairs.t
 repeat' first | exact Sub.ret | exact Sub.none | exact Sub.loop | apply Sub.cond | (apply Sub.bind; intro _)
theorem spec_l1Pairs.eq (v0 : List (List Int)) (v1 : Int) (v2 : Int) {b : Bool} (h : spec_l1Pairs.t some spec_l1Pairs.l2 v0 v1 v2 = some b) : spec_l1Pairs v0 v1 v2 = some b := tOf_intro spec_l1Pairs.un (fun _ => by kernel_rfl) (vlim_fn (callT_le E tab) rfl rfl rfl ((spec_l1Pairs.k v0 v1 v2).trans (spec_l1Pairs.s v0 v1 v2 b h)))
theorem spec_l1Pairs.s2 (v0 : List (List Int)) (v1 : Int) (v2 : Int) (v3 : List (List Int)) (v4 : Int) (v5 : Int) : Sub spec_l1Pairs.mk (spec_l1Pairs.t2 some spec_l1Pairs.l2 v0 v1 v2 v3 v4 v5) (spec_l1Pairs.t2 (fun b => some (spec_l1Pairs.mk b)) spec_l1Pairs.q2 v0 v1 v2 v3 v4 v5) := by
 unfold spec_l1Pairs.t2
 repeat' first | exact Sub.ret | exact Sub.none | exact Sub.loop | apply Sub.cond | (apply Sub.bind; intro _)
theorem spec_l1Pairs.eq2 (v0 : List (List Int)) (v1 : Int) (v2 : Int) (v3 : List (List Int)) (v4 : Int) (v5 : Int) {b : Bool} (h : spec_l1Pairs.t2 some spec_l1Pairs.l2 v0 v1 v2 v3 v4 v5 = some b) : spec_l1Pairs.l2 v0 v1 v2 v3 v4 v5 = some b := tOf_intro spec_l1Pairs.un (fun _ => by kernel_rfl) (loopAtL_step ((spec_l1Pairs.k2 v0 v1 v2 v3 v4 v5).trans (spec_l1Pairs.s2 v0 v1 v2 v3 v4 v5 b h)))
noncomputable def spec_l3Left.q7 (v0 : List (List Int)) (v1 : Int) (v2 : Int) (v3 : Int) (v4 : Bool) (v5 : List (List Int)) (v6 : Int) (v7 : Int) : Option R := loopAtL E (callT E tab) 102 Try.f102 2 [.r, .r, .l, .r, .b, .o, .r, .l, .b, .r, .l, .r, .b] (vc (.d .fro (.sl (.sl (.int .i64))) v0) :: vc (iL v1) :: nn 3 (vc (iL v2) :: vc (iL v3) :: vc (bL v4) :: nn 7 (vc (.d .fro (.sl (.sl (.int .i64))) v5) :: vc (iL v6) :: vc (iL v7) :: nn 17 ([]))))
noncomputable def spec_l3Left.l7 (v0 : List (List Int)) (v1 : Int) (v2 : Int) (v3 : Int) (v4 : Bool) (v5 : List (List Int)) (v6 : Int) (v7 : Int) : Option (Int) := tOf spec_l3Left.mk (spec_l3Left.q7 v0 v1 v2 v3 v4 v5 v6 v7)
noncomputable def spec_l3Left.q3 (v0 : List (List Int)) (v1 : Int) (v2 : Int) (v3 : Int) : Option R := loopAtL E (callT E tab) 102 Try.f102 2 [.r, .r, .l, .r, .b] (vc (.d .fro (.sl (.sl (.int .i64))) v0) :: vc (iL v1) :: nn 3 (vc (iL v2) :: vc (iL v3) :: nn 28 ([])))
noncomputable def spec_l3Left.l3 (v0 : List (List Int)) (v1 : Int) (v2 : Int) (v3 : Int) : Option (Int) := tOf spec_l3Left.mk (spec_l3Left.q3 v0 v1 v2 v3)
noncomputable def spec_l3Left.t {γ : Type} (ret : (Int) → Option γ) (lp7 : (List (List Int)) → Int → Int → Int → Bool → (List (List Int)) → Int → Int → Option γ) (lp3 : (List (List Int)) → Int → Int → Int → Option γ) (v0 : List (List Int)) (v1 : Int) : Option γ :=
 lp3 (v0) (v1) ((0 : Int)) ((0 : Int))
noncomputable def spec_l3Left.t7 {γ : Type} (ret : (Int) → Option γ) (lp7 : (List (List Int)) → Int → Int → Int → Bool → (List (List Int)) → Int → Int → Option γ) (lp3 : (List (List Int)) → Int → Int → Int → Option γ) (v0 : List (List Int)) (v1 : Int) (v2 : Int) (v3 : Int) (v4 : Bool) (v5 : List (List Int)) (v6 : Int) (v7 : Int) : Option γ :=
 bif decide (v7 < v6) then
  bif decide ((0 : Int) ≤ v7) then
   bif decide (v7.toNat < v5.length) then
    bif v4 then
     lp7 (v0) (v1) (v2) (v3) (Bool.true) (v5) (v6) (IntKind.i64.wrap (v7 + (1 : Int)))
    else
     bif decide (Int.toNat (1 : Int) < (v5.getD v7.toNat []).length) then
      lp7 (v0) (v1) (v2) (v3) ((v5.getD v7.toNat []).getD (Int.toNat (1 : Int)) (0 : Int) == v3) (v5) (v6) (IntKind.i64.wrap (v7 + (1 : Int)))
     else
      none
   else
    none
  else
   none
 else
  bif !v4 then
   lp3 (v0) (v1) (IntKind.i64.wrap (v2 + (1 : Int))) (IntKind.i64.wrap (v3 + (1 : Int)))
  else
   lp3 (v0) (v1) (v2) (IntKind.i64.wrap (v3 + (1 : Int)))
noncomputable def spec_l3Left.t3 {γ : Type} (ret : (Int) → Option γ) (lp7 : (List (List Int)) → Int → Int → Int → Bool → (List (List Int)) → Int → Int → Option γ) (lp3 : (List (List Int)) → Int → Int → Int → Option γ) (v0 : List (List Int)) (v1 : Int) (v2 : Int) (v3 : Int) : Option γ :=
 bif decide (v3 < v1) then
  lp7 (v0) (v1) (v2) (v3) (Bool.false) (v0) ((↑v0.length : Int)) ((0 : Int))
 else
  ret (v2)
theorem spec_l3Left.k (v0 : List (List Int)) (v1 : Int) : topL E (callT E tab) 102 Try.f102 (spec_l3Left.c v0 v1) = spec_l3Left.t (fun b => some (spec_l3Left.mk b)) spec_l3Left.q7 spec_l3Left.q3 v0 v1 := by kernel_rfl
theorem spec_l3Left.k7 (v0 : List (List Int)) (v1 : Int) (v2 : Int) (v3 : Int) (v4 : Bool) (v5 : List (List Int)) (v6 : Int) (v7 : Int) : roundL E (callT E tab) 102 Try.f102 2 [.r, .r, .l, .r, .b, .o, .r, .l, .b, .r, .l, .r, .b] (vc (.d .fro (.sl (.sl (.int .i64))) v0) :: vc (iL v1) :: nn 3 (vc (iL v2) :: vc (iL v3) :: vc (bL v4) :: nn 7 (vc (.d .fro (.sl (.sl (.int .i64))) v5) :: vc (iL v6) :: vc (iL v7) :: nn 17 ([])))) = spec_l3Left.t7 (fun b => some (spec_l3Left.mk b)) spec_l3Left.q7 spec_l3Left.q3 v0 v1 v2 v3 v4 v5 v6 v7 := by kernel_rfl
theorem spec_l3Left.k3 (v0 : List (List Int)) (v1 : Int) (v2 : Int) (v3 : Int) : roundL E (callT E tab) 102 Try.f102 2 [.r, .r, .l, .r, .b] (vc (.d .fro (.sl (.sl (.int .i64))) v0) :: vc (iL v1) :: nn 3 (vc (iL v2) :: vc (iL v3) :: nn 28 ([]))) = spec_l3Left.t3 (fun b => some (spec_l3Left.mk b)) spec_l3Left.q7 spec_l3Left.q3 v0 v1 v2 v3 := by kernel_rfl
theorem spec_l3Left.s (v0 : List (List Int)) (v1 : Int) : Sub spec_l3Left.mk (spec_l3Left.t some spec_l3Left.l7 spec_l3Left.l3 v0 v1) (spec_l3Left.t (fun b => some (spec_l3Left.mk b)) spec_l3Left.q7 spec_l3Left.q3 v0 v1) := by
 unfold spec_l3Left.t
 repeat' first | exact Sub.ret | exact Sub.none | exact Sub.loop | apply Sub.cond | (apply Sub.bind; intro _)
theorem spec_l3Left.eq (v0 : List (List Int)) (v1 : Int) {b : Int} (h : spec_l3Left.t some spec_l3Left.l7 spec_l3Left.l3 v0 v1 = some b) : spec_l3Left v0 v1 = some b := tOf_intro spec_l3Left.un (fun _ => by kernel_rfl) (vlim_fn (callT_le E tab) rfl rfl rfl ((spec_l3Left.k v0 v1).trans (spec_l3Left.s v0 v1 b h)))
theorem spec_l3Left.s7 (v0 : List (List Int)) (v1 : Int) (v2 : Int) (v3 : Int) (v4 : Bool) (v5 : List (List Int)) (v6 : Int) (v7 : Int) : Sub spec_l3Left.mk (spec_l3Left.t7 some spec_l3Left.l7 spec_l3Left.l3 v0 v1 v2 v3 v4 v5 v6 v7) (spec_l3Left.t7 (fun b => some (spec_l3Left.mk b)) spec_l3Left.q7 spec_l3Left.q3 v0 v1 v2 v3 v4 v5 v6 v7) := by
 unfold spec_l3Left.t7
 repeat' first | exact Sub.ret | exact Sub.none | exact Sub.loop | apply Sub.cond | (apply Sub.bind; intro _)
theorem spec_l3Left.eq7 (v0 : List (List Int)) (v1 : Int) (v2 : Int) (v3 : Int) (v4 : Bool) (v5 : List (List Int)) (v6 : Int) (v7 : Int) {b : Int} (h : spec_l3Left.t7 some spec_l3Left.l7 spec_l3Left.l3 v0 v1 v2 v3 v4 v5 v6 v7 = some b) : spec_l3Left.l7 v0 v1 v2 v3 v4 v5 v6 v7 = some b := tOf_intro spec_l3Left.un (fun _ => by kernel_rfl) (loopAtL_step ((spec_l3Left.k7 v0 v1 v2 v3 v4 v5 v6 v7).trans (spec_l3Left.s7 v0 v1 v2 v3 v4 v5 v6 v7 b h)))
theorem spec_l3Left.s3 (v0 : List (List Int)) (v1 : Int) (v2 : Int) (v3 : Int) : Sub spec_l3Left.mk (spec_l3Left.t3 some spec_l3Left.l7 spec_l3Left.l3 v0 v1 v2 v3) (spec_l3Left.t3 (fun b => some (spec_l3Left.mk b)) spec_l3Left.q7 spec_l3Left.q3 v0 v1 v2 v3) := by
 unfold spec_l3Left.t3
 repeat' first | exact Sub.ret | exact Sub.none | exact Sub.loop | apply Sub.cond | (apply Sub.bind; intro _)
theorem spec_l3Left.eq3 (v0 : List (List Int)) (v1 : Int) (v2 : Int) (v3 : Int) {b : Int} (h : spec_l3Left.t3 some spec_l3Left.l7 spec_l3Left.l3 v0 v1 v2 v3 = some b) : spec_l3Left.l3 v0 v1 v2 v3 = some b := tOf_intro spec_l3Left.un (fun _ => by kernel_rfl) (loopAtL_step ((spec_l3Left.k3 v0 v1 v2 v3).trans (spec_l3Left.s3 v0 v1 v2 v3 b h)))
noncomputable def spec_l3Join.q6 (v0 : List (List Int × Int)) (v1 : List (List Int)) (v2 : List (List Int × Int)) (v3 : List Int) (v4 : Int) (v5 : List (List Int × Int)) (v6 : Int) (v7 : Int) (v8 : List (List Int × Int)) (v9 : Int) (v10 : Int) : Option R := loopAtL E (callT E tab) 103 Try.f103 3 [.r, .r, .l, .r, .b, .o, .r, .r, .l, .b, .r, .r, .b] (nn 1 (vc (.d .fro (.sl (.pair (.sl (.int .i64)) (.int .i64))) v0) :: vc (.d .fro (.sl (.sl (.int .i64))) v1) :: nn 4 (vc (.d .sha (.sl (.pair (.sl (.int .i64)) (.int .i64))) v2) :: nn 1 (⟨(.box false), [.d .fro (.sl (.int .i64)) v3, iL v4], false, false, false, 0, 0⟩ :: nn 4 (vc (.d .fro (.sl (.pair (.sl (.int .i64)) (.int .i64))) v5) :: vc (iL v6) :: vc (iL v7) :: nn 3 (vc (.d .fro (.sl (.pair (.sl (.int .i64)) (.int .i64))) v8) :: vc (iL v9) :: vc (iL v10) :: nn 24 ([])))))))
noncomputable def spec_l3Join.l6 (v0 : List (List Int × Int)) (v1 : List (List Int)) (v2 : List (List Int × Int)) (v3 : List Int) (v4 : Int) (v5 : List (List Int × Int)) (v6 : Int) (v7 : Int) (v8 : List (List Int × Int)) (v9 : Int) (v10 : Int) : Option ((List (List Int × Int))) := tOf spec_l3Join.mk (spec_l3Join.q6 v0 v1 v2 v3 v4 v5 v6 v7 v8 v9 v10)
noncomputable def spec_l3Join.q3 (v0 : List (List Int × Int)) (v1 : List (List Int)) (v2 : List (List Int × Int)) (v3 : List (List Int × Int)) (v4 : Int) (v5 : Int) : Option R := loopAtL E (callT E tab) 103 Try.f103 3 [.r, .r, .l, .r, .b] (nn 1 (vc (.d .fro (.sl (.pair (.sl (.int .i64)) (.int .i64))) v0) :: vc (.d .fro (.sl (.sl (.int .i64))) v1) :: nn 4 (vc (.d .sha (.sl (.pair (.sl (.int .i64)) (.int .i64))) v2) :: nn 6 (vc (.d .fro (.sl (.pair (.sl (.int .i64)) (.int .i64))) v3) :: vc (iL v4) :: vc (iL v5) :: nn 30 ([])))))
noncomputable def spec_l3Join.l3 (v0 : List (List Int × Int)) (v1 : List (List Int)) (v2 : List (List Int × Int)) (v3 : List (List Int × Int)) (v4 : Int) (v5 : Int) : Option ((List (List Int × Int))) := tOf spec_l3Join.mk (spec_l3Join.q3 v0 v1 v2 v3 v4 v5)
noncomputable def spec_l3Join.t {γ : Type} (ret : ((List (List Int × Int))) → Option γ) (lp6 : (List (List Int × Int)) → (List (List Int)) → (List (List Int × Int)) → (List Int) → Int → (List (List Int × Int)) → Int → Int → (List (List Int × Int)) → Int → Int → Option γ) (lp3 : (List (List Int × Int)) → (List (List Int)) → (List (List Int × Int)) → (List (List Int × Int)) → Int → Int → Option γ) (v0 : List (List Int × Int)) (v1 : List (List Int × Int)) (v2 : List (List Int)) : Option γ :=
 lp3 (v1) (v2) ([]) (v0) ((↑v0.length : Int)) ((0 : Int))
noncomputable def spec_l3Join.t6 {γ : Type} (ret : ((List (List Int × Int))) → Option γ) (lp6 : (List (List Int × Int)) → (List (List Int)) → (List (List Int × Int)) → (List Int) → Int → (List (List Int × Int)) → Int → Int → (List (List Int × Int)) → Int → Int → Option γ) (lp3 : (List (List Int × Int)) → (List (List Int)) → (List (List Int × Int)) → (List (List Int × Int)) → Int → Int → Option γ) (v0 : List (List Int × Int)) (v1 : List (List Int)) (v2 : List (List Int × Int)) (v3 : List Int) (v4 : Int) (v5 : List (List Int × Int)) (v6 : Int) (v7 : Int) (v8 : List (List Int × Int)) (v9 : Int) (v10 : Int) : Option γ :=
 bif decide (v10 < v9) then
  bif decide ((0 : Int) ≤ v10) then
   bif decide (v10.toNat < v8.length) then
    (spec_l1Join (v3) ((v8.getD v10.toNat ([], (0 : Int))).fst) (v1)).bind fun (r0 : (List Int) × Bool) =>
    bif r0.snd then
     (spec_l2Put (v2) (r0.fst) (IntKind.i64.wrap (v4 * (v8.getD v10.toNat ([], (0 : Int))).snd))).bind fun (r1 : (List (List Int × Int))) =>
     lp6 (v0) (v1) (r1) (v3) (v4) (v5) (v6) (v7) (v8) (v9) (IntKind.i64.wrap (v10 + (1 : Int)))
    else
     lp6 (v0) (v1) (v2) (v3) (v4) (v5) (v6) (v7) (v8) (v9) (IntKind.i64.wrap (v10 + (1 : Int)))
   else
    none
  else
   none
 else
  lp3 (v0) (v1) (v2) (v5) (v6) (IntKind.i64.wrap (v7 + (1 : Int)))
noncomputable def spec_l3Join.t3 {γ : Type} (ret : ((List (List Int × Int))) → Option γ) (lp6 : (List (List Int × Int)) → (List (List Int)) → (List (List Int × Int)) → (List Int) → Int → (List (List Int × Int)) → Int → Int → (List (List Int × Int)) → Int → Int → Option γ) (lp3 : (List (List Int × Int)) → (List (List Int)) → (List (List Int × Int)) → (List (List Int × Int)) → Int → Int → Option γ) (v0 : List (List Int × Int)) (v1 : List (List Int)) (v2 : List (List Int × Int)) (v3 : List (List Int × Int)) (v4 : Int) (v5 : Int) : Option γ :=
 bif decide (v5 < v4) then
  bif decide ((0 : Int) ≤ v5) then
   bif decide (v5.toNat < v3.length) then
    lp6 (v0) (v1) (v2) ((v3.getD v5.toNat ([], (0 : Int))).fst) ((v3.getD v5.toNat ([], (0 : Int))).snd) (v3) (v4) (v5) (v0) ((↑v0.length : Int)) ((0 : Int))
   else
    none
  else
   none
 else
  ret (v2)
theorem spec_l3Join.k (v0 : List (List Int × Int)) (v1 : List (List Int × Int)) (v2 : List (List Int)) : topL E (callT E tab) 103 Try.f103 (spec_l3Join.c v0 v1 v2) = spec_l3Join.t (fun b => some (spec_l3Join.mk b)) spec_l3Join.q6 spec_l3Join.q3 v0 v1 v2 := by kernel_rfl
theorem spec_l3Join.k6 (v0 : List (List Int × Int)) (v1 : List (List Int)) (v2 : List (List Int × Int)) (v3 : List Int) (v4 : Int) (v5 : List (List Int × Int)) (v6 : Int) (v7 : Int) (v8 : List (List Int × Int)) (v9 : Int) (v10 : Int) : roundL E (callT E tab) 103 Try.f103 3 [.r, .r, .l, .r, .b, .o, .r, .r, .l, .b, .r, .r, .b] (nn 1 (vc (.d .fro (.sl (.pair (.sl (.int .i64)) (.int .i64))) v0) :: vc (.d .fro (.sl (.sl (.int .i64))) v1) :: nn 4 (vc (.d .sha (.sl (.pair (.sl (.int .i64)) (.int .i64))) v2) :: nn 1 (⟨(.box false), [.d .fro (.sl (.int .i64)) v3, iL v4], false, false, false, 0, 0⟩ :: nn 4 (vc (.d .fro (.sl (.pair (.sl (.int .i64)) (.int .i64))) v5) :: vc (iL v6) :: vc (iL v7) :: nn 3 (vc (.d .fro (.sl (.pair (.sl (.int .i64)) (.int .i64))) v8) :: vc (iL v9) :: vc (iL v10) :: nn 24 ([]))))))) = spec_l3Join.t6 (fun b => some (spec_l3Join.mk b)) spec_l3Join.q6 spec_l3Join.q3 v0 v1 v2 v3 v4 v5 v6 v7 v8 v9 v10 := by kernel_rfl
theorem spec_l3Join.k3 (v0 : List (List Int × Int)) (v1 : List (List Int)) (v2 : List (List Int × Int)) (v3 : List (List Int × Int)) (v4 : Int) (v5 : Int) : roundL E (callT E tab) 103 Try.f103 3 [.r, .r, .l, .r, .b] (nn 1 (vc (.d .fro (.sl (.pair (.sl (.int .i64)) (.int .i64))) v0) :: vc (.d .fro (.sl (.sl (.int .i64))) v1) :: nn 4 (vc (.d .sha (.sl (.pair (.sl (.int .i64)) (.int .i64))) v2) :: nn 6 (vc (.d .fro (.sl (.pair (.sl (.int .i64)) (.int .i64))) v3) :: vc (iL v4) :: vc (iL v5) :: nn 30 ([]))))) = spec_l3Join.t3 (fun b => some (spec_l3Join.mk b)) spec_l3Join.q6 spec_l3Join.q3 v0 v1 v2 v3 v4 v5 := by kernel_rfl
theorem spec_l3Join.s (v0 : List (List Int × Int)) (v1 : List (List Int × Int)) (v2 : List (List Int)) : Sub spec_l3Join.mk (spec_l3Join.t some spec_l3Join.l6 spec_l3Join.l3 v0 v1 v2) (spec_l3Join.t (fun b => some (spec_l3Join.mk b)) spec_l3Join.q6 spec_l3Join.q3 v0 v1 v2) := by
 unfold spec_l3Join.t
 repeat' first | exact Sub.ret | exact Sub.none | exact Sub.loop | apply Sub.cond | (apply Sub.bind; intro _)
theorem spec_l3Join.eq (v0 : List (List Int × Int)) (v1 : List (List Int × Int)) (v2 : List (List Int)) {b : (List (List Int × Int))} (h : spec_l3Join.t some spec_l3Join.l6 spec_l3Join.l3 v0 v1 v2 = some b) : spec_l3Join v0 v1 v2 = some b := tOf_intro spec_l3Join.un (fun _ => by kernel_rfl) (vlim_fn (callT_le E tab) rfl rfl rfl ((spec_l3Join.k v0 v1 v2).trans (spec_l3Join.s v0 v1 v2 b h)))
theorem spec_l3Join.s6 (v0 : List (List Int × Int)) (v1 : List (List Int)) (v2 : List (List Int × Int)) (v3 : List Int) (v4 : Int) (v5 : List (List Int × Int)) (v6 : Int) (v7 : Int) (v8 : List (List Int × Int)) (v9 : Int) (v10 : Int) : Sub spec_l3Join.mk (spec_l3Join.t6 some spec_l3Join.l6 spec_l3Join.l3 v0 v1 v2 v3 v4 v5 v6 v7 v8 v9 v10) (spec_l3Join.t6 (fun b => some (spec_l3Join.mk b)) spec_l3Join.q6 spec_l3Join.q3 v0 v1 v2 v3 v4 v5 v6 v7 v8 v9 v10) := by
 unfold spec_l3Join.t6
 repeat' first | exact Sub.ret | exact Sub.none | exact Sub.loop | apply Sub.cond | (apply Sub.bind; intro _)
theorem spec_l3Join.eq6 (v0 : List (List Int × Int)) (v1 : List (List Int)) (v2 : List (List Int × Int)) (v3 : List Int) (v4 : Int) (v5 : List (List Int × Int)) (v6 : Int) (v7 : Int) (v8 : List (List Int × Int)) (v9 : Int) (v10 : Int) {b : (List (List Int × Int))} (h : spec_l3Join.t6 some spec_l3Join.l6 spec_l3Join.l3 v0 v1 v2 v3 v4 v5 v6 v7 v8 v9 v10 = some b) : spec_l3Join.l6 v0 v1 v2 v3 v4 v5 v6 v7 v8 v9 v10 = some b := tOf_intro spec_l3Join.un (fun _ => by kernel_rfl) (loopAtL_step ((spec_l3Join.k6 v0 v1 v2 v3 v4 v5 v6 v7 v8 v9 v10).trans (spec_l3Join.s6 v0 v1 v2 v3 v4 v5 v6 v7 v8 v9 v10 b h)))
theorem spec_l3Join.s3 (v0 : List (List Int × Int)) (v1 : List (List Int)) (v2 : List (List Int × Int)) (v3 : List (List Int × Int)) (v4 : Int) (v5 : Int) : Sub spec_l3Join.mk (spec_l3Join.t3 some spec_l3Join.l6 spec_l3Join.l3 v0 v1 v2 v3 v4 v5) (spec_l3Join.t3 (fun b => some (spec_l3Join.mk b)) spec_l3Join.q6 spec_l3Join.q3 v0 v1 v2 v3 v4 v5) := by
 unfold spec_l3Join.t3
 repeat' first | exact Sub.ret | exact Sub.none | exact Sub.loop | apply Sub.cond | (apply Sub.bind; intro _)
theorem spec_l3Join.eq3 (v0 : List (List Int × Int)) (v1 : List (List Int)) (v2 : List (List Int × Int)) (v3 : List (List Int × Int)) (v4 : Int) (v5 : Int) {b : (List (List Int × Int))} (h : spec_l3Join.t3 some spec_l3Join.l6 spec_l3Join.l3 v0 v1 v2 v3 v4 v5 = some b) : spec_l3Join.l3 v0 v1 v2 v3 v4 v5 = some b := tOf_intro spec_l3Join.un (fun _ => by kernel_rfl) (loopAtL_step ((spec_l3Join.k3 v0 v1 v2 v3 v4 v5).trans (spec_l3Join.s3 v0 v1 v2 v3 v4 v5 b h)))
noncomputable def spec_l1Join.q13 (v0 : List (List Int)) (v1 : List Int) (v2 : List Int) (v3 : Int) (v4 : Int) (v5 : Bool) (v6 : List Int) (v7 : Int) (v8 : Int) (v9 : List (List Int)) (v10 : Int) (v11 : Int) : Option R := loopAtL E (callT E tab) 136 Try.f136 3 [.r, .r, .r, .l, .r, .b, .o, .r, .r, .l, .b, .r, .r, .l, .r, .b] (nn 2 (vc (.d .fro (.sl (.sl (.int .i64))) v0) :: nn 3 (⟨(.box false), [.d .deep (.sl (.int .i64)) v1], false, false, false, 0, 0⟩ :: nn 1 (⟨(.box false), [.d .deep (.sl (.int .i64)) v2], false, false, false, 0, 0⟩ :: nn 2 (vc (iL v3) :: vc (iL v4) :: vc (bL v5) :: nn 31 (vc (.d .fro (.sl (.int .i64)) v6) :: vc (iL v7) :: vc (iL v8) :: nn 4 (vc (.d .fro (.sl (.sl (.int .i64))) v9) :: vc (iL v10) :: vc (iL v11) :: nn 26 ([]))))))))
noncomputable def spec_l1Join.l13 (v0 : List (List Int)) (v1 : List Int) (v2 : List Int) (v3 : Int) (v4 : Int) (v5 : Bool) (v6 : List Int) (v7 : Int) (v8 : Int) (v9 : List (List Int)) (v10 : Int) (v11 : Int) : Option ((List Int) × Bool) := tOf spec_l1Join.mk (spec_l1Join.q13 v0 v1 v2 v3 v4 v5 v6 v7 v8 v9 v10 v11)
noncomputable def spec_l1Join.q9 (v0 : List (List Int)) (v1 : List Int) (v2 : List Int) (v3 : List Int) (v4 : Int) (v5 : Int) : Option R := loopAtL E (callT E tab) 136 Try.f136 3 [.r, .r, .r, .l, .r, .b] (nn 2 (vc (.d .fro (.sl (.sl (.int .i64))) v0) :: nn 3 (⟨(.box false), [.d .deep (.sl (.int .i64)) v1], false, false, false, 0, 0⟩ :: nn 1 (⟨(.box false), [.d .deep (.sl (.int .i64)) v2], false, false, false, 0, 0⟩ :: nn 36 (vc (.d .fro (.sl (.int .i64)) v3) :: vc (iL v4) :: vc (iL v5) :: nn 33 ([]))))))
noncomputable def spec_l1Join.l9 (v0 : List (List Int)) (v1 : List Int) (v2 : List Int) (v3 : List Int) (v4 : Int) (v5 : Int) : Option ((List Int) × Bool) := tOf spec_l1Join.mk (spec_l1Join.q9 v0 v1 v2 v3 v4 v5)
noncomputable def spec_l1Join.q3 (v0 : List (List Int)) (v1 : List Int) (v2 : List Int) (v3 : List Int) (v4 : List Int) (v5 : List (List Int)) (v6 : Int) (v7 : Int) : Option R := loopAtL E (callT E tab) 136 Try.f136 3 [.r, .r, .l, .r, .b] (nn 2 (vc (.d .fro (.sl (.sl (.int .i64))) v0) :: ⟨(.box false), [.d .fro (.sl (.int .i64)) v1], false, false, false, 0, 0⟩ :: ⟨(.box false), [.d .fro (.sl (.int .i64)) v2], false, false, false, 0, 0⟩ :: nn 1 (⟨(.box false), [.d .deep (.sl (.int .i64)) v3], false, false, false, 0, 0⟩ :: nn 1 (⟨(.box false), [.d .deep (.sl (.int .i64)) v4], false, false, false, 0, 0⟩ :: nn 12 (vc (.d .fro (.sl (.sl (.int .i64))) v5) :: vc (iL v6) :: vc (iL v7) :: nn 57 ([]))))))
noncomputable def spec_l1Join.l3 (v0 : List (List Int)) (v1 : List Int) (v2 : List Int) (v3 : List Int) (v4 : List Int) (v5 : List (List Int)) (v6 : Int) (v7 : Int) : Option ((List Int) × Bool) := tOf spec_l1Join.mk (spec_l1Join.q3 v0 v1 v2 v3 v4 v5 v6 v7)
noncomputable def spec_l1Join.t {γ : Type} (ret : ((List Int) × Bool) → Option γ) (lp13 : (List (List Int)) → (List Int) → (List Int) → Int → Int → Bool → (List Int) → Int → Int → (List (List Int)) → Int → Int → Option γ) (lp9 : (List (List Int)) → (List Int) → (List Int) → (List Int) → Int → Int → Option γ) (lp3 : (List (List Int)) → (List Int) → (List Int) → (List Int) → (List Int) → (List (List Int)) → Int → Int → Option γ) (v0 : List Int) (v1 : List Int) (v2 : List (List Int)) : Option γ :=
 bif decide (([] : List Int).length + v0.length ≤ (4294967296 : Nat)) then
  lp3 (v2) (v0) (v1) ([]) ([] ++ v0) (v2) ((↑v2.length : Int)) ((0 : Int))
 else
  none
noncomputable def spec_l1Join.t13 {γ : Type} (ret : ((List Int) × Bool) → Option γ) (lp13 : (List (List Int)) → (List Int) → (List Int) → Int → Int → Bool → (List Int) → Int → Int → (List (List Int)) → Int → Int → Option γ) (lp9 : (List (List Int)) → (List Int) → (List Int) → (List Int) → Int → Int → Option γ) (lp3 : (List (List Int)) → (List Int) → (List Int) → (List Int) → (List Int) → (List (List Int)) → Int → Int → Option γ) (v0 : List (List Int)) (v1 : List Int) (v2 : List Int) (v3 : Int) (v4 : Int) (v5 : Bool) (v6 : List Int) (v7 : Int) (v8 : Int) (v9 : List (List Int)) (v10 : Int) (v11 : Int) : Option γ :=
 bif decide (v11 < v10) then
  bif decide ((0 : Int) ≤ v11) then
   bif decide (v11.toNat < v9.length) then
    bif v5 then
     lp13 (v0) (v1) (v2) (v3) (v4) (Bool.true) (v6) (v7) (v8) (v9) (v10) (IntKind.i64.wrap (v11 + (1 : Int)))
    else
     bif decide (Int.toNat (1 : Int) < (v9.getD v11.toNat []).length) then
      lp13 (v0) (v1) (v2) (v3) (v4) ((v9.getD v11.toNat []).getD (Int.toNat (1 : Int)) (0 : Int) == v3) (v6) (v7) (v8) (v9) (v10) (IntKind.i64.wrap (v11 + (1 : Int)))
     else
      none
   else
    none
  else
   none
 else
  bif !v5 then
   bif decide (v2.length + [v4].length ≤ (4294967296 : Nat)) then
    lp9 (v0) (v1) (v2 ++ [v4]) (v6) (v7) (IntKind.i64.wrap (v8 + (1 : Int)))
   else
    none
  else
   lp9 (v0) (v1) (v2) (v6) (v7) (IntKind.i64.wrap (v8 + (1 : Int)))
noncomputable def spec_l1Join.t9 {γ : Type} (ret : ((List Int) × Bool) → Option γ) (lp13 : (List (List Int)) → (List Int) → (List Int) → Int → Int → Bool → (List Int) → Int → Int → (List (List Int)) → Int → Int → Option γ) (lp9 : (List (List Int)) → (List Int) → (List Int) → (List Int) → Int → Int → Option γ) (lp3 : (List (List Int)) → (List Int) → (List Int) → (List Int) → (List Int) → (List (List Int)) → Int → Int → Option γ) (v0 : List (List Int)) (v1 : List Int) (v2 : List Int) (v3 : List Int) (v4 : Int) (v5 : Int) : Option γ :=
 bif decide (v5 < v4) then
  bif decide ((0 : Int) ≤ v5) then
   bif decide (v5.toNat < v3.length) then
    lp13 (v0) (v1) (v2) (v5) (v3.getD v5.toNat (0 : Int)) (Bool.false) (v3) (v4) (v5) (v0) ((↑v0.length : Int)) ((0 : Int))
   else
    none
  else
   none
 else
  ret (v2, decide ((↑v2.length : Int) ≤ (6 : Int)))
noncomputable def spec_l1Join.t3 {γ : Type} (ret : ((List Int) × Bool) → Option γ) (lp13 : (List (List Int)) → (List Int) → (List Int) → Int → Int → Bool → (List Int) → Int → Int → (List (List Int)) → Int → Int → Option γ) (lp9 : (List (List Int)) → (List Int) → (List Int) → (List Int) → Int → Int → Option γ) (lp3 : (List (List Int)) → (List Int) → (List Int) → (List Int) → (List Int) → (List (List Int)) → Int → Int → Option γ) (v0 : List (List Int)) (v1 : List Int) (v2 : List Int) (v3 : List Int) (v4 : List Int) (v5 : List (List Int)) (v6 : Int) (v7 : Int) : Option γ :=
 bif decide (v7 < v6) then
  bif decide ((0 : Int) ≤ v7) then
   bif decide (v7.toNat < v5.length) then
    bif decide (Int.toNat (0 : Int) < (v5.getD v7.toNat []).length) then
     bif decide ((0 : Int) ≤ (v5.getD v7.toNat []).getD (Int.toNat (0 : Int)) (0 : Int)) then
      bif decide (((v5.getD v7.toNat []).getD (Int.toNat (0 : Int)) (0 : Int)).toNat < v1.length) then
       bif decide (Int.toNat (1 : Int) < (v5.getD v7.toNat []).length) then
        bif decide ((0 : Int) ≤ (v5.getD v7.toNat []).getD (Int.toNat (1 : Int)) (0 : Int)) then
         bif decide (((v5.getD v7.toNat []).getD (Int.toNat (1 : Int)) (0 : Int)).toNat < v2.length) then
          bif v1.getD ((v5.getD v7.toNat []).getD (Int.toNat (0 : Int)) (0 : Int)).toNat (0 : Int) !=   v2.getD ((v5.getD v7.toNat []).getD (Int.toNat (1 : Int)) (0 : Int)).toNat (0 : Int) then
           ret ([], Bool.false)
          else
           lp3 (v0) (v1) (v2) (v3) (v4) (v5) (v6) (IntKind.i64.wrap (v7 + (1 : Int)))
         else
          none
        else
         none
       else
        none
      else
       none
     else
      none
    else
     none
   else
    none
  else
   none
 else
  lp9 (v0) (v3) (v4) (v2) ((↑v2.length : Int)) ((0 : Int))
theorem spec_l1Join.k (v0 : List Int) (v1 : List Int) (v2 : List (List Int)) : topL E (callT E tab) 136 Try.f136 (spec_l1Join.c v0 v1 v2) = spec_l1Join.t (fun b => some (spec_l1Join.mk b)) spec_l1Join.q13 spec_l1Join.q9 spec_l1Join.q3 v0 v1 v2 := by kernel_rfl
theorem spec_l1Join.k13 (v0 : List (List Int)) (v1 : List Int) (v2 : List Int) (v3 : Int) (v4 : Int) (v5 : Bool) (v6 : List Int) (v7 : Int) (v8 : Int) (v9 : List (List Int)) (v10 : Int) (v11 : Int) : roundL E (callT E tab) 136 Try.f136 3 [.r, .r, .r, .l, .r, .b, .o, .r, .r, .l, .b, .r, .r, .l, .r, .b] (nn 2 (vc (.d .fro (.sl (.sl (.int .i64))) v0) :: nn 3 (⟨(.box false), [.d .deep (.sl (.int .i64)) v1], false, false, false, 0, 0⟩ :: nn 1 (⟨(.box false), [.d .deep (.sl (.int .i64)) v2], false, false, false, 0, 0⟩ :: nn 2 (vc (iL v3) :: vc (iL v4) :: vc (bL v5) :: nn 31 (vc (.d .fro (.sl (.int .i64)) v6) :: vc (iL v7) :: vc (iL v8) :: nn 4 (vc (.d .fro (.sl (.sl (.int .i64))) v9) :: vc (iL v10) :: vc (iL v11) :: nn 26 ([])))))))) = spec_l1Join.t13 (fun b => some (spec_l1Join.mk b)) spec_l1Join.q13 spec_l1Join.q9 spec_l1Join.q3 v0 v1 v2 v3 v4 v5 v6 v7 v8 v9 v10 v11 := by kernel_rfl
theorem spec_l1Join.k9 (v0 : List (List Int)) (v1 : List Int) (v2 : List Int) (v3 : List Int) (v4 : Int) (v5 : Int) : roundL E (callT E tab) 136 Try.f136 3 [.r, .r, .r, .l, .r, .b] (nn 2 (vc (.d .fro (.sl (.sl (.int .i64))) v0) :: nn 3 (⟨(.box false), [.d .deep (.sl (.int .i64)) v1], false, false, false, 0, 0⟩ :: nn 1 (⟨(.box false), [.d .deep (.sl (.int .i64)) v2], false, false, false, 0, 0⟩ :: nn 36 (vc (.d .fro (.sl (.int .i64)) v3) :: vc (iL v4) :: vc (iL v5) :: nn 33 ([])))))) = spec_l1Join.t9 (fun b => some (spec_l1Join.mk b)) spec_l1Join.q13 spec_l1Join.q9 spec_l1Join.q3 v0 v1 v2 v3 v4 v5 := by kernel_rfl
theorem spec_l1Join.k3 (v0 : List (List Int)) (v1 : List Int) (v2 : List Int) (v3 : List Int) (v4 : List Int) (v5 : List (List Int)) (v6 : Int) (v7 : Int) : roundL E (callT E tab) 136 Try.f136 3 [.r, .r, .l, .r, .b] (nn 2 (vc (.d .fro (.sl (.sl (.int .i64))) v0) :: ⟨(.box false), [.d .fro (.sl (.int .i64)) v1], false, false, false, 0, 0⟩ :: ⟨(.box false), [.d .fro (.sl (.int .i64)) v2], false, false, false, 0, 0⟩ :: nn 1 (⟨(.box false), [.d .deep (.sl (.int .i64)) v3], false, false, false, 0, 0⟩ :: nn 1 (⟨(.box false), [.d .deep (.sl (.int .i64)) v4], false, false, false, 0, 0⟩ :: nn 12 (vc (.d .fro (.sl (.sl (.int .i64))) v5) :: vc (iL v6) :: vc (iL v7) :: nn 57 ([])))))) = spec_l1Join.t3 (fun b => some (spec_l1Join.mk b)) spec_l1Join.q13 spec_l1Join.q9 spec_l1Join.q3 v0 v1 v2 v3 v4 v5 v6 v7 := by kernel_rfl
theorem spec_l1Join.s (v0 : List Int) (v1 : List Int) (v2 : List (List Int)) : Sub spec_l1Join.mk (spec_l1Join.t some spec_l1Join.l13 spec_l1Join.l9 spec_l1Join.l3 v0 v1 v2) (spec_l1Join.t (fun b => some (spec_l1Join.mk b)) spec_l1Join.q13 spec_l1Join.q9 spec_l1Join.q3 v0 v1 v2) := by
 unfold spec_l1Join.t
 repeat' first | exact Sub.ret | exact Sub.none | exact Sub.loop | apply Sub.cond | (apply Sub.bind; intro _)
theorem spec_l1Join.eq (v0 : List Int) (v1 : List Int) (v2 : List (List Int)) {b : (List Int) × Bool} (h : spec_l1Join.t some spec_l1Join.l13 spec_l1Join.l9 spec_l1Join.l3 v0 v1 v2 = some b) : spec_l1Join v0 v1 v2 = some b := tOf_intro spec_l1Join.un (fun _ => by kernel_rfl) (vlim_fn (callT_le E tab) rfl rfl rfl ((spec_l1Join.k v0 v1 v2).trans (spec_l1Join.s v0 v1 v2 b h)))
theorem spec_l1Join.s13 (v0 : List (List Int)) (v1 : List Int) (v2 : List Int) (v3 : Int) (v4 : Int) (v5 : Bool) (v6 : List Int) (v7 : Int) (v8 : Int) (v9 : List (List Int)) (v10 : Int) (v11 : Int) : Sub spec_l1Join.mk (spec_l1Join.t13 some spec_l1Join.l13 spec_l1Join.l9 spec_l1Join.l3 v0 v1 v2 v3 v4 v5 v6 v7 v8 v9 v10 v11) (spec_l1Join.t13 (fun b => some (spec_l1Join.mk b)) spec_l1Join.q13 spec_l1Join.q9 spec_l1Join.q3 v0 v1 v2 v3 v4 v5 v6 v7 v8 v9 v10 v11) := by
 unfold spec_l1Join.t13
 repeat' first | exact Sub.ret | exact Sub.none | exact Sub.loop | apply Sub.cond | (apply Sub.bind; intro _)
theorem spec_l1Join.eq13 (v0 : List (List Int)) (v1 : List Int) (v2 : List Int) (v3 : Int) (v4 : Int) (v5 : Bool) (v6 : List Int) (v7 : Int) (v8 : Int) (v9 : List (List Int)) (v10 : Int) (v11 : Int) {b : (List Int) × Bool} (h : spec_l1Join.t13 some spec_l1Join.l13 spec_l1Join.l9 spec_l1Join.l3 v0 v1 v2 v3 v4 v5 v6 v7 v8 v9 v10 v11 = some b) : spec_l1Join.l13 v0 v1 v2 v3 v4 v5 v6 v7 v8 v9 v10 v11 = some b := tOf_intro spec_l1Join.un (fun _ => by kernel_rfl) (loopAtL_step ((spec_l1Join.k13 v0 v1 v2 v3 v4 v5 v6 v7 v8 v9 v10 v11).trans (spec_l1Join.s13 v0 v1 v2 v3 v4 v5 v6 v7 v8 v9 v10 v11 b h)))
theorem spec_l1Join.s9 (v0 : List (List Int)) (v1 : List Int) (v2 : List Int) (v3 : List Int) (v4 : Int) (v5 : Int) : Sub spec_l1Join.mk (spec_l1Join.t9 some spec_l1Join.l13 spec_l1Join.l9 spec_l1Join.l3 v0 v1 v2 v3 v4 v5) (spec_l1Join.t9 (fun b => some (spec_l1Join.mk b)) spec_l1Join.q13 spec_l1Join.q9 spec_l1Join.q3 v0 v1 v2 v3 v4 v5) := by
 unfold spec_l1Join.t9
 repeat' first | exact Sub.ret | exact Sub.none | exact Sub.loop | apply Sub.cond | (apply Sub.bind; intro _)
theorem spec_l1Join.eq9 (v0 : List (List Int)) (v1 : List Int) (v2 : List Int) (v3 : List Int) (v4 : Int) (v5 : Int) {b : (List Int) × Bool} (h : spec_l1Join.t9 some spec_l1Join.l13 spec_l1Join.l9 spec_l1Join.l3 v0 v1 v2 v3 v4 v5 = some b) : spec_l1Join.l9 v0 v1 v2 v3 v4 v5 = some b := tOf_intro spec_l1Join.un (fun _ => by kernel_rfl) (loopAtL_step ((spec_l1Join.k9 v0 v1 v2 v3 v4 v5).trans (spec_l1Join.s9 v0 v1 v2 v3 v4 v5 b h)))
theorem spec_l1Join.s3 (v0 : List (List Int)) (v1 : List Int) (v2 : List Int) (v3 : List Int) (v4 : List Int) (v5 : List (List Int)) (v6 : Int) (v7 : Int) : Sub spec_l1Join.mk (spec_l1Join.t3 some spec_l1Join.l13 spec_l1Join.l9 spec_l1Join.l3 v0 v1 v2 v3 v4 v5 v6 v7) (spec_l1Join.t3 (fun b => some (spec_l1Join.mk b)) spec_l1Join.q13 spec_l1Join.q9 spec_l1Join.q3 v0 v1 v2 v3 v4 v5 v6 v7) := by
 unfold spec_l1Join.t3
 repeat' first | exact Sub.ret | exact Sub.none | exact Sub.loop | apply Sub.cond | (apply Sub.bind; intro _)
theorem spec_l1Join.eq3 (v0 : List (List Int)) (v1 : List Int) (v2 : List Int) (v3 : List Int) (v4 : List Int) (v5 : List (List Int)) (v6 : Int) (v7 : Int) {b : (List Int) × Bool} (h : spec_l1Join.t3 some spec_l1Join.l13 spec_l1Join.l9 spec_l1Join.l3 v0 v1 v2 v3 v4 v5 v6 v7 = some b) : spec_l1Join.l3 v0 v1 v2 v3 v4 v5 v6 v7 = some b := tOf_intro spec_l1Join.un (fun _ => by kernel_rfl) (loopAtL_step ((spec_l1Join.k3 v0 v1 v2 v3 v4 v5 v6 v7).trans (spec_l1Join.s3 v0 v1 v2 v3 v4 v5 v6 v7 b h)))
noncomputable def impl_JoinTables.t {γ : Type} (ret : (Int × (List (List Int × Int)) × Bool) → Option γ) (v0 : Int) (v1 : List (List Int × Int)) (v2 : Int) (v3 : List (List Int × Int)) (v4 : List (List Int)) : Option γ :=
 (impl_GoodTable (v0) (v1)).bind fun (r0 : Bool) =>
 bif !r0 then
  ret ((0 : Int), [], Bool.false)
 else
  (impl_GoodTable (v2) (v3)).bind fun (r1 : Bool) =>
  bif !r1 then
   ret ((0 : Int), [], Bool.false)
  else
   (impl_arePairs (v4) (v0) (v2)).bind fun (r2 : Bool) =>
   bif !r2 then
    ret ((0 : Int), [], Bool.false)
   else
    (impl_Table_join (v0) (v1) (v2) (v3) (v4)).bind fun (r3 : Int × (List (List Int × Int))) =>
    (xi0s (r3.fst) (r3.snd)).bind fun (r4 : Int × (List (List Int × Int)) × Bool) =>
    ret (r4.fst, r4.snd.fst, r4.snd.snd)
theorem impl_JoinTables.k (v0 : Int) (v1 : List (List Int × Int)) (v2 : Int) (v3 : List (List Int × Int)) (v4 : List (List Int)) : topL E (callT E tab) 56 Try.f56 (impl_JoinTables.c v0 v1 v2 v3 v4) = impl_JoinTables.t (fun b => some (impl_JoinTables.mk b)) v0 v1 v2 v3 v4 := by kernel_rfl
theorem impl_JoinTables.s (v0 : Int) (v1 : List (List Int × Int)) (v2 : Int) (v3 : List (List Int × Int)) (v4 : List (List Int)) : Sub impl_JoinTables.mk (impl_JoinTables.t some v0 v1 v2 v3 v4) (impl_JoinTables.t (fun b => some (impl_JoinTables.mk b)) v0 v1 v2 v3 v4) := by
 unfold impl_JoinTables.t
 repeat' first | exact Sub.ret | exact Sub.none | exact Sub.loop | apply Sub.cond | (apply Sub.bind; intro _)
theorem impl_JoinTables.eq (v0 : Int) (v1 : List (List Int × Int)) (v2 : Int) (v3 : List (List Int × Int)) (v4 : List (List Int)) {b : Int × (List (List Int × Int)) × Bool} (h : impl_JoinTables.t some v0 v1 v2 v3 v4 = some b) : impl_JoinTables v0 v1 v2 v3 v4 = some b := tOf_intro impl_JoinTables.un (fun _ => by kernel_rfl) (vlim_fn (callT_le E tab) rfl rfl rfl ((impl_JoinTables.k v0 v1 v2 v3 v4).trans (impl_JoinTables.s v0 v1 v2 v3 v4 b h)))
noncomputable def impl_arePairs.t {γ : Type} (ret : (Bool) → Option γ) (v0 : List (List Int)) (v1 : Int) (v2 : Int) : Option γ :=
 bif decide ((↑v0.length : Int) ≤ (6 : Int)) then
  (xi0i (v0) (v1) (v2)).bind fun (r0 : Bool) =>
  ret (r0)
 else
  ret (Bool.false)
theorem impl_arePairs.k (v0 : List (List Int)) (v1 : Int) (v2 : Int) : topL E (callT E tab) 104 Try.f104 (impl_arePairs.c v0 v1 v2) = impl_arePairs.t (fun b => some (impl_arePairs.mk b)) v0 v1 v2 := by kernel_rfl
theorem impl_arePairs.s (v0 : List (List Int)) (v1 : Int) (v2 : Int) : Sub impl_arePairs.mk (impl_arePairs.t some v0 v1 v2) (impl_arePairs.t (fun b => some (impl_arePairs.mk b)) v0 v1 v2) := by
 unfold impl_arePairs.t
 repeat' first | exact Sub.ret | exact Sub.none | exact Sub.loop | apply Sub.cond | (apply Sub.bind; intro _)
theorem impl_arePairs.eq (v0 : List (List Int)) (v1 : Int) (v2 : Int) {b : Bool} (h : impl_arePairs.t some v0 v1 v2 = some b) : impl_arePairs v0 v1 v2 = some b := tOf_intro impl_arePairs.un (fun _ => by kernel_rfl) (vlim_fn (callT_le E tab) rfl rfl rfl ((impl_arePairs.k v0 v1 v2).trans (impl_arePairs.s v0 v1 v2 b h)))
noncomputable def xi0i.t {γ : Type} (ret : (Bool) → Option γ) (v0 : List (List Int)) (v1 : Int) (v2 : Int) : Option γ :=
 (xs01 (v0) (v1) (v2)).bind fun (r0 : Bool) =>
 ret (!r0)
theorem xi0i.k (v0 : List (List Int)) (v1 : Int) (v2 : Int) : topL E (callT E tab) 137 Try.f137 (xi0i.c v0 v1 v2) = xi0i.t (fun b => some (xi0i.mk b)) v0 v1 v2 := by kernel_rfl
theorem xi0i.s (v0 : List (List Int)) (v1 : Int) (v2 : Int) : Sub xi0i.mk (xi0i.t some v0 v1 v2) (xi0i.t (fun b => some (xi0i.mk b)) v0 v1 v2) := by
 unfold xi0i.t
 repeat' first | exact Sub.ret | exact Sub.none | exact Sub.loop | apply Sub.cond | (apply Sub.bind; intro _)
theorem xi0i.eq (v0 : List (List Int)) (v1 : Int) (v2 : Int) {b : Bool} (h : xi0i.t some v0 v1 v2 = some b) : xi0i v0 v1 v2 = some b := tOf_intro xi0i.un (fun _ => by kernel_rfl) (vlim_fn (callT_le E tab) rfl rfl rfl ((xi0i.k v0 v1 v2).trans (xi0i.s v0 v1 v2 b h)))
noncomputable def xs01.t {γ : Type} (ret : (Bool) → Option γ) (v0 : List (List Int)) (v1 : Int) (v2 : Int) : Option γ :=
 (xs04 (v0) (v1) (v2)).bind fun (r0 : Int) =>
 ret (decide (r0 ≥ (0 : Int)))
theorem xs01.k (v0 : List (List Int)) (v1 : Int) (v2 : Int) : topL E (callT E tab) 150 Try.f150 (xs01.c v0 v1 v2) = xs01.t (fun b => some (xs01.mk b)) v0 v1 v2 := by kernel_rfl
theorem xs01.s (v0 : List (List Int)) (v1 : Int) (v2 : Int) : Sub xs01.mk (xs01.t some v0 v1 v2) (xs01.t (fun b => some (xs01.mk b)) v0 v1 v2) := by
 unfold xs01.t
 repeat' first | exact Sub.ret | exact Sub.none | exact Sub.loop | apply Sub.cond | (apply Sub.bind; intro _)
theorem xs01.eq (v0 : List (List Int)) (v1 : Int) (v2 : Int) {b : Bool} (h : xs01.t some v0 v1 v2 = some b) : xs01 v0 v1 v2 = some b := tOf_intro xs01.un (fun _ => by kernel_rfl) (vlim_fn (callT_le E tab) rfl rfl rfl ((xs01.k v0 v1 v2).trans (xs01.s v0 v1 v2 b h)))
noncomputable def xs04.q2 (v0 : List (List Int)) (v1 : Int) (v2 : Int) (v3 : Int) (v4 : Int) : Option R := loopAtL E (callT E tab) 160 Try.f160 2 [.r, .l, .r, .b] (vc (.d .fro (.sl (.sl (.int .i64))) v0) :: vc (.fn 151 [.rp [.fn 138 [.rp [iL v1] 0, .rp [iL v2] 0]] 0]) :: nn 5 (vc (iL v3) :: vc (iL v4) :: nn 10 ([])))
noncomputable def xs04.l2 (v0 : List (List Int)) (v1 : Int) (v2 : Int) (v3 : Int) (v4 : Int) : Option (Int) := tOf xs04.mk (xs04.q2 v0 v1 v2 v3 v4)
noncomputable def xs04.t {γ : Type} (ret : (Int) → Option γ) (lp2 : (List (List Int)) → Int → Int → Int → Int → Option γ) (v0 : List (List Int)) (v1 : Int) (v2 : Int) : Option γ :=
 lp2 (v0) (v1) (v2) ((↑v0.length : Int)) ((0 : Int))
noncomputable def xs04.t2 {γ : Type} (ret : (Int) → Option γ) (lp2 : (List (List Int)) → Int → Int → Int → Int → Option γ) (v0 : List (List Int)) (v1 : Int) (v2 : Int) (v3 : Int) (v4 : Int) : Option γ :=
 bif decide (v4 < v3) then
  bif decide ((0 : Int) ≤ v4) then
   bif decide (v4.toNat < v0.length) then
    (xi0g (v0.getD v4.toNat []) (v1) (v2)).bind fun (r0 : Bool) =>
    bif r0 then
     ret (v4)
    else
     lp2 (v0) (v1) (v2) (v3) (IntKind.i64.wrap (v4 + (1 : Int)))
   else
    none
  else
   none
 else
  ret ((-1 : Int))
theorem xs04.k (v0 : List (List Int)) (v1 : Int) (v2 : Int) : topL E (callT E tab) 160 Try.f160 (xs04.c v0 v1 v2) = xs04.t (fun b => some (xs04.mk b)) xs04.q2 v0 v1 v2 := by kernel_rfl
theorem xs04.k2 (v0 : List (List Int)) (v1 : Int) (v2 : Int) (v3 : Int) (v4 : Int) : roundL E (callT E tab) 160 Try.f160 2 [.r, .l, .r, .b] (vc (.d .fro (.sl (.sl (.int .i64))) v0) :: vc (.fn 151 [.rp [.fn 138 [.rp [iL v1] 0, .rp [iL v2] 0]] 0]) :: nn 5 (vc (iL v3) :: vc (iL v4) :: nn 10 ([]))) = xs04.t2 (fun b => some (xs04.mk b)) xs04.q2 v0 v1 v2 v3 v4 := by kernel_rfl
theorem xs04.s (v0 : List (List Int)) (v1 : Int) (v2 : Int) : Sub xs04.mk (xs04.t some xs04.l2 v0 v1 v2) (xs04.t (fun b => some (xs04.mk b)) xs04.q2 v0 v1 v2) := by
 unfold xs04.t
 repeat' first | exact Sub.ret | exact Sub.none | exact Sub.loop | apply Sub.cond | (apply Sub.bind; intro _)
theorem xs04.eq (v0 : List (List Int)) (v1 : Int) (v2 : Int) {b : Int} (h : xs04.t some xs04.l2 v0 v1 v2 = some b) : xs04 v0 v1 v2 = some b := tOf_intro xs04.un (fun _ => by kernel_rfl) (vlim_fn (callT_le E tab) rfl rfl rfl ((xs04.k v0 v1 v2).trans (xs04.s v0 v1 v2 b h)))
theorem xs04.s2 (v0 : List (List Int)) (v1 : Int) (v2 : Int) (v3 : Int) (v4 : Int) : Sub xs04.mk (xs04.t2 some xs04.l2 v0 v1 v2 v3 v4) (xs04.t2 (fun b => some (xs04.mk b)) xs04.q2 v0 v1 v2 v3 v4) := by
 unfold xs04.t2
 repeat' first | exact Sub.ret | exact Sub.none | exact Sub.loop | apply Sub.cond | (apply Sub.bind; intro _)
theorem xs04.eq2 (v0 : List (List Int)) (v1 : Int) (v2 : Int) (v3 : Int) (v4 : Int) {b : Int} (h : xs04.t2 some xs04.l2 v0 v1 v2 v3 v4 = some b) : xs04.l2 v0 v1 v2 v3 v4 = some b := tOf_intro xs04.un (fun _ => by kernel_rfl) (loopAtL_step ((xs04.k2 v0 v1 v2 v3 v4).trans (xs04.s2 v0 v1 v2 v3 v4 b h)))
noncomputable def xi0g.t {γ : Type} (ret : (Bool) → Option γ) (v0 : List Int) (v1 : Int) (v2 : Int) : Option γ :=
 (impl_arePairs_1 (v0) (v1) (v2)).bind fun (r0 : Bool) =>
 ret (!r0)
theorem xi0g.k (v0 : List Int) (v1 : Int) (v2 : Int) : topL E (callT E tab) 151 Try.f151 (xi0g.c v0 v1 v2) = xi0g.t (fun b => some (xi0g.mk b)) v0 v1 v2 := by kernel_rfl
theorem xi0g.s (v0 : List Int) (v1 : Int) (v2 : Int) : Sub xi0g.mk (xi0g.t some v0 v1 v2) (xi0g.t (fun b => some (xi0g.mk b)) v0 v1 v2) := by
 unfold xi0g.t
 repeat' first | exact Sub.ret | exact Sub.none | exact Sub.loop | apply Sub.cond | (apply Sub.bind; intro _)
theorem xi0g.eq (v0 : List Int) (v1 : Int) (v2 : Int) {b : Bool} (h : xi0g.t some v0 v1 v2 = some b) : xi0g v0 v1 v2 = some b := tOf_intro xi0g.un (fun _ => by kernel_rfl) (vlim_fn (callT_le E tab) rfl rfl rfl ((xi0g.k v0 v1 v2).trans (xi0g.s v0 v1 v2 b h)))
noncomputable def impl_arePairs_1.t {γ : Type} (ret : (Bool) → Option γ) (v0 : List Int) (v1 : Int) (v2 : Int) : Option γ :=
 bif (↑v0.length : Int) == (2 : Int) then
  bif decide (Int.toNat (0 : Int) < v0.length) then
   (impl_isPlace (v0.getD (Int.toNat (0 : Int)) (0 : Int)) (v1)).bind fun (r0 : Bool) =>
   bif r0 then
    bif decide (Int.toNat (1 : Int) < v0.length) then
     (impl_isPlace (v0.getD (Int.toNat (1 : Int)) (0 : Int)) (v2)).bind fun (r1 : Bool) =>
     ret (r1)
    else
     none
   else
    ret (Bool.false)
  else
   none
 else
  ret (Bool.false)
theorem impl_arePairs_1.k (v0 : List Int) (v1 : Int) (v2 : Int) : topL E (callT E tab) 138 Try.f138 (impl_arePairs_1.c v0 v1 v2) = impl_arePairs_1.t (fun b => some (impl_arePairs_1.mk b)) v0 v1 v2 := by kernel_rfl
theorem impl_arePairs_1.s (v0 : List Int) (v1 : Int) (v2 : Int) : Sub impl_arePairs_1.mk (impl_arePairs_1.t some v0 v1 v2) (impl_arePairs_1.t (fun b => some (impl_arePairs_1.mk b)) v0 v1 v2) := by
 unfold impl_arePairs_1.t
 repeat' first | exact Sub.ret | exact Sub.none | exact Sub.loop | apply Sub.cond | (apply Sub.bind; intro _)
theorem impl_arePairs_1.eq (v0 : List Int) (v1 : Int) (v2 : Int) {b : Bool} (h : impl_arePairs_1.t some v0 v1 v2 = some b) : impl_arePairs_1 v0 v1 v2 = some b := tOf_intro impl_arePairs_1.un (fun _ => by kernel_rfl) (vlim_fn (callT_le E tab) rfl rfl rfl ((impl_arePairs_1.k v0 v1 v2).trans (impl_arePairs_1.s v0 v1 v2 b h)))
noncomputable def impl_Table_join.q6 (v0 : List (List Int)) (v1 : Int) (v2 : List (List Int × Int)) (v3 : Int) (v4 : List (List Int × Int)) (v5 : Int) (v6 : List (List Int × Int)) (v7 : List (List Int × Int)) (v8 : List Int) (v9 : Int) (v10 : List (List Int × Int)) (v11 : Int) (v12 : Int) (v13 : List (List Int × Int)) (v14 : Int) (v15 : Int) : Option R := loopAtL E (callT E tab) 105 Try.f105 3 [.r, .r, .l, .r, .b, .o, .r, .r, .l, .b, .r, .r, .b] (nn 2 (vc (.d .fro (.sl (.sl (.int .i64))) v0) :: ⟨(.box false), [iL v1, .d .fro (.sl (.pair (.sl (.int .i64)) (.int .i64))) v2], false, false, false, 0, 0⟩ :: ⟨(.box false), [iL v3, .d .fro (.sl (.pair (.sl (.int .i64)) (.int .i64))) v4], false, false, false, 0, 0⟩ :: nn 1 (⟨(.box false), [iL v5, .d .deep (.sl (.pair (.sl (.int .i64)) (.int .i64))) v6], false, false, false, 0, 0⟩ :: vc (.d .deep (.sl (.pair (.sl (.int .i64)) (.int .i64))) v7) :: nn 1 (⟨(.box false), [.d .fro (.sl (.int .i64)) v8, iL v9], false, false, false, 0, 0⟩ :: nn 5 (vc (.d .fro (.sl (.pair (.sl (.int .i64)) (.int .i64))) v10) :: vc (iL v11) :: vc (iL v12) :: nn 4 (vc (.d .fro (.sl (.pair (.sl (.int .i64)) (.int .i64))) v13) :: vc (iL v14) :: vc (iL v15) :: nn 34 ([])))))))
noncomputable def impl_Table_join.l6 (v0 : List (List Int)) (v1 : Int) (v2 : List (List Int × Int)) (v3 : Int) (v4 : List (List Int × Int)) (v5 : Int) (v6 : List (List Int × Int)) (v7 : List (List Int × Int)) (v8 : List Int) (v9 : Int) (v10 : List (List Int × Int)) (v11 : Int) (v12 : Int) (v13 : List (List Int × Int)) (v14 : Int) (v15 : Int) : Option (Int × (List (List Int × Int))) := tOf impl_Table_join.mk (impl_Table_join.q6 v0 v1 v2 v3 v4 v5 v6 v7 v8 v9 v10 v11 v12 v13 v14 v15)
noncomputable def impl_Table_join.q3 (v0 : List (List Int)) (v1 : Int) (v2 : List (List Int × Int)) (v3 : Int) (v4 : List (List Int × Int)) (v5 : Int) (v6 : List (List Int × Int)) (v7 : List (List Int × Int)) (v8 : List (List Int × Int)) (v9 : Int) (v10 : Int) : Option R := loopAtL E (callT E tab) 105 Try.f105 3 [.r, .r, .l, .r, .b] (nn 2 (vc (.d .fro (.sl (.sl (.int .i64))) v0) :: ⟨(.box false), [iL v1, .d .fro (.sl (.pair (.sl (.int .i64)) (.int .i64))) v2], false, false, false, 0, 0⟩ :: ⟨(.box false), [iL v3, .d .fro (.sl (.pair (.sl (.int .i64)) (.int .i64))) v4], false, false, false, 0, 0⟩ :: nn 1 (⟨(.box false), [iL v5, .d .deep (.sl (.pair (.sl (.int .i64)) (.int .i64))) v6], false, false, false, 0, 0⟩ :: vc (.d .deep (.sl (.pair (.sl (.int .i64)) (.int .i64))) v7) :: nn 7 (vc (.d .fro (.sl (.pair (.sl (.int .i64)) (.int .i64))) v8) :: vc (iL v9) :: vc (iL v10) :: nn 41 ([])))))
noncomputable def impl_Table_join.l3 (v0 : List (List Int)) (v1 : Int) (v2 : List (List Int × Int)) (v3 : Int) (v4 : List (List Int × Int)) (v5 : Int) (v6 : List (List Int × Int)) (v7 : List (List Int × Int)) (v8 : List (List Int × Int)) (v9 : Int) (v10 : Int) : Option (Int × (List (List Int × Int))) := tOf impl_Table_join.mk (impl_Table_join.q3 v0 v1 v2 v3 v4 v5 v6 v7 v8 v9 v10)
noncomputable def impl_Table_join.t {γ : Type} (ret : (Int × (List (List Int × Int))) → Option γ) (lp6 : (List (List Int)) → Int → (List (List Int × Int)) → Int → (List (List Int × Int)) → Int → (List (List Int × Int)) → (List (List Int × Int)) → (List Int) → Int → (List (List Int × Int)) → Int → Int → (List (List Int × Int)) → Int → Int → Option γ) (lp3 : (List (List Int)) → Int → (List (List Int × Int)) → Int → (List (List Int × Int)) → Int → (List (List Int × Int)) → (List (List Int × Int)) → (List (List Int × Int)) → Int → Int → Option γ) (v0 : Int) (v1 : List (List Int × Int)) (v2 : Int) (v3 : List (List Int × Int)) (v4 : List (List Int)) : Option γ :=
 lp3 (v4) (v0) (v1) (v2) (v3) ((0 : Int)) ([]) ([]) (v1) ((↑v1.length : Int)) ((0 : Int))
noncomputable def impl_Table_join.t6 {γ : Type} (ret : (Int × (List (List Int × Int))) → Option γ) (lp6 : (List (List Int)) → Int → (List (List Int × Int)) → Int → (List (List Int × Int)) → Int → (List (List Int × Int)) → (List (List Int × Int)) → (List Int) → Int → (List (List Int × Int)) → Int → Int → (List (List Int × Int)) → Int → Int → Option γ) (lp3 : (List (List Int)) → Int → (List (List Int × Int)) → Int → (List (List Int × Int)) → Int → (List (List Int × Int)) → (List (List Int × Int)) → (List (List Int × Int)) → Int → Int → Option γ) (v0 : List (List Int)) (v1 : Int) (v2 : List (List Int × Int)) (v3 : Int) (v4 : List (List Int × Int)) (v5 : Int) (v6 : List (List Int × Int)) (v7 : List (List Int × Int)) (v8 : List Int) (v9 : Int) (v10 : List (List Int × Int)) (v11 : Int) (v12 : Int) (v13 : List (List Int × Int)) (v14 : Int) (v15 : Int) : Option γ :=
 bif decide (v15 < v14) then
  bif decide ((0 : Int) ≤ v15) then
   bif decide (v15.toNat < v13.length) then
    (impl_joined (v8) ((v13.getD v15.toNat ([], (0 : Int))).fst) (v0)).bind fun (r0 : (List Int) × Bool) =>
    bif r0.snd then
     bif decide   (v7.length + [(r0.fst, IntKind.i64.wrap (v9 * (v13.getD v15.toNat ([], (0 : Int))).snd))].length ≤     (4294967296 : Nat)) then
      lp6 (v0) (v1) (v2) (v3) (v4) (v5) (v6) (v7 ++ [(r0.fst, IntKind.i64.wrap (v9 * (v13.getD v15.toNat ([], (0 : Int))).snd))]) (v8) (v9) (v10) (v11) (v12) (v13) (v14) (IntKind.i64.wrap (v15 + (1 : Int)))
     else
      none
    else
     lp6 (v0) (v1) (v2) (v3) (v4) (v5) (v6) (v7) (v8) (v9) (v10) (v11) (v12) (v13) (v14) (IntKind.i64.wrap (v15 + (1 : Int)))
   else
    none
  else
   none
 else
  lp3 (v0) (v1) (v2) (v3) (v4) (v5) (v6) (v7) (v10) (v11) (IntKind.i64.wrap (v12 + (1 : Int)))
noncomputable def impl_Table_join.t3 {γ : Type} (ret : (Int × (List (List Int × Int))) → Option γ) (lp6 : (List (List Int)) → Int → (List (List Int × Int)) → Int → (List (List Int × Int)) → Int → (List (List Int × Int)) → (List (List Int × Int)) → (List Int) → Int → (List (List Int × Int)) → Int → Int → (List (List Int × Int)) → Int → Int → Option γ) (lp3 : (List (List Int)) → Int → (List (List Int × Int)) → Int → (List (List Int × Int)) → Int → (List (List Int × Int)) → (List (List Int × Int)) → (List (List Int × Int)) → Int → Int → Option γ) (v0 : List (List Int)) (v1 : Int) (v2 : List (List Int × Int)) (v3 : Int) (v4 : List (List Int × Int)) (v5 : Int) (v6 : List (List Int × Int)) (v7 : List (List Int × Int)) (v8 : List (List Int × Int)) (v9 : Int) (v10 : Int) : Option γ :=
 bif decide (v10 < v9) then
  bif decide ((0 : Int) ≤ v10) then
   bif decide (v10.toNat < v8.length) then
    lp6 (v0) (v1) (v2) (v3) (v4) (v5) (v6) (v7) ((v8.getD v10.toNat ([], (0 : Int))).fst) ((v8.getD v10.toNat ([], (0 : Int))).snd) (v8) (v9) (v10) (v4) ((↑v4.length : Int)) ((0 : Int))
   else
    none
  else
   none
 else
  (impl_joinedColumns (v1) (v3) (v0)).bind fun (r1 : Int) =>
  (impl_summed (r1) ([v7])).bind fun (r2 : Int × (List (List Int × Int))) =>
  ret (r2.fst, r2.snd)
theorem impl_Table_join.k (v0 : Int) (v1 : List (List Int × Int)) (v2 : Int) (v3 : List (List Int × Int)) (v4 : List (List Int)) : topL E (callT E tab) 105 Try.f105 (impl_Table_join.c v0 v1 v2 v3 v4) = impl_Table_join.t (fun b => some (impl_Table_join.mk b)) impl_Table_join.q6 impl_Table_join.q3 v0 v1 v2 v3 v4 := by kernel_rfl
theorem impl_Table_join.k6 (v0 : List (List Int)) (v1 : Int) (v2 : List (List Int × Int)) (v3 : Int) (v4 : List (List Int × Int)) (v5 : Int) (v6 : List (List Int × Int)) (v7 : List (List Int × Int)) (v8 : List Int) (v9 : Int) (v10 : List (List Int × Int)) (v11 : Int) (v12 : Int) (v13 : List (List Int × Int)) (v14 : Int) (v15 : Int) : roundL E (callT E tab) 105 Try.f105 3 [.r, .r, .l, .r, .b, .o, .r, .r, .l, .b, .r, .r, .b] (nn 2 (vc (.d .fro (.sl (.sl (.int .i64))) v0) :: ⟨(.box false), [iL v1, .d .fro (.sl (.pair (.sl (.int .i64)) (.int .i64))) v2], false, false, false, 0, 0⟩ :: ⟨(.box false), [iL v3, .d .fro (.sl (.pair (.sl (.int .i64)) (.int .i64))) v4], false, false, false, 0, 0⟩ :: nn 1 (⟨(.box false), [iL v5, .d .deep (.sl (.pair (.sl (.int .i64)) (.int .i64))) v6], false, false, false, 0, 0⟩ :: vc (.d .deep (.sl (.pair (.sl (.int .i64)) (.int .i64))) v7) :: nn 1 (⟨(.box false), [.d .fro (.sl (.int .i64)) v8, iL v9], false, false, false, 0, 0⟩ :: nn 5 (vc (.d .fro (.sl (.pair (.sl (.int .i64)) (.int .i64))) v10) :: vc (iL v11) :: vc (iL v12) :: nn 4 (vc (.d .fro (.sl (.pair (.sl (.int .i64)) (.int .i64))) v13) :: vc (iL v14) :: vc (iL v15) :: nn 34 ([]))))))) = impl_Table_join.t6 (fun b => some (impl_Table_join.mk b)) impl_Table_join.q6 impl_Table_join.q3 v0 v1 v2 v3 v4 v5 v6 v7 v8 v9 v10 v11 v12 v13 v14 v15 := by kernel_rfl
theorem impl_Table_join.k3 (v0 : List (List Int)) (v1 : Int) (v2 : List (List Int × Int)) (v3 : Int) (v4 : List (List Int × Int)) (v5 : Int) (v6 : List (List Int × Int)) (v7 : List (List Int × Int)) (v8 : List (List Int × Int)) (v9 : Int) (v10 : Int) : roundL E (callT E tab) 105 Try.f105 3 [.r, .r, .l, .r, .b] (nn 2 (vc (.d .fro (.sl (.sl (.int .i64))) v0) :: ⟨(.box false), [iL v1, .d .fro (.sl (.pair (.sl (.int .i64)) (.int .i64))) v2], false, false, false, 0, 0⟩ :: ⟨(.box false), [iL v3, .d .fro (.sl (.pair (.sl (.int .i64)) (.int .i64))) v4], false, false, false, 0, 0⟩ :: nn 1 (⟨(.box false), [iL v5, .d .deep (.sl (.pair (.sl (.int .i64)) (.int .i64))) v6], false, false, false, 0, 0⟩ :: vc (.d .deep (.sl (.pair (.sl (.int .i64)) (.int .i64))) v7) :: nn 7 (vc (.d .fro (.sl (.pair (.sl (.int .i64)) (.int .i64))) v8) :: vc (iL v9) :: vc (iL v10) :: nn 41 ([]))))) = impl_Table_join.t3 (fun b => some (impl_Table_join.mk b)) impl_Table_join.q6 impl_Table_join.q3 v0 v1 v2 v3 v4 v5 v6 v7 v8 v9 v10 := by kernel_rfl
theorem impl_Table_join.s (v0 : Int) (v1 : List (List Int × Int)) (v2 : Int) (v3 : List (List Int × Int)) (v4 : List (List Int)) : Sub impl_Table_join.mk (impl_Table_join.t some impl_Table_join.l6 impl_Table_join.l3 v0 v1 v2 v3 v4) (impl_Table_join.t (fun b => some (impl_Table_join.mk b)) impl_Table_join.q6 impl_Table_join.q3 v0 v1 v2 v3 v4) := by
 unfold impl_Table_join.t
 repeat' first | exact Sub.ret | exact Sub.none | exact Sub.loop | apply Sub.cond | (apply Sub.bind; intro _)
theorem impl_Table_join.eq (v0 : Int) (v1 : List (List Int × Int)) (v2 : Int) (v3 : List (List Int × Int)) (v4 : List (List Int)) {b : Int × (List (List Int × Int))} (h : impl_Table_join.t some impl_Table_join.l6 impl_Table_join.l3 v0 v1 v2 v3 v4 = some b) : impl_Table_join v0 v1 v2 v3 v4 = some b := tOf_intro impl_Table_join.un (fun _ => by kernel_rfl) (vlim_fn (callT_le E tab) rfl rfl rfl ((impl_Table_join.k v0 v1 v2 v3 v4).trans (impl_Table_join.s v0 v1 v2 v3 v4 b h)))
theorem impl_Table_join.s6 (v0 : List (List Int)) (v1 : Int) (v2 : List (List Int × Int)) (v3 : Int) (v4 : List (List Int × Int)) (v5 : Int) (v6 : List (List Int × Int)) (v7 : List (List Int × Int)) (v8 : List Int) (v9 : Int) (v10 : List (List Int × Int)) (v11 : Int) (v12 : Int) (v13 : List (List Int × Int)) (v14 : Int) (v15 : Int) : Sub impl_Table_join.mk (impl_Table_join.t6 some impl_Table_join.l6 impl_Table_join.l3 v0 v1 v2 v3 v4 v5 v6 v7 v8 v9 v10 v11 v12 v13 v14 v15) (impl_Table_join.t6 (fun b => some (impl_Table_join.mk b)) impl_Table_join.q6 impl_Table_join.q3 v0 v1 v2 v3 v4 v5 v6 v7 v8 v9 v10 v11 v12 v13 v14 v15) := by
 unfold impl_Table_join.t6
 repeat' first | exact Sub.ret | exact Sub.none | exact Sub.loop | apply Sub.cond | (apply Sub.bind; intro _)
theorem impl_Table_join.eq6 (v0 : List (List Int)) (v1 : Int) (v2 : List (List Int × Int)) (v3 : Int) (v4 : List (List Int × Int)) (v5 : Int) (v6 : List (List Int × Int)) (v7 : List (List Int × Int)) (v8 : List Int) (v9 : Int) (v10 : List (List Int × Int)) (v11 : Int) (v12 : Int) (v13 : List (List Int × Int)) (v14 : Int) (v15 : Int) {b : Int × (List (List Int × Int))} (h : impl_Table_join.t6 some impl_Table_join.l6 impl_Table_join.l3 v0 v1 v2 v3 v4 v5 v6 v7 v8 v9 v10 v11 v12 v13 v14 v15 = some b) : impl_Table_join.l6 v0 v1 v2 v3 v4 v5 v6 v7 v8 v9 v10 v11 v12 v13 v14 v15 = some b := tOf_intro impl_Table_join.un (fun _ => by kernel_rfl) (loopAtL_step ((impl_Table_join.k6 v0 v1 v2 v3 v4 v5 v6 v7 v8 v9 v10 v11 v12 v13 v14 v15).trans (impl_Table_join.s6 v0 v1 v2 v3 v4 v5 v6 v7 v8 v9 v10 v11 v12 v13 v14 v15 b h)))
theorem impl_Table_join.s3 (v0 : List (List Int)) (v1 : Int) (v2 : List (List Int × Int)) (v3 : Int) (v4 : List (List Int × Int)) (v5 : Int) (v6 : List (List Int × Int)) (v7 : List (List Int × Int)) (v8 : List (List Int × Int)) (v9 : Int) (v10 : Int) : Sub impl_Table_join.mk (impl_Table_join.t3 some impl_Table_join.l6 impl_Table_join.l3 v0 v1 v2 v3 v4 v5 v6 v7 v8 v9 v10) (impl_Table_join.t3 (fun b => some (impl_Table_join.mk b)) impl_Table_join.q6 impl_Table_join.q3 v0 v1 v2 v3 v4 v5 v6 v7 v8 v9 v10) := by
 unfold impl_Table_join.t3
 repeat' first | exact Sub.ret | exact Sub.none | exact Sub.loop | apply Sub.cond | (apply Sub.bind; intro _)
theorem impl_Table_join.eq3 (v0 : List (List Int)) (v1 : Int) (v2 : List (List Int × Int)) (v3 : Int) (v4 : List (List Int × Int)) (v5 : Int) (v6 : List (List Int × Int)) (v7 : List (List Int × Int)) (v8 : List (List Int × Int)) (v9 : Int) (v10 : Int) {b : Int × (List (List Int × Int))} (h : impl_Table_join.t3 some impl_Table_join.l6 impl_Table_join.l3 v0 v1 v2 v3 v4 v5 v6 v7 v8 v9 v10 = some b) : impl_Table_join.l3 v0 v1 v2 v3 v4 v5 v6 v7 v8 v9 v10 = some b := tOf_intro impl_Table_join.un (fun _ => by kernel_rfl) (loopAtL_step ((impl_Table_join.k3 v0 v1 v2 v3 v4 v5 v6 v7 v8 v9 v10).trans (impl_Table_join.s3 v0 v1 v2 v3 v4 v5 v6 v7 v8 v9 v10 b h)))
noncomputable def impl_joined.t {γ : Type} (ret : ((List Int) × Bool) → Option γ) (v0 : List Int) (v1 : List Int) (v2 : List (List Int)) : Option γ :=
 (xi0k (v2) (v0) (v1)).bind fun (r0 : Bool) =>
 bif !r0 then
  ret ([], Bool.false)
 else
  (impl_unpaired ((↑v1.length : Int)) (v2)).bind fun (r1 : (List Int)) =>
  (impl_Row_picked (v1) (r1)).bind fun (r2 : (List Int)) =>
  (xs0q ([v0, r2])).bind fun (r3 : (List Int)) =>
  ret (r3, Bool.true)
theorem impl_joined.k (v0 : List Int) (v1 : List Int) (v2 : List (List Int)) : topL E (callT E tab) 139 Try.f139 (impl_joined.c v0 v1 v2) = impl_joined.t (fun b => some (impl_joined.mk b)) v0 v1 v2 := by kernel_rfl
theorem impl_joined.s (v0 : List Int) (v1 : List Int) (v2 : List (List Int)) : Sub impl_joined.mk (impl_joined.t some v0 v1 v2) (impl_joined.t (fun b => some (impl_joined.mk b)) v0 v1 v2) := by
 unfold impl_joined.t
 repeat' first | exact Sub.ret | exact Sub.none | exact Sub.loop | apply Sub.cond | (apply Sub.bind; intro _)
theorem impl_joined.eq (v0 : List Int) (v1 : List Int) (v2 : List (List Int)) {b : (List Int) × Bool} (h : impl_joined.t some v0 v1 v2 = some b) : impl_joined v0 v1 v2 = some b := tOf_intro impl_joined.un (fun _ => by kernel_rfl) (vlim_fn (callT_le E tab) rfl rfl rfl ((impl_joined.k v0 v1 v2).trans (impl_joined.s v0 v1 v2 b h)))
noncomputable def xi0k.t {γ : Type} (ret : (Bool) → Option γ) (v0 : List (List Int)) (v1 : List Int) (v2 : List Int) : Option γ :=
 (xs02 (v0) (v1) (v2)).bind fun (r0 : Bool) =>
 ret (!r0)
theorem xi0k.k (v0 : List (List Int)) (v1 : List Int) (v2 : List Int) : topL E (callT E tab) 137 Try.f137 (xi0k.c v0 v1 v2) = xi0k.t (fun b => some (xi0k.mk b)) v0 v1 v2 := by kernel_rfl
theorem xi0k.s (v0 : List (List Int)) (v1 : List Int) (v2 : List Int) : Sub xi0k.mk (xi0k.t some v0 v1 v2) (xi0k.t (fun b => some (xi0k.mk b)) v0 v1 v2) := by
 unfold xi0k.t
 repeat' first | exact Sub.ret | exact Sub.none | exact Sub.loop | apply Sub.cond | (apply Sub.bind; intro _)
theorem xi0k.eq (v0 : List (List Int)) (v1 : List Int) (v2 : List Int) {b : Bool} (h : xi0k.t some v0 v1 v2 = some b) : xi0k v0 v1 v2 = some b := tOf_intro xi0k.un (fun _ => by kernel_rfl) (vlim_fn (callT_le E tab) rfl rfl rfl ((xi0k.k v0 v1 v2).trans (xi0k.s v0 v1 v2 b h)))
noncomputable def xs02.t {γ : Type} (ret : (Bool) → Option γ) (v0 : List (List Int)) (v1 : List Int) (v2 : List Int) : Option γ :=
 (xs06 (v0) (v1) (v2)).bind fun (r0 : Int) =>
 ret (decide (r0 ≥ (0 : Int)))
theorem xs02.k (v0 : List (List Int)) (v1 : List Int) (v2 : List Int) : topL E (callT E tab) 150 Try.f150 (xs02.c v0 v1 v2) = xs02.t (fun b => some (xs02.mk b)) v0 v1 v2 := by kernel_rfl
theorem xs02.s (v0 : List (List Int)) (v1 : List Int) (v2 : List Int) : Sub xs02.mk (xs02.t some v0 v1 v2) (xs02.t (fun b => some (xs02.mk b)) v0 v1 v2) := by
 unfold xs02.t
 repeat' first | exact Sub.ret | exact Sub.none | exact Sub.loop | apply Sub.cond | (apply Sub.bind; intro _)
theorem xs02.eq (v0 : List (List Int)) (v1 : List Int) (v2 : List Int) {b : Bool} (h : xs02.t some v0 v1 v2 = some b) : xs02 v0 v1 v2 = some b := tOf_intro xs02.un (fun _ => by kernel_rfl) (vlim_fn (callT_le E tab) rfl rfl rfl ((xs02.k v0 v1 v2).trans (xs02.s v0 v1 v2 b h)))
noncomputable def xs06.q2 (v0 : List (List Int)) (v1 : List Int) (v2 : List Int) (v3 : Int) (v4 : Int) : Option R := loopAtL E (callT E tab) 160 Try.f160 2 [.r, .l, .r, .b] (vc (.d .fro (.sl (.sl (.int .i64))) v0) :: vc (.fn 151 [.rp [.fn 152 [.rp [.d .fro (.sl (.int .i64)) v1] 0, .rp [.d .fro (.sl (.int .i64)) v2] 0]] 0]) :: nn 5 (vc (iL v3) :: vc (iL v4) :: nn 10 ([])))
noncomputable def xs06.l2 (v0 : List (List Int)) (v1 : List Int) (v2 : List Int) (v3 : Int) (v4 : Int) : Option (Int) := tOf xs06.mk (xs06.q2 v0 v1 v2 v3 v4)
noncomputable def xs06.t {γ : Type} (ret : (Int) → Option γ) (lp2 : (List (List Int)) → (List Int) → (List Int) → Int → Int → Option γ) (v0 : List (List Int)) (v1 : List Int) (v2 : List Int) : Option γ :=
 lp2 (v0) (v1) (v2) ((↑v0.length : Int)) ((0 : Int))
noncomputable def xs06.t2 {γ : Type} (ret : (Int) → Option γ) (lp2 : (List (List Int)) → (List Int) → (List Int) → Int → Int → Option γ) (v0 : List (List Int)) (v1 : List Int) (v2 : List Int) (v3 : Int) (v4 : Int) : Option γ :=
 bif decide (v4 < v3) then
  bif decide ((0 : Int) ≤ v4) then
   bif decide (v4.toNat < v0.length) then
    (xi0h (v0.getD v4.toNat []) (v1) (v2)).bind fun (r0 : Bool) =>
    bif r0 then
     ret (v4)
    else
     lp2 (v0) (v1) (v2) (v3) (IntKind.i64.wrap (v4 + (1 : Int)))
   else
    none
  else
   none
 else
  ret ((-1 : Int))
theorem xs06.k (v0 : List (List Int)) (v1 : List Int) (v2 : List Int) : topL E (callT E tab) 160 Try.f160 (xs06.c v0 v1 v2) = xs06.t (fun b => some (xs06.mk b)) xs06.q2 v0 v1 v2 := by kernel_rfl
theorem xs06.k2 (v0 : List (List Int)) (v1 : List Int) (v2 : List Int) (v3 : Int) (v4 : Int) : roundL E (callT E tab) 160 Try.f160 2 [.r, .l, .r, .b] (vc (.d .fro (.sl (.sl (.int .i64))) v0) :: vc (.fn 151 [.rp [.fn 152 [.rp [.d .fro (.sl (.int .i64)) v1] 0, .rp [.d .fro (.sl (.int .i64)) v2] 0]] 0]) :: nn 5 (vc (iL v3) :: vc (iL v4) :: nn 10 ([]))) = xs06.t2 (fun b => some (xs06.mk b)) xs06.q2 v0 v1 v2 v3 v4 := by kernel_rfl
theorem xs06.s (v0 : List (List Int)) (v1 : List Int) (v2 : List Int) : Sub xs06.mk (xs06.t some xs06.l2 v0 v1 v2) (xs06.t (fun b => some (xs06.mk b)) xs06.q2 v0 v1 v2) := by
 unfold xs06.t
 repeat' first | exact Sub.ret | exact Sub.none | exact Sub.loop | apply Sub.cond | (apply Sub.bind; intro _)
theorem xs06.eq (v0 : List (List Int)) (v1 : List Int) (v2 : List Int) {b : Int} (h : xs06.t some xs06.l2 v0 v1 v2 = some b) : xs06 v0 v1 v2 = some b := tOf_intro xs06.un (fun _ => by kernel_rfl) (vlim_fn (callT_le E tab) rfl rfl rfl ((xs06.k v0 v1 v2).trans (xs06.s v0 v1 v2 b h)))
theorem xs06.s2 (v0 : List (List Int)) (v1 : List Int) (v2 : List Int) (v3 : Int) (v4 : Int) : Sub xs06.mk (xs06.t2 some xs06.l2 v0 v1 v2 v3 v4) (xs06.t2 (fun b => some (xs06.mk b)) xs06.q2 v0 v1 v2 v3 v4) := by
 unfold xs06.t2
 repeat' first | exact Sub.ret | exact Sub.none | exact Sub.loop | apply Sub.cond | (apply Sub.bind; intro _)
theorem xs06.eq2 (v0 : List (List Int)) (v1 : List Int) (v2 : List Int) (v3 : Int) (v4 : Int) {b : Int} (h : xs06.t2 some xs06.l2 v0 v1 v2 v3 v4 = some b) : xs06.l2 v0 v1 v2 v3 v4 = some b := tOf_intro xs06.un (fun _ => by kernel_rfl) (loopAtL_step ((xs06.k2 v0 v1 v2 v3 v4).trans (xs06.s2 v0 v1 v2 v3 v4 b h)))
noncomputable def xi0h.t {γ : Type} (ret : (Bool) → Option γ) (v0 : List Int) (v1 : List Int) (v2 : List Int) : Option γ :=
 (impl_joined_1 (v0) (v1) (v2)).bind fun (r0 : Bool) =>
 ret (!r0)
theorem xi0h.k (v0 : List Int) (v1 : List Int) (v2 : List Int) : topL E (callT E tab) 151 Try.f151 (xi0h.c v0 v1 v2) = xi0h.t (fun b => some (xi0h.mk b)) v0 v1 v2 := by kernel_rfl
theorem xi0h.s (v0 : List Int) (v1 : List Int) (v2 : List Int) : Sub xi0h.mk (xi0h.t some v0 v1 v2) (xi0h.t (fun b => some (xi0h.mk b)) v0 v1 v2) := by
 unfold xi0h.t
 repeat' first | exact Sub.ret | exact Sub.none | exact Sub.loop | apply Sub.cond | (apply Sub.bind; intro _)
theorem xi0h.eq (v0 : List Int) (v1 : List Int) (v2 : List Int) {b : Bool} (h : xi0h.t some v0 v1 v2 = some b) : xi0h v0 v1 v2 = some b := tOf_intro xi0h.un (fun _ => by kernel_rfl) (vlim_fn (callT_le E tab) rfl rfl rfl ((xi0h.k v0 v1 v2).trans (xi0h.s v0 v1 v2 b h)))
noncomputable def impl_joined_1.t {γ : Type} (ret : (Bool) → Option γ) (v0 : List Int) (v1 : List Int) (v2 : List Int) : Option γ :=
 bif decide (Int.toNat (0 : Int) < v0.length) then
  bif decide ((0 : Int) ≤ v0.getD (Int.toNat (0 : Int)) (0 : Int)) then
   bif decide ((v0.getD (Int.toNat (0 : Int)) (0 : Int)).toNat < v1.length) then
    bif decide (Int.toNat (1 : Int) < v0.length) then
     bif decide ((0 : Int) ≤ v0.getD (Int.toNat (1 : Int)) (0 : Int)) then
      bif decide ((v0.getD (Int.toNat (1 : Int)) (0 : Int)).toNat < v2.length) then
       ret (v1.getD (v0.getD (Int.toNat (0 : Int)) (0 : Int)).toNat (0 : Int) ==   v2.getD (v0.getD (Int.toNat (1 : Int)) (0 : Int)).toNat (0 : Int))
      else
       none
     else
      none
    else
     none
   else
    none
  else
   none
 else
  none
theorem impl_joined_1.k (v0 : List Int) (v1 : List Int) (v2 : List Int) : topL E (callT E tab) 152 Try.f152 (impl_joined_1.c v0 v1 v2) = impl_joined_1.t (fun b => some (impl_joined_1.mk b)) v0 v1 v2 := by kernel_rfl
theorem impl_joined_1.s (v0 : List Int) (v1 : List Int) (v2 : List Int) : Sub impl_joined_1.mk (impl_joined_1.t some v0 v1 v2) (impl_joined_1.t (fun b => some (impl_joined_1.mk b)) v0 v1 v2) := by
 unfold impl_joined_1.t
 repeat' first | exact Sub.ret | exact Sub.none | exact Sub.loop | apply Sub.cond | (apply Sub.bind; intro _)
theorem impl_joined_1.eq (v0 : List Int) (v1 : List Int) (v2 : List Int) {b : Bool} (h : impl_joined_1.t some v0 v1 v2 = some b) : impl_joined_1 v0 v1 v2 = some b := tOf_intro impl_joined_1.un (fun _ => by kernel_rfl) (vlim_fn (callT_le E tab) rfl rfl rfl ((impl_joined_1.k v0 v1 v2).trans (impl_joined_1.s v0 v1 v2 b h)))
noncomputable def impl_unpaired.q3 (v0 : List (List Int)) (v1 : List Int) (v2 : Int) (v3 : Int) : Option R := loopAtL E (callT E tab) 154 Try.f154 2 [.r, .r, .l, .r, .b] (nn 1 (vc (.d .fro (.sl (.sl (.int .i64))) v0) :: nn 3 (vc (.d .deep (.sl (.int .i64)) v1) :: nn 1 (vc (iL v2) :: vc (iL v3) :: nn 12 ([])))))
noncomputable def impl_unpaired.l3 (v0 : List (List Int)) (v1 : List Int) (v2 : Int) (v3 : Int) : Option ((List Int)) := tOf impl_unpaired.mk (impl_unpaired.q3 v0 v1 v2 v3)
noncomputable def impl_unpaired.t {γ : Type} (ret : ((List Int)) → Option γ) (lp3 : (List (List Int)) → (List Int) → Int → Int → Option γ) (v0 : Int) (v1 : List (List Int)) : Option γ :=
 lp3 (v1) ([]) (v0) ((0 : Int))
noncomputable def impl_unpaired.t3 {γ : Type} (ret : ((List Int)) → Option γ) (lp3 : (List (List Int)) → (List Int) → Int → Int → Option γ) (v0 : List (List Int)) (v1 : List Int) (v2 : Int) (v3 : Int) : Option γ :=
 bif decide (v3 < v2) then
  (xs0c (v0) (v3)).bind fun (r0 : Bool) =>
  bif !r0 then
   bif decide (v1.length + [v3].length ≤ (4294967296 : Nat)) then
    lp3 (v0) (v1 ++ [v3]) (v2) (IntKind.i64.wrap (v3 + (1 : Int)))
   else
    none
  else
   lp3 (v0) (v1) (v2) (IntKind.i64.wrap (v3 + (1 : Int)))
 else
  ret (v1)
theorem impl_unpaired.k (v0 : Int) (v1 : List (List Int)) : topL E (callT E tab) 154 Try.f154 (impl_unpaired.c v0 v1) = impl_unpaired.t (fun b => some (impl_unpaired.mk b)) impl_unpaired.q3 v0 v1 := by kernel_rfl
theorem impl_unpaired.k3 (v0 : List (List Int)) (v1 : List Int) (v2 : Int) (v3 : Int) : roundL E (callT E tab) 154 Try.f154 2 [.r, .r, .l, .r, .b] (nn 1 (vc (.d .fro (.sl (.sl (.int .i64))) v0) :: nn 3 (vc (.d .deep (.sl (.int .i64)) v1) :: nn 1 (vc (iL v2) :: vc (iL v3) :: nn 12 ([]))))) = impl_unpaired.t3 (fun b => some (impl_unpaired.mk b)) impl_unpaired.q3 v0 v1 v2 v3 := by kernel_rfl
theorem impl_unpaired.s (v0 : Int) (v1 : List (List Int)) : Sub impl_unpaired.mk (impl_unpaired.t some impl_unpaired.l3 v0 v1) (impl_unpaired.t (fun b => some (impl_unpaired.mk b)) impl_unpaired.q3 v0 v1) := by
 unfold impl_unpaired.t
 repeat' first | exact Sub.ret | exact Sub.none | exact Sub.loop | apply Sub.cond | (apply Sub.bind; intro _)
theorem impl_unpaired.eq (v0 : Int) (v1 : List (List Int)) {b : (List Int)} (h : impl_unpaired.t some impl_unpaired.l3 v0 v1 = some b) : impl_unpaired v0 v1 = some b := tOf_intro impl_unpaired.un (fun _ => by kernel_rfl) (vlim_fn (callT_le E tab) rfl rfl rfl ((impl_unpaired.k v0 v1).trans (impl_unpaired.s v0 v1 b h)))
theorem impl_unpaired.s3 (v0 : List (List Int)) (v1 : List Int) (v2 : Int) (v3 : Int) : Sub impl_unpaired.mk (impl_unpaired.t3 some impl_unpaired.l3 v0 v1 v2 v3) (impl_unpaired.t3 (fun b => some (impl_unpaired.mk b)) impl_unpaired.q3 v0 v1 v2 v3) := by
 unfold impl_unpaired.t3
 repeat' first | exact Sub.ret | exact Sub.none | exact Sub.loop | apply Sub.cond | (apply Sub.bind; intro _)
theorem impl_unpaired.eq3 (v0 : List (List Int)) (v1 : List Int) (v2 : Int) (v3 : Int) {b : (List Int)} (h : impl_unpaired.t3 some impl_unpaired.l3 v0 v1 v2 v3 = some b) : impl_unpaired.l3 v0 v1 v2 v3 = some b := tOf_intro impl_unpaired.un (fun _ => by kernel_rfl) (loopAtL_step ((impl_unpaired.k3 v0 v1 v2 v3).trans (impl_unpaired.s3 v0 v1 v2 v3 b h)))
noncomputable def xs0c.t {γ : Type} (ret : (Bool) → Option γ) (v0 : List (List Int)) (v1 : Int) : Option γ :=
 (xs0f (v0) (v1)).bind fun (r0 : Int) =>
 ret (decide (r0 ≥ (0 : Int)))
theorem xs0c.k (v0 : List (List Int)) (v1 : Int) : topL E (callT E tab) 150 Try.f150 (xs0c.c v0 v1) = xs0c.t (fun b => some (xs0c.mk b)) v0 v1 := by kernel_rfl
theorem xs0c.s (v0 : List (List Int)) (v1 : Int) : Sub xs0c.mk (xs0c.t some v0 v1) (xs0c.t (fun b => some (xs0c.mk b)) v0 v1) := by
 unfold xs0c.t
 repeat' first | exact Sub.ret | exact Sub.none | exact Sub.loop | apply Sub.cond | (apply Sub.bind; intro _)
theorem xs0c.eq (v0 : List (List Int)) (v1 : Int) {b : Bool} (h : xs0c.t some v0 v1 = some b) : xs0c v0 v1 = some b := tOf_intro xs0c.un (fun _ => by kernel_rfl) (vlim_fn (callT_le E tab) rfl rfl rfl ((xs0c.k v0 v1).trans (xs0c.s v0 v1 b h)))
end GoV

/- Equations of the program's functions (printed by wip/tools/emit.py). -/
namespace GoV
open Go Go.Proofs
set_option maxRecDepth 100000

noncomputable def xs0f.q2 (v0 : List (List Int)) (v1 : Int) (v2 : Int) (v3 : Int) : Option R := loopAtL E (callT E tab) 160 Try.f160 2 [.r, .l, .r, .b] (vc (.d .fro (.sl (.sl (.int .i64))) v0) :: vc (.fn 162 [.rp [iL v1] 0]) :: nn 5 (vc (iL v2) :: vc (iL v3) :: nn 10 ([])))
noncomputable def xs0f.l2 (v0 : List (List Int)) (v1 : Int) (v2 : Int) (v3 : Int) : Option (Int) := tOf xs0f.mk (xs0f.q2 v0 v1 v2 v3)
noncomputable def xs0f.t {γ : Type} (ret : (Int) → Option γ) (lp2 : (List (List Int)) → Int → Int → Int → Option γ) (v0 : List (List Int)) (v1 : Int) : Option γ :=
 lp2 (v0) (v1) ((↑v0.length : Int)) ((0 : Int))
noncomputable def xs0f.t2 {γ : Type} (ret : (Int) → Option γ) (lp2 : (List (List Int)) → Int → Int → Int → Option γ) (v0 : List (List Int)) (v1 : Int) (v2 : Int) (v3 : Int) : Option γ :=
 bif decide (v3 < v2) then
  bif decide ((0 : Int) ≤ v3) then
   bif decide (v3.toNat < v0.length) then
    (impl_unpaired_1 (v0.getD v3.toNat []) (v1)).bind fun (r0 : Bool) =>
    bif r0 then
     ret (v3)
    else
     lp2 (v0) (v1) (v2) (IntKind.i64.wrap (v3 + (1 : Int)))
   else
    none
  else
   none
 else
  ret ((-1 : Int))
theorem xs0f.k (v0 : List (List Int)) (v1 : Int) : topL E (callT E tab) 160 Try.f160 (xs0f.c v0 v1) = xs0f.t (fun b => some (xs0f.mk b)) xs0f.q2 v0 v1 := by kernel_rfl
theorem xs0f.k2 (v0 : List (List Int)) (v1 : Int) (v2 : Int) (v3 : Int) : roundL E (callT E tab) 160 Try.f160 2 [.r, .l, .r, .b] (vc (.d .fro (.sl (.sl (.int .i64))) v0) :: vc (.fn 162 [.rp [iL v1] 0]) :: nn 5 (vc (iL v2) :: vc (iL v3) :: nn 10 ([]))) = xs0f.t2 (fun b => some (xs0f.mk b)) xs0f.q2 v0 v1 v2 v3 := by kernel_rfl
theorem xs0f.s (v0 : List (List Int)) (v1 : Int) : Sub xs0f.mk (xs0f.t some xs0f.l2 v0 v1) (xs0f.t (fun b => some (xs0f.mk b)) xs0f.q2 v0 v1) := by
 unfold xs0f.t
 repeat' first | exact Sub.ret | exact Sub.none | exact Sub.loop | apply Sub.cond | (apply Sub.bind; intro _)
theorem xs0f.eq (v0 : List (List Int)) (v1 : Int) {b : Int} (h : xs0f.t some xs0f.l2 v0 v1 = some b) : xs0f v0 v1 = some b := tOf_intro xs0f.un (fun _ => by kernel_rfl) (vlim_fn (callT_le E tab) rfl rfl rfl ((xs0f.k v0 v1).trans (xs0f.s v0 v1 b h)))
theorem xs0f.s2 (v0 : List (List Int)) (v1 : Int) (v2 : Int) (v3 : Int) : Sub xs0f.mk (xs0f.t2 some xs0f.l2 v0 v1 v2 v3) (xs0f.t2 (fun b => some (xs0f.mk b)) xs0f.q2 v0 v1 v2 v3) := by
 unfold xs0f.t2
 repeat' first | exact Sub.ret | exact Sub.none | exact Sub.loop | apply Sub.cond | (apply Sub.bind; intro _)
theorem xs0f.eq2 (v0 : List (List Int)) (v1 : Int) (v2 : Int) (v3 : Int) {b : Int} (h : xs0f.t2 some xs0f.l2 v0 v1 v2 v3 = some b) : xs0f.l2 v0 v1 v2 v3 = some b := tOf_intro xs0f.un (fun _ => by kernel_rfl) (loopAtL_step ((xs0f.k2 v0 v1 v2 v3).trans (xs0f.s2 v0 v1 v2 v3 b h)))
noncomputable def impl_unpaired_1.t {γ : Type} (ret : (Bool) → Option γ) (v0 : List Int) (v1 : Int) : Option γ :=
 bif decide (Int.toNat (1 : Int) < v0.length) then
  ret (v0.getD (Int.toNat (1 : Int)) (0 : Int) == v1)
 else
  none
theorem impl_unpaired_1.k (v0 : List Int) (v1 : Int) : topL E (callT E tab) 162 Try.f162 (impl_unpaired_1.c v0 v1) = impl_unpaired_1.t (fun b => some (impl_unpaired_1.mk b)) v0 v1 := by kernel_rfl
theorem impl_unpaired_1.s (v0 : List Int) (v1 : Int) : Sub impl_unpaired_1.mk (impl_unpaired_1.t some v0 v1) (impl_unpaired_1.t (fun b => some (impl_unpaired_1.mk b)) v0 v1) := by
 unfold impl_unpaired_1.t
 repeat' first | exact Sub.ret | exact Sub.none | exact Sub.loop | apply Sub.cond | (apply Sub.bind; intro _)
theorem impl_unpaired_1.eq (v0 : List Int) (v1 : Int) {b : Bool} (h : impl_unpaired_1.t some v0 v1 = some b) : impl_unpaired_1 v0 v1 = some b := tOf_intro impl_unpaired_1.un (fun _ => by kernel_rfl) (vlim_fn (callT_le E tab) rfl rfl rfl ((impl_unpaired_1.k v0 v1).trans (impl_unpaired_1.s v0 v1 b h)))
noncomputable def xs0q.q11 (v0 : List Int) (v1 : List (List Int)) (v2 : Int) (v3 : Int) : Option R := loopAtL E (callT E tab) 153 Try.f153 1 [.r, .r, .r, .r, .l, .r, .b] (nn 6 (vc (.d .deep (.sl (.int .i64)) v0) :: nn 18 (vc (.d .fro (.sl (.sl (.int .i64))) v1) :: vc (iL v2) :: vc (iL v3) :: nn 8 ([]))))
noncomputable def xs0q.l11 (v0 : List Int) (v1 : List (List Int)) (v2 : Int) (v3 : Int) : Option ((List Int)) := tOf xs0q.mk (xs0q.q11 v0 v1 v2 v3)
noncomputable def xs0q.q3 (v0 : List (List Int)) (v1 : Int) (v2 : List (List Int)) (v3 : Int) (v4 : Int) : Option R := loopAtL E (callT E tab) 153 Try.f153 1 [.r, .r, .l, .r, .b] (vc (.d .fro (.sl (.sl (.int .i64))) v0) :: nn 2 (vc (iL v1) :: nn 5 (vc (.d .fro (.sl (.sl (.int .i64))) v2) :: vc (iL v3) :: vc (iL v4) :: nn 24 ([]))))
noncomputable def xs0q.l3 (v0 : List (List Int)) (v1 : Int) (v2 : List (List Int)) (v3 : Int) (v4 : Int) : Option ((List Int)) := tOf xs0q.mk (xs0q.q3 v0 v1 v2 v3 v4)
noncomputable def xs0q.t {γ : Type} (ret : ((List Int)) → Option γ) (lp11 : (List Int) → (List (List Int)) → Int → Int → Option γ) (lp3 : (List (List Int)) → Int → (List (List Int)) → Int → Int → Option γ) (v0 : List (List Int)) : Option γ :=
 lp3 (v0) ((0 : Int)) (v0) ((↑v0.length : Int)) ((0 : Int))
noncomputable def xs0q.t11 {γ : Type} (ret : ((List Int)) → Option γ) (lp11 : (List Int) → (List (List Int)) → Int → Int → Option γ) (lp3 : (List (List Int)) → Int → (List (List Int)) → Int → Int → Option γ) (v0 : List Int) (v1 : List (List Int)) (v2 : Int) (v3 : Int) : Option γ :=
 bif decide (v3 < v2) then
  bif decide ((0 : Int) ≤ v3) then
   bif decide (v3.toNat < v1.length) then
    bif decide (v0.length + (v1.getD v3.toNat []).length ≤ (4294967296 : Nat)) then
     lp11 (v0 ++ v1.getD v3.toNat []) (v1) (v2) (IntKind.i64.wrap (v3 + (1 : Int)))
    else
     none
   else
    none
  else
   none
 else
  ret (v0)
noncomputable def xs0q.t3 {γ : Type} (ret : ((List Int)) → Option γ) (lp11 : (List Int) → (List (List Int)) → Int → Int → Option γ) (lp3 : (List (List Int)) → Int → (List (List Int)) → Int → Int → Option γ) (v0 : List (List Int)) (v1 : Int) (v2 : List (List Int)) (v3 : Int) (v4 : Int) : Option γ :=
 bif decide (v4 < v3) then
  bif decide ((0 : Int) ≤ v4) then
   bif decide (v4.toNat < v2.length) then
    bif decide (IntKind.i64.wrap (v1 + (↑(v2.getD v4.toNat []).length : Int)) < (0 : Int)) then
     none
    else
     lp3 (v0) (IntKind.i64.wrap (v1 + (↑(v2.getD v4.toNat []).length : Int))) (v2) (v3) (IntKind.i64.wrap (v4 + (1 : Int)))
   else
    none
  else
   none
 else
  (xs0m (v1)).bind fun (r0 : (List Int)) =>
  lp11 (r0) (v0) ((↑v0.length : Int)) ((0 : Int))
theorem xs0q.k (v0 : List (List Int)) : topL E (callT E tab) 153 Try.f153 (xs0q.c v0) = xs0q.t (fun b => some (xs0q.mk b)) xs0q.q11 xs0q.q3 v0 := by kernel_rfl
theorem xs0q.k11 (v0 : List Int) (v1 : List (List Int)) (v2 : Int) (v3 : Int) : roundL E (callT E tab) 153 Try.f153 1 [.r, .r, .r, .r, .l, .r, .b] (nn 6 (vc (.d .deep (.sl (.int .i64)) v0) :: nn 18 (vc (.d .fro (.sl (.sl (.int .i64))) v1) :: vc (iL v2) :: vc (iL v3) :: nn 8 ([])))) = xs0q.t11 (fun b => some (xs0q.mk b)) xs0q.q11 xs0q.q3 v0 v1 v2 v3 := by kernel_rfl
theorem xs0q.k3 (v0 : List (List Int)) (v1 : Int) (v2 : List (List Int)) (v3 : Int) (v4 : Int) : roundL E (callT E tab) 153 Try.f153 1 [.r, .r, .l, .r, .b] (vc (.d .fro (.sl (.sl (.int .i64))) v0) :: nn 2 (vc (iL v1) :: nn 5 (vc (.d .fro (.sl (.sl (.int .i64))) v2) :: vc (iL v3) :: vc (iL v4) :: nn 24 ([])))) = xs0q.t3 (fun b => some (xs0q.mk b)) xs0q.q11 xs0q.q3 v0 v1 v2 v3 v4 := by kernel_rfl
theorem xs0q.s (v0 : List (List Int)) : Sub xs0q.mk (xs0q.t some xs0q.l11 xs0q.l3 v0) (xs0q.t (fun b => some (xs0q.mk b)) xs0q.q11 xs0q.q3 v0) := by
 unfold xs0q.t
 repeat' first | exact Sub.ret | exact Sub.none | exact Sub.loop | apply Sub.cond | (apply Sub.bind; intro _)
theorem xs0q.eq (v0 : List (List Int)) {b : (List Int)} (h : xs0q.t some xs0q.l11 xs0q.l3 v0 = some b) : xs0q v0 = some b := tOf_intro xs0q.un (fun _ => by kernel_rfl) (vlim_fn (callT_le E tab) rfl rfl rfl ((xs0q.k v0).trans (xs0q.s v0 b h)))
theorem xs0q.s11 (v0 : List Int) (v1 : List (List Int)) (v2 : Int) (v3 : Int) : Sub xs0q.mk (xs0q.t11 some xs0q.l11 xs0q.l3 v0 v1 v2 v3) (xs0q.t11 (fun b => some (xs0q.mk b)) xs0q.q11 xs0q.q3 v0 v1 v2 v3) := by
 unfold xs0q.t11
 repeat' first | exact Sub.ret | exact Sub.none | exact Sub.loop | apply Sub.cond | (apply Sub.bind; intro _)
theorem xs0q.eq11 (v0 : List Int) (v1 : List (List Int)) (v2 : Int) (v3 : Int) {b : (List Int)} (h : xs0q.t11 some xs0q.l11 xs0q.l3 v0 v1 v2 v3 = some b) : xs0q.l11 v0 v1 v2 v3 = some b := tOf_intro xs0q.un (fun _ => by kernel_rfl) (loopAtL_step ((xs0q.k11 v0 v1 v2 v3).trans (xs0q.s11 v0 v1 v2 v3 b h)))
theorem xs0q.s3 (v0 : List (List Int)) (v1 : Int) (v2 : List (List Int)) (v3 : Int) (v4 : Int) : Sub xs0q.mk (xs0q.t3 some xs0q.l11 xs0q.l3 v0 v1 v2 v3 v4) (xs0q.t3 (fun b => some (xs0q.mk b)) xs0q.q11 xs0q.q3 v0 v1 v2 v3 v4) := by
 unfold xs0q.t3
 repeat' first | exact Sub.ret | exact Sub.none | exact Sub.loop | apply Sub.cond | (apply Sub.bind; intro _)
theorem xs0q.eq3 (v0 : List (List Int)) (v1 : Int) (v2 : List (List Int)) (v3 : Int) (v4 : Int) {b : (List Int)} (h : xs0q.t3 some xs0q.l11 xs0q.l3 v0 v1 v2 v3 v4 = some b) : xs0q.l3 v0 v1 v2 v3 v4 = some b := tOf_intro xs0q.un (fun _ => by kernel_rfl) (loopAtL_step ((xs0q.k3 v0 v1 v2 v3 v4).trans (xs0q.s3 v0 v1 v2 v3 v4 b h)))
noncomputable def xs0m.t {γ : Type} (ret : ((List Int)) → Option γ) (v0 : Int) : Option γ :=
 bif decide (v0 < (0 : Int)) then
  none
 else
  bif decide (IntKind.i64.wrap (v0 - IntKind.i64.wrap ((0 : Int) - (0 : Int))) > (0 : Int)) then
   bif decide ((1 : Int) ≤ IntKind.i64.wrap (v0 - IntKind.i64.wrap ((0 : Int) - (0 : Int)))) then
    bif decide (IntKind.i64.wrap (v0 - IntKind.i64.wrap ((0 : Int) - (0 : Int))) ≤ (↑(4294967296 : Nat) : Int)) then
     ret (List.take ((0 : Int) - Option.none.getD (0 : Int)).toNat   (List.drop (Option.none.getD (0 : Int)).toNat     (List.replicate (IntKind.i64.wrap (v0 - IntKind.i64.wrap ((0 : Int) - (0 : Int)))).toNat (0 : Int))))
    else
     none
   else
    none
  else
   ret ([])
theorem xs0m.k (v0 : Int) : topL E (callT E tab) 161 Try.f161 (xs0m.c v0) = xs0m.t (fun b => some (xs0m.mk b)) v0 := by kernel_rfl
theorem xs0m.s (v0 : Int) : Sub xs0m.mk (xs0m.t some v0) (xs0m.t (fun b => some (xs0m.mk b)) v0) := by
 unfold xs0m.t
 repeat' first | exact Sub.ret | exact Sub.none | exact Sub.loop | apply Sub.cond | (apply Sub.bind; intro _)
theorem xs0m.eq (v0 : Int) {b : (List Int)} (h : xs0m.t some v0 = some b) : xs0m v0 = some b := tOf_intro xs0m.un (fun _ => by kernel_rfl) (vlim_fn (callT_le E tab) rfl rfl rfl ((xs0m.k v0).trans (xs0m.s v0 b h)))
noncomputable def impl_joinedColumns.t {γ : Type} (ret : (Int) → Option γ) (v0 : Int) (v1 : Int) (v2 : List (List Int)) : Option γ :=
 (impl_unpaired (v1) (v2)).bind fun (r0 : (List Int)) =>
 ret (IntKind.i64.wrap (v0 + (↑r0.length : Int)))
theorem impl_joinedColumns.k (v0 : Int) (v1 : Int) (v2 : List (List Int)) : topL E (callT E tab) 140 Try.f140 (impl_joinedColumns.c v0 v1 v2) = impl_joinedColumns.t (fun b => some (impl_joinedColumns.mk b)) v0 v1 v2 := by kernel_rfl
theorem impl_joinedColumns.s (v0 : Int) (v1 : Int) (v2 : List (List Int)) : Sub impl_joinedColumns.mk (impl_joinedColumns.t some v0 v1 v2) (impl_joinedColumns.t (fun b => some (impl_joinedColumns.mk b)) v0 v1 v2) := by
 unfold impl_joinedColumns.t
 repeat' first | exact Sub.ret | exact Sub.none | exact Sub.loop | apply Sub.cond | (apply Sub.bind; intro _)
theorem impl_joinedColumns.eq (v0 : Int) (v1 : Int) (v2 : List (List Int)) {b : Int} (h : impl_joinedColumns.t some v0 v1 v2 = some b) : impl_joinedColumns v0 v1 v2 = some b := tOf_intro impl_joinedColumns.un (fun _ => by kernel_rfl) (vlim_fn (callT_le E tab) rfl rfl rfl ((impl_joinedColumns.k v0 v1 v2).trans (impl_joinedColumns.s v0 v1 v2 b h)))
noncomputable def xl0n.t {γ : Type} (ret : (Bool) → Option γ) (v0 : Int) (v1 : List (List Int × Int)) (v2 : Int) (v3 : List (List Int × Int)) (v4 : List (List Int)) : Option γ :=
 (laws_szTable (v0) (v1) ((1048576 : Int))).bind fun (r0 : Int) =>
 bif decide (r0 < (0 : Int)) then
  ret (Bool.true)
 else
  (laws_szTable (v2) (v3) (r0)).bind fun (r1 : Int) =>
  bif decide (r1 < (0 : Int)) then
   ret (Bool.true)
  else
   (laws_szIntSS (v4) (r1)).bind fun (r2 : Int) =>
   bif decide (r2 < (0 : Int)) then
    ret (Bool.true)
   else
    (laws_toTable (v0) (v1)).bind fun (r3 : Int × (List (List Int × Int))) =>
    (laws_toTable (v2) (v3)).bind fun (r4 : Int × (List (List Int × Int))) =>
    (laws_toIntSS (v4)).bind fun (r5 : (List (List Int))) =>
    (spec_JoinTables (r3.fst) (r3.snd) (r4.fst) (r4.snd) (r5)).bind fun (r6 : Int × (List (List Int × Int)) × Bool) =>
    (laws_toTable (v0) (v1)).bind fun (r7 : Int × (List (List Int × Int))) =>
    (laws_toTable (v2) (v3)).bind fun (r8 : Int × (List (List Int × Int))) =>
    (laws_toIntSS (v4)).bind fun (r9 : (List (List Int))) =>
    (impl_JoinTables (r7.fst) (r7.snd) (r8.fst) (r8.snd) (r9)).bind fun (r10 : Int × (List (List Int × Int)) × Bool) =>
    (laws_eqTable (r10.fst) (r10.snd.fst) (r6.fst) (r6.snd.fst)).bind fun (r11 : Bool) =>
    bif !r11 then
     ret (Bool.false)
    else
     bif !r10.snd.snd == r6.snd.snd then
      ret (Bool.false)
     else
      (laws_toTable (v0) (v1)).bind fun (r12 : Int × (List (List Int × Int))) =>
      (laws_eqTable (r7.fst) (r7.snd) (r12.fst) (r12.snd)).bind fun (r13 : Bool) =>
      bif !r13 then
       ret (Bool.false)
      else
       (laws_toTable (v2) (v3)).bind fun (r14 : Int × (List (List Int × Int))) =>
       (laws_eqTable (r8.fst) (r8.snd) (r14.fst) (r14.snd)).bind fun (r15 : Bool) =>
       bif !r15 then
        ret (Bool.false)
       else
        (laws_toIntSS (v4)).bind fun (r16 : (List (List Int))) =>
        (laws_eqIntSS (r9) (r16)).bind fun (r17 : Bool) =>
        bif !r17 then
         ret (Bool.false)
        else
         (laws_markTable_d7a (r7.fst) (r7.snd) ((1 : Int))).bind fun (r18 : Int × Int × (List (List Int × Int))) =>
         (laws_markTable_d7a (r8.fst) (r8.snd) (r18.fst)).bind fun (r19 : Int × Int × (List (List Int × Int))) =>
         (laws_markIntSS_1f6 (r9) (r19.fst)).bind fun (r20 : Int × (List (List Int))) =>
         bif decide (r20.fst < (0 : Int)) then
          ret (Bool.false)
         else
          (laws_eqTable (r10.fst) (r10.snd.fst) (r6.fst) (r6.snd.fst)).bind fun (r21 : Bool) =>
          bif !r21 then
           ret (Bool.false)
          else
           bif !r10.snd.snd == r6.snd.snd then
            ret (Bool.false)
           else
            (laws_markTable_d7a (r10.fst) (r10.snd.fst) ((1 : Int))).bind fun (r22 : Int × Int × (List (List Int × Int))) =>
            (laws_heldTable (r10.fst) (r22.snd.snd) ((1 : Int))).bind fun (r23 : Int) =>
            bif decide (r23 < (0 : Int)) then
             ret (Bool.false)
            else
             bif r23 != r22.fst then
              ret (Bool.false)
             else
              (laws_toTable (v0) (v1)).bind fun (r24 : Int × (List (List Int × Int))) =>
              (laws_toTable (v2) (v3)).bind fun (r25 : Int × (List (List Int × Int))) =>
              (laws_toIntSS (v4)).bind fun (r26 : (List (List Int))) =>
              (impl_JoinTables (r24.fst) (r24.snd) (r25.fst) (r25.snd) (r26)).bind fun (r27 : Int × (List (List Int × Int)) × Bool) =>
              (laws_eqTable (r27.fst) (r27.snd.fst) (r6.fst) (r6.snd.fst)).bind fun (r28 : Bool) =>
              bif !r28 then
               ret (Bool.false)
              else
               bif !r27.snd.snd == r6.snd.snd then
                ret (Bool.false)
               else
                (laws_heldTable (r10.fst) (r22.snd.snd) ((1 : Int))).bind fun (r29 : Int) =>
                bif decide (r29 < (0 : Int)) then
                 ret (Bool.false)
                else
                 bif r29 != r22.fst then
                  ret (Bool.false)
                 else
                  ret (Bool.true)
theorem xl0n.k (v0 : Int) (v1 : List (List Int × Int)) (v2 : Int) (v3 : List (List Int × Int)) (v4 : List (List Int)) : topL E (callT E tab) 14 Try.f14 (xl0n.c v0 v1 v2 v3 v4) = xl0n.t (fun b => some (xl0n.mk b)) v0 v1 v2 v3 v4 := by kernel_rfl
theorem xl0n.s (v0 : Int) (v1 : List (List Int × Int)) (v2 : Int) (v3 : List (List Int × Int)) (v4 : List (List Int)) : Sub xl0n.mk (xl0n.t some v0 v1 v2 v3 v4) (xl0n.t (fun b => some (xl0n.mk b)) v0 v1 v2 v3 v4) := by
 unfold xl0n.t
 repeat' first | exact Sub.ret | exact Sub.none | exact Sub.loop | apply Sub.cond | (apply Sub.bind; intro _)
theorem xl0n.eq (v0 : Int) (v1 : List (List Int × Int)) (v2 : Int) (v3 : List (List Int × Int)) (v4 : List (List Int)) {b : Bool} (h : xl0n.t some v0 v1 v2 v3 v4 = some b) : xl0n v0 v1 v2 v3 v4 = some b := tOf_intro xl0n.un (fun _ => by kernel_rfl) (vlim_fn (callT_le E tab) rfl rfl rfl ((xl0n.k v0 v1 v2 v3 v4).trans (xl0n.s v0 v1 v2 v3 v4 b h)))
noncomputable def laws_szIntSS.q5 (v0 : List (List Int)) (v1 : Int) (v2 : Int) : Option R := loopAtL E (callT E tab) 53 Try.f53 2 [.r, .r, .r, .l, .r, .b] (vc (.d .fro (.sl (.sl (.int .i64))) v0) :: vc (iL v1) :: nn 3 (vc (iL v2) :: nn 21 ([])))
noncomputable def laws_szIntSS.l5 (v0 : List (List Int)) (v1 : Int) (v2 : Int) : Option (Int) := tOf laws_szIntSS.mk (laws_szIntSS.q5 v0 v1 v2)
noncomputable def laws_szIntSS.t {γ : Type} (ret : (Int) → Option γ) (lp5 : (List (List Int)) → Int → Int → Option γ) (v0 : List (List Int)) (v1 : Int) : Option γ :=
 bif decide (IntKind.i64.wrap (v1 - (↑v0.length : Int)) < (0 : Int)) then
  ret ((-1 : Int))
 else
  lp5 (v0) (IntKind.i64.wrap (v1 - (↑v0.length : Int))) ((0 : Int))
noncomputable def laws_szIntSS.t5 {γ : Type} (ret : (Int) → Option γ) (lp5 : (List (List Int)) → Int → Int → Option γ) (v0 : List (List Int)) (v1 : Int) (v2 : Int) : Option γ :=
 bif decide (v2 < (↑v0.length : Int)) then
  bif decide ((0 : Int) ≤ v2) then
   bif decide (v2.toNat < v0.length) then
    (laws_szIntS (v0.getD v2.toNat []) (v1)).bind fun (r0 : Int) =>
    bif decide (r0 < (0 : Int)) then
     ret ((-1 : Int))
    else
     lp5 (v0) (r0) (IntKind.i64.wrap (v2 + (1 : Int)))
   else
    none
  else
   none
 else
  ret (v1)
theorem laws_szIntSS.k (v0 : List (List Int)) (v1 : Int) : topL E (callT E tab) 53 Try.f53 (laws_szIntSS.c v0 v1) = laws_szIntSS.t (fun b => some (laws_szIntSS.mk b)) laws_szIntSS.q5 v0 v1 := by kernel_rfl
theorem laws_szIntSS.k5 (v0 : List (List Int)) (v1 : Int) (v2 : Int) : roundL E (callT E tab) 53 Try.f53 2 [.r, .r, .r, .l, .r, .b] (vc (.d .fro (.sl (.sl (.int .i64))) v0) :: vc (iL v1) :: nn 3 (vc (iL v2) :: nn 21 ([]))) = laws_szIntSS.t5 (fun b => some (laws_szIntSS.mk b)) laws_szIntSS.q5 v0 v1 v2 := by kernel_rfl
theorem laws_szIntSS.s (v0 : List (List Int)) (v1 : Int) : Sub laws_szIntSS.mk (laws_szIntSS.t some laws_szIntSS.l5 v0 v1) (laws_szIntSS.t (fun b => some (laws_szIntSS.mk b)) laws_szIntSS.q5 v0 v1) := by
 unfold laws_szIntSS.t
 repeat' first | exact Sub.ret | exact Sub.none | exact Sub.loop | apply Sub.cond | (apply Sub.bind; intro _)
theorem laws_szIntSS.eq (v0 : List (List Int)) (v1 : Int) {b : Int} (h : laws_szIntSS.t some laws_szIntSS.l5 v0 v1 = some b) : laws_szIntSS v0 v1 = some b := tOf_intro laws_szIntSS.un (fun _ => by kernel_rfl) (vlim_fn (callT_le E tab) rfl rfl rfl ((laws_szIntSS.k v0 v1).trans (laws_szIntSS.s v0 v1 b h)))
theorem laws_szIntSS.s5 (v0 : List (List Int)) (v1 : Int) (v2 : Int) : Sub laws_szIntSS.mk (laws_szIntSS.t5 some laws_szIntSS.l5 v0 v1 v2) (laws_szIntSS.t5 (fun b => some (laws_szIntSS.mk b)) laws_szIntSS.q5 v0 v1 v2) := by
 unfold laws_szIntSS.t5
 repeat' first | exact Sub.ret | exact Sub.none | exact Sub.loop | apply Sub.cond | (apply Sub.bind; intro _)
theorem laws_szIntSS.eq5 (v0 : List (List Int)) (v1 : Int) (v2 : Int) {b : Int} (h : laws_szIntSS.t5 some laws_szIntSS.l5 v0 v1 v2 = some b) : laws_szIntSS.l5 v0 v1 v2 = some b := tOf_intro laws_szIntSS.un (fun _ => by kernel_rfl) (loopAtL_step ((laws_szIntSS.k5 v0 v1 v2).trans (laws_szIntSS.s5 v0 v1 v2 b h)))
noncomputable def laws_toIntSS.q3 (v0 : List (List Int)) (v1 : List (List Int)) (v2 : Int) : Option R := loopAtL E (callT E tab) 55 Try.f55 1 [.r, .r, .l, .r, .b] (vc (.d .fro (.sl (.sl (.int .i64))) v0) :: nn 2 (vc (.d .deep (.sl (.sl (.int .i64))) v1) :: vc (iL v2) :: nn 18 ([])))
noncomputable def laws_toIntSS.l3 (v0 : List (List Int)) (v1 : List (List Int)) (v2 : Int) : Option ((List (List Int))) := tOf laws_toIntSS.mk (laws_toIntSS.q3 v0 v1 v2)
noncomputable def laws_toIntSS.t {γ : Type} (ret : ((List (List Int))) → Option γ) (lp3 : (List (List Int)) → (List (List Int)) → Int → Option γ) (v0 : List (List Int)) : Option γ :=
 bif decide ((↑v0.length : Int) = (↑v0.length : Int)) then
  bif decide ((↑v0.length : Int) ≤ (↑(4294967296 : Nat) : Int)) then
   lp3 (v0) (List.replicate (↑v0.length : Int).toNat []) ((0 : Int))
  else
   none
 else
  none
noncomputable def laws_toIntSS.t3 {γ : Type} (ret : ((List (List Int))) → Option γ) (lp3 : (List (List Int)) → (List (List Int)) → Int → Option γ) (v0 : List (List Int)) (v1 : List (List Int)) (v2 : Int) : Option γ :=
 bif decide (v2 < (↑v0.length : Int)) then
  bif decide ((0 : Int) ≤ v2) then
   bif decide (v2.toNat < v0.length) then
    (laws_toIntS (v0.getD v2.toNat [])).bind fun (r0 : (List Int)) =>
    bif decide ((0 : Int) ≤ v2) then
     bif decide (v2.toNat < v1.length) then
      bif decide (v2.toNat < v1.length) then
       lp3 (v0) (v1.set v2.toNat r0) (IntKind.i64.wrap (v2 + (1 : Int)))
      else
       none
     else
      none
    else
     none
   else
    none
  else
   none
 else
  ret (v1)
theorem laws_toIntSS.k (v0 : List (List Int)) : topL E (callT E tab) 55 Try.f55 (laws_toIntSS.c v0) = laws_toIntSS.t (fun b => some (laws_toIntSS.mk b)) laws_toIntSS.q3 v0 := by kernel_rfl
theorem laws_toIntSS.k3 (v0 : List (List Int)) (v1 : List (List Int)) (v2 : Int) : roundL E (callT E tab) 55 Try.f55 1 [.r, .r, .l, .r, .b] (vc (.d .fro (.sl (.sl (.int .i64))) v0) :: nn 2 (vc (.d .deep (.sl (.sl (.int .i64))) v1) :: vc (iL v2) :: nn 18 ([]))) = laws_toIntSS.t3 (fun b => some (laws_toIntSS.mk b)) laws_toIntSS.q3 v0 v1 v2 := by kernel_rfl
theorem laws_toIntSS.s (v0 : List (List Int)) : Sub laws_toIntSS.mk (laws_toIntSS.t some laws_toIntSS.l3 v0) (laws_toIntSS.t (fun b => some (laws_toIntSS.mk b)) laws_toIntSS.q3 v0) := by
 unfold laws_toIntSS.t
 repeat' first | exact Sub.ret | exact Sub.none | exact Sub.loop | apply Sub.cond | (apply Sub.bind; intro _)
theorem laws_toIntSS.eq (v0 : List (List Int)) {b : (List (List Int))} (h : laws_toIntSS.t some laws_toIntSS.l3 v0 = some b) : laws_toIntSS v0 = some b := tOf_intro laws_toIntSS.un (fun _ => by kernel_rfl) (vlim_fn (callT_le E tab) rfl rfl rfl ((laws_toIntSS.k v0).trans (laws_toIntSS.s v0 b h)))
theorem laws_toIntSS.s3 (v0 : List (List Int)) (v1 : List (List Int)) (v2 : Int) : Sub laws_toIntSS.mk (laws_toIntSS.t3 some laws_toIntSS.l3 v0 v1 v2) (laws_toIntSS.t3 (fun b => some (laws_toIntSS.mk b)) laws_toIntSS.q3 v0 v1 v2) := by
 unfold laws_toIntSS.t3
 repeat' first | exact Sub.ret | exact Sub.none | exact Sub.loop | apply Sub.cond | (apply Sub.bind; intro _)
theorem laws_toIntSS.eq3 (v0 : List (List Int)) (v1 : List (List Int)) (v2 : Int) {b : (List (List Int))} (h : laws_toIntSS.t3 some laws_toIntSS.l3 v0 v1 v2 = some b) : laws_toIntSS.l3 v0 v1 v2 = some b := tOf_intro laws_toIntSS.un (fun _ => by kernel_rfl) (loopAtL_step ((laws_toIntSS.k3 v0 v1 v2).trans (laws_toIntSS.s3 v0 v1 v2 b h)))
noncomputable def laws_eqIntSS.q4 (v0 : List (List Int)) (v1 : List (List Int)) (v2 : Int) : Option R := loopAtL E (callT E tab) 57 Try.f57 2 [.r, .r, .l, .r, .b] (vc (.d .fro (.sl (.sl (.int .i64))) v0) :: vc (.d .fro (.sl (.sl (.int .i64))) v1) :: nn 3 (vc (iL v2) :: nn 21 ([])))
noncomputable def laws_eqIntSS.l4 (v0 : List (List Int)) (v1 : List (List Int)) (v2 : Int) : Option (Bool) := tOf laws_eqIntSS.mk (laws_eqIntSS.q4 v0 v1 v2)
noncomputable def laws_eqIntSS.t {γ : Type} (ret : (Bool) → Option γ) (lp4 : (List (List Int)) → (List (List Int)) → Int → Option γ) (v0 : List (List Int)) (v1 : List (List Int)) : Option γ :=
 bif (↑v0.length : Int) != (↑v1.length : Int) then
  ret (Bool.false)
 else
  lp4 (v0) (v1) ((0 : Int))
noncomputable def laws_eqIntSS.t4 {γ : Type} (ret : (Bool) → Option γ) (lp4 : (List (List Int)) → (List (List Int)) → Int → Option γ) (v0 : List (List Int)) (v1 : List (List Int)) (v2 : Int) : Option γ :=
 bif decide (v2 < (↑v0.length : Int)) then
  bif decide ((0 : Int) ≤ v2) then
   bif decide (v2.toNat < v0.length) then
    bif decide ((0 : Int) ≤ v2) then
     bif decide (v2.toNat < v1.length) then
      (laws_eqIntS (v0.getD v2.toNat []) (v1.getD v2.toNat [])).bind fun (r0 : Bool) =>
      bif !r0 then
       ret (Bool.false)
      else
       lp4 (v0) (v1) (IntKind.i64.wrap (v2 + (1 : Int)))
     else
      none
    else
     none
   else
    none
  else
   none
 else
  ret (Bool.true)
theorem laws_eqIntSS.k (v0 : List (List Int)) (v1 : List (List Int)) : topL E (callT E tab) 57 Try.f57 (laws_eqIntSS.c v0 v1) = laws_eqIntSS.t (fun b => some (laws_eqIntSS.mk b)) laws_eqIntSS.q4 v0 v1 := by kernel_rfl
theorem laws_eqIntSS.k4 (v0 : List (List Int)) (v1 : List (List Int)) (v2 : Int) : roundL E (callT E tab) 57 Try.f57 2 [.r, .r, .l, .r, .b] (vc (.d .fro (.sl (.sl (.int .i64))) v0) :: vc (.d .fro (.sl (.sl (.int .i64))) v1) :: nn 3 (vc (iL v2) :: nn 21 ([]))) = laws_eqIntSS.t4 (fun b => some (laws_eqIntSS.mk b)) laws_eqIntSS.q4 v0 v1 v2 := by kernel_rfl
theorem laws_eqIntSS.s (v0 : List (List Int)) (v1 : List (List Int)) : Sub laws_eqIntSS.mk (laws_eqIntSS.t some laws_eqIntSS.l4 v0 v1) (laws_eqIntSS.t (fun b => some (laws_eqIntSS.mk b)) laws_eqIntSS.q4 v0 v1) := by
 unfold laws_eqIntSS.t
 repeat' first | exact Sub.ret | exact Sub.none | exact Sub.loop | apply Sub.cond | (apply Sub.bind; intro _)
theorem laws_eqIntSS.eq (v0 : List (List Int)) (v1 : List (List Int)) {b : Bool} (h : laws_eqIntSS.t some laws_eqIntSS.l4 v0 v1 = some b) : laws_eqIntSS v0 v1 = some b := tOf_intro laws_eqIntSS.un (fun _ => by kernel_rfl) (vlim_fn (callT_le E tab) rfl rfl rfl ((laws_eqIntSS.k v0 v1).trans (laws_eqIntSS.s v0 v1 b h)))
theorem laws_eqIntSS.s4 (v0 : List (List Int)) (v1 : List (List Int)) (v2 : Int) : Sub laws_eqIntSS.mk (laws_eqIntSS.t4 some laws_eqIntSS.l4 v0 v1 v2) (laws_eqIntSS.t4 (fun b => some (laws_eqIntSS.mk b)) laws_eqIntSS.q4 v0 v1 v2) := by
 unfold laws_eqIntSS.t4
 repeat' first | exact Sub.ret | exact Sub.none | exact Sub.loop | apply Sub.cond | (apply Sub.bind; intro _)
theorem laws_eqIntSS.eq4 (v0 : List (List Int)) (v1 : List (List Int)) (v2 : Int) {b : Bool} (h : laws_eqIntSS.t4 some laws_eqIntSS.l4 v0 v1 v2 = some b) : laws_eqIntSS.l4 v0 v1 v2 = some b := tOf_intro laws_eqIntSS.un (fun _ => by kernel_rfl) (loopAtL_step ((laws_eqIntSS.k4 v0 v1 v2).trans (laws_eqIntSS.s4 v0 v1 v2 b h)))
noncomputable def laws_markIntSS_1f6.q2 (v0 : List (List Int)) (v1 : Int) (v2 : Int) : Option R := loopAtL E (callT E tab) 58 Try.f58 2 [.r, .l, .r, .b] (⟨(.val .one), [.d .deep (.sl (.sl (.int .i64))) v0], true, false, false, 0, 0⟩ :: vc (iL v1) :: nn 3 (vc (iL v2) :: nn 13 ([])))
noncomputable def laws_markIntSS_1f6.l2 (v0 : List (List Int)) (v1 : Int) (v2 : Int) : Option (Int × (List (List Int))) := tOf laws_markIntSS_1f6.mk (laws_markIntSS_1f6.q2 v0 v1 v2)
noncomputable def laws_markIntSS_1f6.t {γ : Type} (ret : (Int × (List (List Int))) → Option γ) (lp2 : (List (List Int)) → Int → Int → Option γ) (v0 : List (List Int)) (v1 : Int) : Option γ :=
 lp2 (v0) (v1) ((0 : Int))
noncomputable def laws_markIntSS_1f6.t2 {γ : Type} (ret : (Int × (List (List Int))) → Option γ) (lp2 : (List (List Int)) → Int → Int → Option γ) (v0 : List (List Int)) (v1 : Int) (v2 : Int) : Option γ :=
 bif decide (v2 < (↑v0.length : Int)) then
  bif decide ((0 : Int) ≤ v2) then
   bif decide (v2.toNat < v0.length) then
    bif decide (v2.toNat < v0.length) then
     bif decide (v2.toNat < v0.length) then
      (laws_markIntS_83f (v0.getD v2.toNat []) (v1)).bind fun (r0 : Int × (List Int)) =>
      bif decide (v2.toNat = v2.toNat) &&   (decide ((0 : Nat) = (0 : Nat)) && decide ((1 : Nat) = (1 : Nat))) then
       bif decide (v2.toNat < v0.length) then
        lp2 (v0.set v2.toNat r0.snd) (r0.fst) (IntKind.i64.wrap (v2 + (1 : Int)))
       else
        none
      else
       none
     else
      none
    else
     none
   else
    none
  else
   none
 else
  ret (v1, v0)
theorem laws_markIntSS_1f6.k (v0 : List (List Int)) (v1 : Int) : topL E (callT E tab) 58 Try.f58 (laws_markIntSS_1f6.c v0 v1) = laws_markIntSS_1f6.t (fun b => some (laws_markIntSS_1f6.mk b)) laws_markIntSS_1f6.q2 v0 v1 := by kernel_rfl
theorem laws_markIntSS_1f6.k2 (v0 : List (List Int)) (v1 : Int) (v2 : Int) : roundL E (callT E tab) 58 Try.f58 2 [.r, .l, .r, .b] (⟨(.val .one), [.d .deep (.sl (.sl (.int .i64))) v0], true, false, false, 0, 0⟩ :: vc (iL v1) :: nn 3 (vc (iL v2) :: nn 13 ([]))) = laws_markIntSS_1f6.t2 (fun b => some (laws_markIntSS_1f6.mk b)) laws_markIntSS_1f6.q2 v0 v1 v2 := by kernel_rfl
theorem laws_markIntSS_1f6.s (v0 : List (List Int)) (v1 : Int) : Sub laws_markIntSS_1f6.mk (laws_markIntSS_1f6.t some laws_markIntSS_1f6.l2 v0 v1) (laws_markIntSS_1f6.t (fun b => some (laws_markIntSS_1f6.mk b)) laws_markIntSS_1f6.q2 v0 v1) := by
 unfold laws_markIntSS_1f6.t
 repeat' first | exact Sub.ret | exact Sub.none | exact Sub.loop | apply Sub.cond | (apply Sub.bind; intro _)
theorem laws_markIntSS_1f6.eq (v0 : List (List Int)) (v1 : Int) {b : Int × (List (List Int))} (h : laws_markIntSS_1f6.t some laws_markIntSS_1f6.l2 v0 v1 = some b) : laws_markIntSS_1f6 v0 v1 = some b := tOf_intro laws_markIntSS_1f6.un (fun _ => by kernel_rfl) (vlim_fn (callT_le E tab) rfl rfl rfl ((laws_markIntSS_1f6.k v0 v1).trans (laws_markIntSS_1f6.s v0 v1 b h)))
theorem laws_markIntSS_1f6.s2 (v0 : List (List Int)) (v1 : Int) (v2 : Int) : Sub laws_markIntSS_1f6.mk (laws_markIntSS_1f6.t2 some laws_markIntSS_1f6.l2 v0 v1 v2) (laws_markIntSS_1f6.t2 (fun b => some (laws_markIntSS_1f6.mk b)) laws_markIntSS_1f6.q2 v0 v1 v2) := by
 unfold laws_markIntSS_1f6.t2
 repeat' first | exact Sub.ret | exact Sub.none | exact Sub.loop | apply Sub.cond | (apply Sub.bind; intro _)
theorem laws_markIntSS_1f6.eq2 (v0 : List (List Int)) (v1 : Int) (v2 : Int) {b : Int × (List (List Int))} (h : laws_markIntSS_1f6.t2 some laws_markIntSS_1f6.l2 v0 v1 v2 = some b) : laws_markIntSS_1f6.l2 v0 v1 v2 = some b := tOf_intro laws_markIntSS_1f6.un (fun _ => by kernel_rfl) (loopAtL_step ((laws_markIntSS_1f6.k2 v0 v1 v2).trans (laws_markIntSS_1f6.s2 v0 v1 v2 b h)))
end GoV
