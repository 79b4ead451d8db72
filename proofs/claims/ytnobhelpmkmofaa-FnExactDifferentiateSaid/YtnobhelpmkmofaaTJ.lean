/- A part of the proof of FnExactDifferentiate: an interpreter of the model over plain data, its soundness, and what it makes of the functions that the statement reaches. Conditions: none beyond what the given statement itself says. -/
import Derived.Test.YtnobhelpmkmofaaTI
set_option linter.unusedVariables false
set_option linter.unusedSimpArgs false
set_option linter.unnecessarySimpa false
set_option linter.unusedSectionVars false
/- Equations of the program's functions (printed by wip/tools/emit.py). -/
namespace GoV
open Go Go.Proofs
set_option maxRecDepth 100000

noncomputable def laws_heldStream.t {γ : Type} (ret : (Int) → Option γ) (v0 : Int) (v1 : List (Int × List (List Int × Int))) (v2 : Int) : Option γ :=
 (laws_heldTableS (v1) (v2)).bind fun (r0 : Int) =>
 bif decide (r0 < (0 : Int)) then
  ret ((-1 : Int))
 else
  ret (r0)
theorem laws_heldStream.k (v0 : Int) (v1 : List (Int × List (List Int × Int))) (v2 : Int) : topL E (callT E tab) 30 Try.f30 (laws_heldStream.c v0 v1 v2) = laws_heldStream.t (fun b => some (laws_heldStream.mk b)) v0 v1 v2 := by kernel_rfl
theorem laws_heldStream.eq (v0 : Int) (v1 : List (Int × List (List Int × Int))) (v2 : Int) {b : Int} (h : laws_heldStream.t some v0 v1 v2 = some b) : laws_heldStream v0 v1 v2 = some b := tOf_intro laws_heldStream.un (fun _ => by kernel_rfl) (vlim_fn (callT_le E tab) rfl rfl rfl ((laws_heldStream.k v0 v1 v2).trans ((by unfold laws_heldStream.t; repeat' first | exact Sub.ret | exact Sub.none | exact Sub.loop | apply Sub.cond | (apply Sub.bind; intro _) : Sub laws_heldStream.mk _ _) b h)))
noncomputable def laws_heldTableS.q2 (v0 : List (Int × List (List Int × Int))) (v1 : Int) (v2 : Int) : Option R := loopAtL E (callT E tab) 63 Try.f63 2 [.r, .l, .r, .b] (vc (.d .fro (.sl (.pair (.int .i64) (.sl (.pair (.sl (.int .i64)) (.int .i64))))) v0) :: vc (iL v1) :: nn 3 (vc (iL v2) :: nn 25 ([])))
noncomputable def laws_heldTableS.l2 (v0 : List (Int × List (List Int × Int))) (v1 : Int) (v2 : Int) : Option (Int) := tOf laws_heldTableS.mk (laws_heldTableS.q2 v0 v1 v2)
noncomputable def laws_heldTableS.t {γ : Type} (ret : (Int) → Option γ) (lp2 : (List (Int × List (List Int × Int))) → Int → Int → Option γ) (v0 : List (Int × List (List Int × Int))) (v1 : Int) : Option γ :=
 lp2 (v0) (v1) ((0 : Int))
noncomputable def laws_heldTableS.t2 {γ : Type} (ret : (Int) → Option γ) (lp2 : (List (Int × List (List Int × Int))) → Int → Int → Option γ) (v0 : List (Int × List (List Int × Int))) (v1 : Int) (v2 : Int) : Option γ :=
 bif decide (v2 < (↑v0.length : Int)) then
  bif decide ((0 : Int) ≤ v2) then
   bif decide (v2.toNat < v0.length) then
    bif (v0.getD v2.toNat ((0 : Int), [])).fst != v1 then
     ret ((-1 : Int))
    else
     bif decide ((0 : Int) ≤ v2) then
      bif decide (v2.toNat < v0.length) then
       (laws_heldWeightedS ((v0.getD v2.toNat ((0 : Int), [])).snd) (IntKind.i64.wrap (v1 + (1 : Int)))).bind fun (r0 : Int) =>
       bif decide (r0 < (0 : Int)) then
        ret ((-1 : Int))
       else
        lp2 (v0) (r0) (IntKind.i64.wrap (v2 + (1 : Int)))
      else
       none
     else
      none
   else
    none
  else
   none
 else
  ret (v1)
theorem laws_heldTableS.k (v0 : List (Int × List (List Int × Int))) (v1 : Int) : topL E (callT E tab) 63 Try.f63 (laws_heldTableS.c v0 v1) = laws_heldTableS.t (fun b => some (laws_heldTableS.mk b)) laws_heldTableS.q2 v0 v1 := by kernel_rfl
theorem laws_heldTableS.k2 (v0 : List (Int × List (List Int × Int))) (v1 : Int) (v2 : Int) : roundL E (callT E tab) 63 Try.f63 2 [.r, .l, .r, .b] (vc (.d .fro (.sl (.pair (.int .i64) (.sl (.pair (.sl (.int .i64)) (.int .i64))))) v0) :: vc (iL v1) :: nn 3 (vc (iL v2) :: nn 25 ([]))) = laws_heldTableS.t2 (fun b => some (laws_heldTableS.mk b)) laws_heldTableS.q2 v0 v1 v2 := by kernel_rfl
theorem laws_heldTableS.eq (v0 : List (Int × List (List Int × Int))) (v1 : Int) {b : Int} (h : laws_heldTableS.t some laws_heldTableS.l2 v0 v1 = some b) : laws_heldTableS v0 v1 = some b := tOf_intro laws_heldTableS.un (fun _ => by kernel_rfl) (vlim_fn (callT_le E tab) rfl rfl rfl ((laws_heldTableS.k v0 v1).trans ((by unfold laws_heldTableS.t; repeat' first | exact Sub.ret | exact Sub.none | exact Sub.loop | apply Sub.cond | (apply Sub.bind; intro _) : Sub laws_heldTableS.mk _ _) b h)))
theorem laws_heldTableS.eq2 (v0 : List (Int × List (List Int × Int))) (v1 : Int) (v2 : Int) {b : Int} (h : laws_heldTableS.t2 some laws_heldTableS.l2 v0 v1 v2 = some b) : laws_heldTableS.l2 v0 v1 v2 = some b := tOf_intro laws_heldTableS.un (fun _ => by kernel_rfl) (loopAtL_step ((laws_heldTableS.k2 v0 v1 v2).trans ((by unfold laws_heldTableS.t2; repeat' first | exact Sub.ret | exact Sub.none | exact Sub.loop | apply Sub.cond | (apply Sub.bind; intro _) : Sub laws_heldTableS.mk _ _) b h)))
noncomputable def spec_l2Put.q2 (v0 : List (List Int × Int)) (v1 : Int) (v2 : List Int) (v3 : Int) : Option R := loopAtL E (callT E tab) 103 Try.f103 3 [.r, .r, .l, .b] (vc (.d .fro (.sl (.pair (.sl (.int .i64)) (.int .i64))) v0) :: nn 1 (vc (iL v1) :: nn 1 (⟨(.box false), [.d .fro (.sl (.int .i64)) v2], false, false, false, 0, 0⟩ :: nn 2 (vc (iL v3) :: nn 64 ([])))))
noncomputable def spec_l2Put.l2 (v0 : List (List Int × Int)) (v1 : Int) (v2 : List Int) (v3 : Int) : Option ((List (List Int × Int))) := tOf spec_l2Put.mk (spec_l2Put.q2 v0 v1 v2 v3)
noncomputable def spec_l2Put.t {γ : Type} (ret : ((List (List Int × Int))) → Option γ) (lp2 : (List (List Int × Int)) → Int → (List Int) → Int → Option γ) (v0 : List (List Int × Int)) (v1 : List Int) (v2 : Int) : Option γ :=
 lp2 (v0) (v2) (v1) ((0 : Int))
noncomputable def spec_l2Put.t2 {γ : Type} (ret : ((List (List Int × Int))) → Option γ) (lp2 : (List (List Int × Int)) → Int → (List Int) → Int → Option γ) (v0 : List (List Int × Int)) (v1 : Int) (v2 : List Int) (v3 : Int) : Option γ :=
 bif decide (v3 < (↑v0.length : Int)) then
  bif decide ((0 : Int) ≤ v3) then
   bif decide (v3.toNat < v0.length) then
    (spec_l1Compare ((v0.getD v3.toNat ([], (0 : Int))).fst) (v2)).bind fun (r0 : Int) =>
    bif decide (r0 < (0 : Int)) then
     lp2 (v0) (v1) (v2) (IntKind.i64.wrap (v3 + (1 : Int)))
    else
     bif decide (Option.none.getD (0 : Int) ≤ v3) then
      bif decide (v3 ≤ (↑v0.length : Int)) then
       bif decide   ((List.take (v3 - Option.none.getD (0 : Int)).toNat (List.drop (Option.none.getD (0 : Int)).toNat v0)).length ≤     (4294967296 : Nat)) then
        (spec_l2OwnRow (v2)).bind fun (r1 : (List Int)) =>
        bif decide (v3 < (↑v0.length : Int)) then
         bif decide ((0 : Int) ≤ v3) then
          bif decide (v3.toNat < v0.length) then
           (spec_l1Compare ((v0.getD v3.toNat ([], (0 : Int))).fst) (v2)).bind fun (r2 : Int) =>
           bif r2 == (0 : Int) then
            bif decide ((0 : Int) ≤ v3) then
             bif decide (v3.toNat < v0.length) then
              bif IntKind.i64.wrap (v1 + (v0.getD v3.toNat ([], (0 : Int))).snd) != (0 : Int) then
               bif decide   ((List.take (v3 - Option.none.getD (0 : Int)).toNat (List.drop (Option.none.getD (0 : Int)).toNat v0)).length +       [(r1, IntKind.i64.wrap (v1 + (v0.getD v3.toNat ([], (0 : Int))).snd))].length ≤     (4294967296 : Nat)) then
                bif decide ((0 : Int) ≤ (Option.some (IntKind.i64.wrap (v3 + (1 : Int)))).getD (0 : Int)) then
                 bif decide ((Option.some (IntKind.i64.wrap (v3 + (1 : Int)))).getD (0 : Int) ≤ (↑v0.length : Int)) then
                  bif decide   ((List.take (v3 - Option.none.getD (0 : Int)).toNat (List.drop (Option.none.getD (0 : Int)).toNat v0) ++           [(r1, IntKind.i64.wrap (v1 + (v0.getD v3.toNat ([], (0 : Int))).snd))]).length +       (List.drop ((Option.some (IntKind.i64.wrap (v3 + (1 : Int)))).getD (0 : Int)).toNat v0).length ≤     (4294967296 : Nat)) then
                   ret (List.take (v3 - Option.none.getD (0 : Int)).toNat (List.drop (Option.none.getD (0 : Int)).toNat v0) ++     [(r1, IntKind.i64.wrap (v1 + (v0.getD v3.toNat ([], (0 : Int))).snd))] ++   List.drop ((Option.some (IntKind.i64.wrap (v3 + (1 : Int)))).getD (0 : Int)).toNat v0)
                  else
                   none
                 else
                  none
                else
                 none
               else
                none
              else
               bif decide ((0 : Int) ≤ (Option.some (IntKind.i64.wrap (v3 + (1 : Int)))).getD (0 : Int)) then
                bif decide ((Option.some (IntKind.i64.wrap (v3 + (1 : Int)))).getD (0 : Int) ≤ (↑v0.length : Int)) then
                 bif decide   ((List.take (v3 - Option.none.getD (0 : Int)).toNat (List.drop (Option.none.getD (0 : Int)).toNat v0)).length +       (List.drop ((Option.some (IntKind.i64.wrap (v3 + (1 : Int)))).getD (0 : Int)).toNat v0).length ≤     (4294967296 : Nat)) then
                  ret (List.take (v3 - Option.none.getD (0 : Int)).toNat (List.drop (Option.none.getD (0 : Int)).toNat v0) ++   List.drop ((Option.some (IntKind.i64.wrap (v3 + (1 : Int)))).getD (0 : Int)).toNat v0)
                 else
                  none
                else
                 none
               else
                none
             else
              none
            else
             none
           else
            bif v1 != (0 : Int) then
             bif decide   ((List.take (v3 - Option.none.getD (0 : Int)).toNat (List.drop (Option.none.getD (0 : Int)).toNat v0)).length +       [(r1, v1)].length ≤     (4294967296 : Nat)) then
              bif decide ((0 : Int) ≤ (Option.some v3).getD (0 : Int)) then
               bif decide ((Option.some v3).getD (0 : Int) ≤ (↑v0.length : Int)) then
                bif decide   ((List.take (v3 - Option.none.getD (0 : Int)).toNat (List.drop (Option.none.getD (0 : Int)).toNat v0) ++           [(r1, v1)]).length +       (List.drop ((Option.some v3).getD (0 : Int)).toNat v0).length ≤     (4294967296 : Nat)) then
                 ret (List.take (v3 - Option.none.getD (0 : Int)).toNat (List.drop (Option.none.getD (0 : Int)).toNat v0) ++ [(r1, v1)] ++   List.drop ((Option.some v3).getD (0 : Int)).toNat v0)
                else
                 none
               else
                none
              else
               none
             else
              none
            else
             bif decide ((0 : Int) ≤ (Option.some v3).getD (0 : Int)) then
              bif decide ((Option.some v3).getD (0 : Int) ≤ (↑v0.length : Int)) then
               bif decide   ((List.take (v3 - Option.none.getD (0 : Int)).toNat (List.drop (Option.none.getD (0 : Int)).toNat v0)).length +       (List.drop ((Option.some v3).getD (0 : Int)).toNat v0).length ≤     (4294967296 : Nat)) then
                ret (List.take (v3 - Option.none.getD (0 : Int)).toNat (List.drop (Option.none.getD (0 : Int)).toNat v0) ++   List.drop ((Option.some v3).getD (0 : Int)).toNat v0)
               else
                none
              else
               none
             else
              none
          else
           none
         else
          none
        else
         bif v1 != (0 : Int) then
          bif decide   ((List.take (v3 - Option.none.getD (0 : Int)).toNat (List.drop (Option.none.getD (0 : Int)).toNat v0)).length +       [(r1, v1)].length ≤     (4294967296 : Nat)) then
           bif decide ((0 : Int) ≤ (Option.some v3).getD (0 : Int)) then
            bif decide ((Option.some v3).getD (0 : Int) ≤ (↑v0.length : Int)) then
             bif decide   ((List.take (v3 - Option.none.getD (0 : Int)).toNat (List.drop (Option.none.getD (0 : Int)).toNat v0) ++           [(r1, v1)]).length +       (List.drop ((Option.some v3).getD (0 : Int)).toNat v0).length ≤     (4294967296 : Nat)) then
              ret (List.take (v3 - Option.none.getD (0 : Int)).toNat (List.drop (Option.none.getD (0 : Int)).toNat v0) ++ [(r1, v1)] ++   List.drop ((Option.some v3).getD (0 : Int)).toNat v0)
             else
              none
            else
             none
           else
            none
          else
           none
         else
          bif decide ((0 : Int) ≤ (Option.some v3).getD (0 : Int)) then
           bif decide ((Option.some v3).getD (0 : Int) ≤ (↑v0.length : Int)) then
            bif decide   ((List.take (v3 - Option.none.getD (0 : Int)).toNat (List.drop (Option.none.getD (0 : Int)).toNat v0)).length +       (List.drop ((Option.some v3).getD (0 : Int)).toNat v0).length ≤     (4294967296 : Nat)) then
             ret (List.take (v3 - Option.none.getD (0 : Int)).toNat (List.drop (Option.none.getD (0 : Int)).toNat v0) ++   List.drop ((Option.some v3).getD (0 : Int)).toNat v0)
            else
             none
           else
            none
          else
           none
       else
        none
      else
       none
     else
      none
   else
    none
  else
   none
 else
  bif decide (Option.none.getD (0 : Int) ≤ v3) then
   bif decide (v3 ≤ (↑v0.length : Int)) then
    bif decide   ((List.take (v3 - Option.none.getD (0 : Int)).toNat (List.drop (Option.none.getD (0 : Int)).toNat v0)).length ≤     (4294967296 : Nat)) then
     (spec_l2OwnRow (v2)).bind fun (r3 : (List Int)) =>
     bif decide (v3 < (↑v0.length : Int)) then
      bif decide ((0 : Int) ≤ v3) then
       bif decide (v3.toNat < v0.length) then
        (spec_l1Compare ((v0.getD v3.toNat ([], (0 : Int))).fst) (v2)).bind fun (r4 : Int) =>
        bif r4 == (0 : Int) then
         bif decide ((0 : Int) ≤ v3) then
          bif decide (v3.toNat < v0.length) then
           bif IntKind.i64.wrap (v1 + (v0.getD v3.toNat ([], (0 : Int))).snd) != (0 : Int) then
            bif decide   ((List.take (v3 - Option.none.getD (0 : Int)).toNat (List.drop (Option.none.getD (0 : Int)).toNat v0)).length +       [(r3, IntKind.i64.wrap (v1 + (v0.getD v3.toNat ([], (0 : Int))).snd))].length ≤     (4294967296 : Nat)) then
             bif decide ((0 : Int) ≤ (Option.some (IntKind.i64.wrap (v3 + (1 : Int)))).getD (0 : Int)) then
              bif decide ((Option.some (IntKind.i64.wrap (v3 + (1 : Int)))).getD (0 : Int) ≤ (↑v0.length : Int)) then
               bif decide   ((List.take (v3 - Option.none.getD (0 : Int)).toNat (List.drop (Option.none.getD (0 : Int)).toNat v0) ++           [(r3, IntKind.i64.wrap (v1 + (v0.getD v3.toNat ([], (0 : Int))).snd))]).length +       (List.drop ((Option.some (IntKind.i64.wrap (v3 + (1 : Int)))).getD (0 : Int)).toNat v0).length ≤     (4294967296 : Nat)) then
                ret (List.take (v3 - Option.none.getD (0 : Int)).toNat (List.drop (Option.none.getD (0 : Int)).toNat v0) ++     [(r3, IntKind.i64.wrap (v1 + (v0.getD v3.toNat ([], (0 : Int))).snd))] ++   List.drop ((Option.some (IntKind.i64.wrap (v3 + (1 : Int)))).getD (0 : Int)).toNat v0)
               else
                none
              else
               none
             else
              none
            else
             none
           else
            bif decide ((0 : Int) ≤ (Option.some (IntKind.i64.wrap (v3 + (1 : Int)))).getD (0 : Int)) then
             bif decide ((Option.some (IntKind.i64.wrap (v3 + (1 : Int)))).getD (0 : Int) ≤ (↑v0.length : Int)) then
              bif decide   ((List.take (v3 - Option.none.getD (0 : Int)).toNat (List.drop (Option.none.getD (0 : Int)).toNat v0)).length +       (List.drop ((Option.some (IntKind.i64.wrap (v3 + (1 : Int)))).getD (0 : Int)).toNat v0).length ≤     (4294967296 : Nat)) then
               ret (List.take (v3 - Option.none.getD (0 : Int)).toNat (List.drop (Option.none.getD (0 : Int)).toNat v0) ++   List.drop ((Option.some (IntKind.i64.wrap (v3 + (1 : Int)))).getD (0 : Int)).toNat v0)
              else
               none
             else
              none
            else
             none
          else
           none
         else
          none
        else
         bif v1 != (0 : Int) then
          bif decide   ((List.take (v3 - Option.none.getD (0 : Int)).toNat (List.drop (Option.none.getD (0 : Int)).toNat v0)).length +       [(r3, v1)].length ≤     (4294967296 : Nat)) then
           bif decide ((0 : Int) ≤ (Option.some v3).getD (0 : Int)) then
            bif decide ((Option.some v3).getD (0 : Int) ≤ (↑v0.length : Int)) then
             bif decide   ((List.take (v3 - Option.none.getD (0 : Int)).toNat (List.drop (Option.none.getD (0 : Int)).toNat v0) ++           [(r3, v1)]).length +       (List.drop ((Option.some v3).getD (0 : Int)).toNat v0).length ≤     (4294967296 : Nat)) then
              ret (List.take (v3 - Option.none.getD (0 : Int)).toNat (List.drop (Option.none.getD (0 : Int)).toNat v0) ++ [(r3, v1)] ++   List.drop ((Option.some v3).getD (0 : Int)).toNat v0)
             else
              none
            else
             none
           else
            none
          else
           none
         else
          bif decide ((0 : Int) ≤ (Option.some v3).getD (0 : Int)) then
           bif decide ((Option.some v3).getD (0 : Int) ≤ (↑v0.length : Int)) then
            bif decide   ((List.take (v3 - Option.none.getD (0 : Int)).toNat (List.drop (Option.none.getD (0 : Int)).toNat v0)).length +       (List.drop ((Option.some v3).getD (0 : Int)).toNat v0).length ≤     (4294967296 : Nat)) then
             ret (List.take (v3 - Option.none.getD (0 : Int)).toNat (List.drop (Option.none.getD (0 : Int)).toNat v0) ++   List.drop ((Option.some v3).getD (0 : Int)).toNat v0)
            else
             none
           else
            none
          else
           none
       else
        none
      else
       none
     else
      bif v1 != (0 : Int) then
       bif decide   ((List.take (v3 - Option.none.getD (0 : Int)).toNat (List.drop (Option.none.getD (0 : Int)).toNat v0)).length +       [(r3, v1)].length ≤     (4294967296 : Nat)) then
        bif decide ((0 : Int) ≤ (Option.some v3).getD (0 : Int)) then
         bif decide ((Option.some v3).getD (0 : Int) ≤ (↑v0.length : Int)) then
          bif decide   ((List.take (v3 - Option.none.getD (0 : Int)).toNat (List.drop (Option.none.getD (0 : Int)).toNat v0) ++           [(r3, v1)]).length +       (List.drop ((Option.some v3).getD (0 : Int)).toNat v0).length ≤     (4294967296 : Nat)) then
           ret (List.take (v3 - Option.none.getD (0 : Int)).toNat (List.drop (Option.none.getD (0 : Int)).toNat v0) ++ [(r3, v1)] ++   List.drop ((Option.some v3).getD (0 : Int)).toNat v0)
          else
           none
         else
          none
        else
         none
       else
        none
      else
       bif decide ((0 : Int) ≤ (Option.some v3).getD (0 : Int)) then
        bif decide ((Option.some v3).getD (0 : Int) ≤ (↑v0.length : Int)) then
         bif decide   ((List.take (v3 - Option.none.getD (0 : Int)).toNat (List.drop (Option.none.getD (0 : Int)).toNat v0)).length +       (List.drop ((Option.some v3).getD (0 : Int)).toNat v0).length ≤     (4294967296 : Nat)) then
          ret (List.take (v3 - Option.none.getD (0 : Int)).toNat (List.drop (Option.none.getD (0 : Int)).toNat v0) ++   List.drop ((Option.some v3).getD (0 : Int)).toNat v0)
         else
          none
        else
         none
       else
        none
    else
     none
   else
    none
  else
   none
theorem spec_l2Put.k (v0 : List (List Int × Int)) (v1 : List Int) (v2 : Int) : topL E (callT E tab) 103 Try.f103 (spec_l2Put.c v0 v1 v2) = spec_l2Put.t (fun b => some (spec_l2Put.mk b)) spec_l2Put.q2 v0 v1 v2 := by kernel_rfl
theorem spec_l2Put.k2 (v0 : List (List Int × Int)) (v1 : Int) (v2 : List Int) (v3 : Int) : roundL E (callT E tab) 103 Try.f103 3 [.r, .r, .l, .b] (vc (.d .fro (.sl (.pair (.sl (.int .i64)) (.int .i64))) v0) :: nn 1 (vc (iL v1) :: nn 1 (⟨(.box false), [.d .fro (.sl (.int .i64)) v2], false, false, false, 0, 0⟩ :: nn 2 (vc (iL v3) :: nn 64 ([]))))) = spec_l2Put.t2 (fun b => some (spec_l2Put.mk b)) spec_l2Put.q2 v0 v1 v2 v3 := by kernel_rfl
theorem spec_l2Put.eq (v0 : List (List Int × Int)) (v1 : List Int) (v2 : Int) {b : (List (List Int × Int))} (h : spec_l2Put.t some spec_l2Put.l2 v0 v1 v2 = some b) : spec_l2Put v0 v1 v2 = some b := tOf_intro spec_l2Put.un (fun _ => by kernel_rfl) (vlim_fn (callT_le E tab) rfl rfl rfl ((spec_l2Put.k v0 v1 v2).trans ((by unfold spec_l2Put.t; repeat' first | exact Sub.ret | exact Sub.none | exact Sub.loop | apply Sub.cond | (apply Sub.bind; intro _) : Sub spec_l2Put.mk _ _) b h)))
theorem spec_l2Put.eq2 (v0 : List (List Int × Int)) (v1 : Int) (v2 : List Int) (v3 : Int) {b : (List (List Int × Int))} (h : spec_l2Put.t2 some spec_l2Put.l2 v0 v1 v2 v3 = some b) : spec_l2Put.l2 v0 v1 v2 v3 = some b := tOf_intro spec_l2Put.un (fun _ => by kernel_rfl) (loopAtL_step ((spec_l2Put.k2 v0 v1 v2 v3).trans ((by unfold spec_l2Put.t2; repeat' first | exact Sub.ret | exact Sub.none | exact Sub.loop | apply Sub.cond | (apply Sub.bind; intro _) : Sub spec_l2Put.mk _ _) b h)))
noncomputable def impl_summed.q7 (v0 : Int) (v1 : List (List Int × Int)) (v2 : Int) (v3 : List (List Int × Int)) (v4 : List (List Int × Int)) (v5 : Int) (v6 : Int) (v7 : Int) : Option R := loopAtL E (callT E tab) 105 Try.f105 2 [.r, .r, .r, .r, .l, .r, .b, .o, .r, .b, .r, .l, .b] (nn 4 (⟨(.box false), [iL v0, .d .deep (.sl (.pair (.sl (.int .i64)) (.int .i64))) v1], false, false, false, 0, 0⟩ :: ⟨(.box false), [iL v2, .d .deep (.sl (.pair (.sl (.int .i64)) (.int .i64))) v3], false, false, false, 0, 0⟩ :: vc (.d .sha (.sl (.pair (.sl (.int .i64)) (.int .i64))) v4) :: vc (iL v5) :: vc (iL v6) :: vc (iL v7) :: nn 55 ([])))
noncomputable def impl_summed.l7 (v0 : Int) (v1 : List (List Int × Int)) (v2 : Int) (v3 : List (List Int × Int)) (v4 : List (List Int × Int)) (v5 : Int) (v6 : Int) (v7 : Int) : Option (Int × (List (List Int × Int))) := tOf impl_summed.mk (impl_summed.q7 v0 v1 v2 v3 v4 v5 v6 v7)
noncomputable def impl_summed.q5 (v0 : Int) (v1 : List (List Int × Int)) (v2 : Int) (v3 : List (List Int × Int)) (v4 : List (List Int × Int)) (v5 : Int) : Option R := loopAtL E (callT E tab) 105 Try.f105 2 [.r, .r, .r, .r, .l, .r, .b] (nn 4 (⟨(.box false), [iL v0, .d .deep (.sl (.pair (.sl (.int .i64)) (.int .i64))) v1], false, false, false, 0, 0⟩ :: ⟨(.box false), [iL v2, .d .deep (.sl (.pair (.sl (.int .i64)) (.int .i64))) v3], false, false, false, 0, 0⟩ :: vc (.d .sha (.sl (.pair (.sl (.int .i64)) (.int .i64))) v4) :: vc (iL v5) :: nn 57 ([])))
noncomputable def impl_summed.l5 (v0 : Int) (v1 : List (List Int × Int)) (v2 : Int) (v3 : List (List Int × Int)) (v4 : List (List Int × Int)) (v5 : Int) : Option (Int × (List (List Int × Int))) := tOf impl_summed.mk (impl_summed.q5 v0 v1 v2 v3 v4 v5)
noncomputable def impl_summed.t {γ : Type} (ret : (Int × (List (List Int × Int))) → Option γ) (lp7 : Int → (List (List Int × Int)) → Int → (List (List Int × Int)) → (List (List Int × Int)) → Int → Int → Int → Option γ) (lp5 : Int → (List (List Int × Int)) → Int → (List (List Int × Int)) → (List (List Int × Int)) → Int → Option γ) (v0 : Int) (v1 : List (List (List Int × Int))) : Option γ :=
 (xs0c (v1)).bind fun (r0 : (List (List Int × Int))) =>
 (xs02 (r0)).bind fun (r1 : (List (List Int × Int))) =>
 lp5 ((0 : Int)) ([]) (v0) ([]) (r1) ((0 : Int))
noncomputable def impl_summed.t7 {γ : Type} (ret : (Int × (List (List Int × Int))) → Option γ) (lp7 : Int → (List (List Int × Int)) → Int → (List (List Int × Int)) → (List (List Int × Int)) → Int → Int → Int → Option γ) (lp5 : Int → (List (List Int × Int)) → Int → (List (List Int × Int)) → (List (List Int × Int)) → Int → Option γ) (v0 : Int) (v1 : List (List Int × Int)) (v2 : Int) (v3 : List (List Int × Int)) (v4 : List (List Int × Int)) (v5 : Int) (v6 : Int) (v7 : Int) : Option γ :=
 bif decide (v7 < (↑v4.length : Int)) then
  bif decide ((0 : Int) ≤ v7) then
   bif decide (v7.toNat < v4.length) then
    bif decide (v7.toNat < v4.length) then
     bif decide ((0 : Int) ≤ v5) then
      bif decide (v5.toNat < v4.length) then
       bif decide (v5.toNat < v4.length) then
        (impl_compareRows ((v4.getD v7.toNat ([], (0 : Int))).fst) ((v4.getD v5.toNat ([], (0 : Int))).fst)).bind fun (r2 : Int) =>
        bif r2 == (0 : Int) then
         bif decide ((0 : Int) ≤ v7) then
          bif decide (v7.toNat < v4.length) then
           bif decide (v7.toNat < v4.length) then
            lp7 (v0) (v1) (v2) (v3) (v4) (v5) (IntKind.i64.wrap (v6 + (v4.getD v7.toNat ([], (0 : Int))).snd)) (IntKind.i64.wrap (v7 + (1 : Int)))
           else
            none
          else
           none
         else
          none
        else
         bif v6 != (0 : Int) then
          bif decide ((0 : Int) ≤ v5) then
           bif decide (v5.toNat < v4.length) then
            bif decide (v5.toNat < v4.length) then
             (impl_Row_own ((v4.getD v5.toNat ([], (0 : Int))).fst)).bind fun (r3 : (List Int)) =>
             bif decide (v3.length + [(r3, v6)].length ≤ (4294967296 : Nat)) then
              lp5 (v0) (v1) (v2) (v3 ++ [(r3, v6)]) (v4) (v7)
             else
              none
            else
             none
           else
            none
          else
           none
         else
          lp5 (v0) (v1) (v2) (v3) (v4) (v7)
       else
        none
      else
       none
     else
      none
    else
     none
   else
    none
  else
   none
 else
  bif v6 != (0 : Int) then
   bif decide ((0 : Int) ≤ v5) then
    bif decide (v5.toNat < v4.length) then
     bif decide (v5.toNat < v4.length) then
      (impl_Row_own ((v4.getD v5.toNat ([], (0 : Int))).fst)).bind fun (r4 : (List Int)) =>
      bif decide (v3.length + [(r4, v6)].length ≤ (4294967296 : Nat)) then
       lp5 (v0) (v1) (v2) (v3 ++ [(r4, v6)]) (v4) (v7)
      else
       none
     else
      none
    else
     none
   else
    none
  else
   lp5 (v0) (v1) (v2) (v3) (v4) (v7)
noncomputable def impl_summed.t5 {γ : Type} (ret : (Int × (List (List Int × Int))) → Option γ) (lp7 : Int → (List (List Int × Int)) → Int → (List (List Int × Int)) → (List (List Int × Int)) → Int → Int → Int → Option γ) (lp5 : Int → (List (List Int × Int)) → Int → (List (List Int × Int)) → (List (List Int × Int)) → Int → Option γ) (v0 : Int) (v1 : List (List Int × Int)) (v2 : Int) (v3 : List (List Int × Int)) (v4 : List (List Int × Int)) (v5 : Int) : Option γ :=
 bif decide (v5 < (↑v4.length : Int)) then
  lp7 (v0) (v1) (v2) (v3) (v4) (v5) ((0 : Int)) (v5)
 else
  ret (v2, v3)
theorem impl_summed.k (v0 : Int) (v1 : List (List (List Int × Int))) : topL E (callT E tab) 105 Try.f105 (impl_summed.c v0 v1) = impl_summed.t (fun b => some (impl_summed.mk b)) impl_summed.q7 impl_summed.q5 v0 v1 := by kernel_rfl
theorem impl_summed.k7 (v0 : Int) (v1 : List (List Int × Int)) (v2 : Int) (v3 : List (List Int × Int)) (v4 : List (List Int × Int)) (v5 : Int) (v6 : Int) (v7 : Int) : roundL E (callT E tab) 105 Try.f105 2 [.r, .r, .r, .r, .l, .r, .b, .o, .r, .b, .r, .l, .b] (nn 4 (⟨(.box false), [iL v0, .d .deep (.sl (.pair (.sl (.int .i64)) (.int .i64))) v1], false, false, false, 0, 0⟩ :: ⟨(.box false), [iL v2, .d .deep (.sl (.pair (.sl (.int .i64)) (.int .i64))) v3], false, false, false, 0, 0⟩ :: vc (.d .sha (.sl (.pair (.sl (.int .i64)) (.int .i64))) v4) :: vc (iL v5) :: vc (iL v6) :: vc (iL v7) :: nn 55 ([]))) = impl_summed.t7 (fun b => some (impl_summed.mk b)) impl_summed.q7 impl_summed.q5 v0 v1 v2 v3 v4 v5 v6 v7 := by kernel_rfl
theorem impl_summed.k5 (v0 : Int) (v1 : List (List Int × Int)) (v2 : Int) (v3 : List (List Int × Int)) (v4 : List (List Int × Int)) (v5 : Int) : roundL E (callT E tab) 105 Try.f105 2 [.r, .r, .r, .r, .l, .r, .b] (nn 4 (⟨(.box false), [iL v0, .d .deep (.sl (.pair (.sl (.int .i64)) (.int .i64))) v1], false, false, false, 0, 0⟩ :: ⟨(.box false), [iL v2, .d .deep (.sl (.pair (.sl (.int .i64)) (.int .i64))) v3], false, false, false, 0, 0⟩ :: vc (.d .sha (.sl (.pair (.sl (.int .i64)) (.int .i64))) v4) :: vc (iL v5) :: nn 57 ([]))) = impl_summed.t5 (fun b => some (impl_summed.mk b)) impl_summed.q7 impl_summed.q5 v0 v1 v2 v3 v4 v5 := by kernel_rfl
theorem impl_summed.eq (v0 : Int) (v1 : List (List (List Int × Int))) {b : Int × (List (List Int × Int))} (h : impl_summed.t some impl_summed.l7 impl_summed.l5 v0 v1 = some b) : impl_summed v0 v1 = some b := tOf_intro impl_summed.un (fun _ => by kernel_rfl) (vlim_fn (callT_le E tab) rfl rfl rfl ((impl_summed.k v0 v1).trans ((by unfold impl_summed.t; repeat' first | exact Sub.ret | exact Sub.none | exact Sub.loop | apply Sub.cond | (apply Sub.bind; intro _) : Sub impl_summed.mk _ _) b h)))
theorem impl_summed.eq7 (v0 : Int) (v1 : List (List Int × Int)) (v2 : Int) (v3 : List (List Int × Int)) (v4 : List (List Int × Int)) (v5 : Int) (v6 : Int) (v7 : Int) {b : Int × (List (List Int × Int))} (h : impl_summed.t7 some impl_summed.l7 impl_summed.l5 v0 v1 v2 v3 v4 v5 v6 v7 = some b) : impl_summed.l7 v0 v1 v2 v3 v4 v5 v6 v7 = some b := tOf_intro impl_summed.un (fun _ => by kernel_rfl) (loopAtL_step ((impl_summed.k7 v0 v1 v2 v3 v4 v5 v6 v7).trans ((by unfold impl_summed.t7; repeat' first | exact Sub.ret | exact Sub.none | exact Sub.loop | apply Sub.cond | (apply Sub.bind; intro _) : Sub impl_summed.mk _ _) b h)))
theorem impl_summed.eq5 (v0 : Int) (v1 : List (List Int × Int)) (v2 : Int) (v3 : List (List Int × Int)) (v4 : List (List Int × Int)) (v5 : Int) {b : Int × (List (List Int × Int))} (h : impl_summed.t5 some impl_summed.l7 impl_summed.l5 v0 v1 v2 v3 v4 v5 = some b) : impl_summed.l5 v0 v1 v2 v3 v4 v5 = some b := tOf_intro impl_summed.un (fun _ => by kernel_rfl) (loopAtL_step ((impl_summed.k5 v0 v1 v2 v3 v4 v5).trans ((by unfold impl_summed.t5; repeat' first | exact Sub.ret | exact Sub.none | exact Sub.loop | apply Sub.cond | (apply Sub.bind; intro _) : Sub impl_summed.mk _ _) b h)))
noncomputable def xs0c.q11 (v0 : List (List Int × Int)) (v1 : List (List (List Int × Int))) (v2 : Int) (v3 : Int) : Option R := loopAtL E (callT E tab) 169 Try.f169 1 [.r, .r, .r, .r, .l, .r, .b] (nn 6 (vc (.d .sha (.sl (.pair (.sl (.int .i64)) (.int .i64))) v0) :: nn 18 (vc (.d .fro (.sl (.sl (.pair (.sl (.int .i64)) (.int .i64)))) v1) :: vc (iL v2) :: vc (iL v3) :: nn 8 ([]))))
noncomputable def xs0c.l11 (v0 : List (List Int × Int)) (v1 : List (List (List Int × Int))) (v2 : Int) (v3 : Int) : Option ((List (List Int × Int))) := tOf xs0c.mk (xs0c.q11 v0 v1 v2 v3)
noncomputable def xs0c.q3 (v0 : List (List (List Int × Int))) (v1 : Int) (v2 : List (List (List Int × Int))) (v3 : Int) (v4 : Int) : Option R := loopAtL E (callT E tab) 169 Try.f169 1 [.r, .r, .l, .r, .b] (vc (.d .fro (.sl (.sl (.pair (.sl (.int .i64)) (.int .i64)))) v0) :: nn 2 (vc (iL v1) :: nn 5 (vc (.d .fro (.sl (.sl (.pair (.sl (.int .i64)) (.int .i64)))) v2) :: vc (iL v3) :: vc (iL v4) :: nn 24 ([]))))
noncomputable def xs0c.l3 (v0 : List (List (List Int × Int))) (v1 : Int) (v2 : List (List (List Int × Int))) (v3 : Int) (v4 : Int) : Option ((List (List Int × Int))) := tOf xs0c.mk (xs0c.q3 v0 v1 v2 v3 v4)
noncomputable def xs0c.t {γ : Type} (ret : ((List (List Int × Int))) → Option γ) (lp11 : (List (List Int × Int)) → (List (List (List Int × Int))) → Int → Int → Option γ) (lp3 : (List (List (List Int × Int))) → Int → (List (List (List Int × Int))) → Int → Int → Option γ) (v0 : List (List (List Int × Int))) : Option γ :=
 lp3 (v0) ((0 : Int)) (v0) ((↑v0.length : Int)) ((0 : Int))
noncomputable def xs0c.t11 {γ : Type} (ret : ((List (List Int × Int))) → Option γ) (lp11 : (List (List Int × Int)) → (List (List (List Int × Int))) → Int → Int → Option γ) (lp3 : (List (List (List Int × Int))) → Int → (List (List (List Int × Int))) → Int → Int → Option γ) (v0 : List (List Int × Int)) (v1 : List (List (List Int × Int))) (v2 : Int) (v3 : Int) : Option γ :=
 bif decide (v3 < v2) then
  bif decide ((0 : Int) ≤ v3) then
   bif decide (v3.toNat < v1.length) then
    bif decide (v0.length + (v1.getD v3.toNat []).length ≤ (4294967296 : Nat)) then
     lp11 (v0 ++ v1.getD v3.toNat []) (v1) (v2) (IntKind.i64.wrap (v3 + (1 : Int)))
    else
     none
   else
    none
  else
   none
 else
  ret (v0)
noncomputable def xs0c.t3 {γ : Type} (ret : ((List (List Int × Int))) → Option γ) (lp11 : (List (List Int × Int)) → (List (List (List Int × Int))) → Int → Int → Option γ) (lp3 : (List (List (List Int × Int))) → Int → (List (List (List Int × Int))) → Int → Int → Option γ) (v0 : List (List (List Int × Int))) (v1 : Int) (v2 : List (List (List Int × Int))) (v3 : Int) (v4 : Int) : Option γ :=
 bif decide (v4 < v3) then
  bif decide ((0 : Int) ≤ v4) then
   bif decide (v4.toNat < v2.length) then
    bif decide (IntKind.i64.wrap (v1 + (↑(v2.getD v4.toNat []).length : Int)) < (0 : Int)) then
     none
    else
     lp3 (v0) (IntKind.i64.wrap (v1 + (↑(v2.getD v4.toNat []).length : Int))) (v2) (v3) (IntKind.i64.wrap (v4 + (1 : Int)))
   else
    none
  else
   none
 else
  (xs0a (v1)).bind fun (r0 : (List (List Int × Int))) =>
  lp11 (r0) (v0) ((↑v0.length : Int)) ((0 : Int))
theorem xs0c.k (v0 : List (List (List Int × Int))) : topL E (callT E tab) 169 Try.f169 (xs0c.c v0) = xs0c.t (fun b => some (xs0c.mk b)) xs0c.q11 xs0c.q3 v0 := by kernel_rfl
theorem xs0c.k11 (v0 : List (List Int × Int)) (v1 : List (List (List Int × Int))) (v2 : Int) (v3 : Int) : roundL E (callT E tab) 169 Try.f169 1 [.r, .r, .r, .r, .l, .r, .b] (nn 6 (vc (.d .sha (.sl (.pair (.sl (.int .i64)) (.int .i64))) v0) :: nn 18 (vc (.d .fro (.sl (.sl (.pair (.sl (.int .i64)) (.int .i64)))) v1) :: vc (iL v2) :: vc (iL v3) :: nn 8 ([])))) = xs0c.t11 (fun b => some (xs0c.mk b)) xs0c.q11 xs0c.q3 v0 v1 v2 v3 := by kernel_rfl
theorem xs0c.k3 (v0 : List (List (List Int × Int))) (v1 : Int) (v2 : List (List (List Int × Int))) (v3 : Int) (v4 : Int) : roundL E (callT E tab) 169 Try.f169 1 [.r, .r, .l, .r, .b] (vc (.d .fro (.sl (.sl (.pair (.sl (.int .i64)) (.int .i64)))) v0) :: nn 2 (vc (iL v1) :: nn 5 (vc (.d .fro (.sl (.sl (.pair (.sl (.int .i64)) (.int .i64)))) v2) :: vc (iL v3) :: vc (iL v4) :: nn 24 ([])))) = xs0c.t3 (fun b => some (xs0c.mk b)) xs0c.q11 xs0c.q3 v0 v1 v2 v3 v4 := by kernel_rfl
theorem xs0c.eq (v0 : List (List (List Int × Int))) {b : (List (List Int × Int))} (h : xs0c.t some xs0c.l11 xs0c.l3 v0 = some b) : xs0c v0 = some b := tOf_intro xs0c.un (fun _ => by kernel_rfl) (vlim_fn (callT_le E tab) rfl rfl rfl ((xs0c.k v0).trans ((by unfold xs0c.t; repeat' first | exact Sub.ret | exact Sub.none | exact Sub.loop | apply Sub.cond | (apply Sub.bind; intro _) : Sub xs0c.mk _ _) b h)))
theorem xs0c.eq11 (v0 : List (List Int × Int)) (v1 : List (List (List Int × Int))) (v2 : Int) (v3 : Int) {b : (List (List Int × Int))} (h : xs0c.t11 some xs0c.l11 xs0c.l3 v0 v1 v2 v3 = some b) : xs0c.l11 v0 v1 v2 v3 = some b := tOf_intro xs0c.un (fun _ => by kernel_rfl) (loopAtL_step ((xs0c.k11 v0 v1 v2 v3).trans ((by unfold xs0c.t11; repeat' first | exact Sub.ret | exact Sub.none | exact Sub.loop | apply Sub.cond | (apply Sub.bind; intro _) : Sub xs0c.mk _ _) b h)))
theorem xs0c.eq3 (v0 : List (List (List Int × Int))) (v1 : Int) (v2 : List (List (List Int × Int))) (v3 : Int) (v4 : Int) {b : (List (List Int × Int))} (h : xs0c.t3 some xs0c.l11 xs0c.l3 v0 v1 v2 v3 v4 = some b) : xs0c.l3 v0 v1 v2 v3 v4 = some b := tOf_intro xs0c.un (fun _ => by kernel_rfl) (loopAtL_step ((xs0c.k3 v0 v1 v2 v3 v4).trans ((by unfold xs0c.t3; repeat' first | exact Sub.ret | exact Sub.none | exact Sub.loop | apply Sub.cond | (apply Sub.bind; intro _) : Sub xs0c.mk _ _) b h)))
noncomputable def xs0a.t {γ : Type} (ret : ((List (List Int × Int))) → Option γ) (v0 : Int) : Option γ :=
 bif decide (v0 < (0 : Int)) then
  none
 else
  bif decide (IntKind.i64.wrap (v0 - IntKind.i64.wrap ((0 : Int) - (0 : Int))) > (0 : Int)) then
   bif decide ((1 : Int) ≤ IntKind.i64.wrap (v0 - IntKind.i64.wrap ((0 : Int) - (0 : Int)))) then
    bif decide (IntKind.i64.wrap (v0 - IntKind.i64.wrap ((0 : Int) - (0 : Int))) ≤ (↑(4294967296 : Nat) : Int)) then
     ret (List.take ((0 : Int) - Option.none.getD (0 : Int)).toNat   (List.drop (Option.none.getD (0 : Int)).toNat     (List.replicate (IntKind.i64.wrap (v0 - IntKind.i64.wrap ((0 : Int) - (0 : Int)))).toNat ([], (0 : Int)))))
    else
     none
   else
    none
  else
   ret ([])
theorem xs0a.k (v0 : Int) : topL E (callT E tab) 212 Try.f212 (xs0a.c v0) = xs0a.t (fun b => some (xs0a.mk b)) v0 := by kernel_rfl
theorem xs0a.eq (v0 : Int) {b : (List (List Int × Int))} (h : xs0a.t some v0 = some b) : xs0a v0 = some b := tOf_intro xs0a.un (fun _ => by kernel_rfl) (vlim_fn (callT_le E tab) rfl rfl rfl ((xs0a.k v0).trans ((by unfold xs0a.t; repeat' first | exact Sub.ret | exact Sub.none | exact Sub.loop | apply Sub.cond | (apply Sub.bind; intro _) : Sub xs0a.mk _ _) b h)))
noncomputable def xs02.t {γ : Type} (ret : ((List (List Int × Int))) → Option γ) (v0 : List (List Int × Int)) : Option γ :=
 (xs09 (v0) ((↑v0.length : Int))).bind fun (r0 : (List (List Int × Int))) =>
 ret (r0)
theorem xs02.k (v0 : List (List Int × Int)) : topL E (callT E tab) 170 Try.f170 (xs02.c v0) = xs02.t (fun b => some (xs02.mk b)) v0 := by kernel_rfl
theorem xs02.eq (v0 : List (List Int × Int)) {b : (List (List Int × Int))} (h : xs02.t some v0 = some b) : xs02 v0 = some b := tOf_intro xs02.un (fun _ => by kernel_rfl) (vlim_fn (callT_le E tab) rfl rfl rfl ((xs02.k v0).trans ((by unfold xs02.t; repeat' first | exact Sub.ret | exact Sub.none | exact Sub.loop | apply Sub.cond | (apply Sub.bind; intro _) : Sub xs02.mk _ _) b h)))
noncomputable def xs09.q9 (v0 : List (List Int × Int)) (v1 : Int) (v2 : Int) (v3 : Int) (v4 : Int) : Option R := loopAtL E (callT E tab) 213 Try.f213 3 [.r, .r, .r, .r, .b, .o, .r, .b, .r, .l, .b] (⟨(.val .one), [.d .sha (.sl (.pair (.sl (.int .i64)) (.int .i64))) v0], true, false, false, 0, 0⟩ :: vc (iL v1) :: vc (.fn 171 []) :: nn 3 (vc (iL v2) :: vc (iL v3) :: vc (iL v4) :: nn 54 ([])))
noncomputable def xs09.l9 (v0 : List (List Int × Int)) (v1 : Int) (v2 : Int) (v3 : Int) (v4 : Int) : Option ((List (List Int × Int))) := tOf xs09.mk (xs09.q9 v0 v1 v2 v3 v4)
noncomputable def xs09.q7 (v0 : List (List Int × Int)) (v1 : Int) (v2 : Int) : Option R := loopAtL E (callT E tab) 213 Try.f213 3 [.r, .r, .r, .r, .b] (⟨(.val .one), [.d .sha (.sl (.pair (.sl (.int .i64)) (.int .i64))) v0], true, false, false, 0, 0⟩ :: vc (iL v1) :: vc (.fn 171 []) :: nn 3 (vc (iL v2) :: nn 56 ([])))
noncomputable def xs09.l7 (v0 : List (List Int × Int)) (v1 : Int) (v2 : Int) : Option ((List (List Int × Int))) := tOf xs09.mk (xs09.q7 v0 v1 v2)
noncomputable def xs09.q2 (v0 : List (List Int × Int)) (v1 : Int) (v2 : Int) (v3 : Int) (v4 : Int) : Option R := loopAtL E (callT E tab) 213 Try.f213 3 [.r, .r, .l, .b] (⟨(.val .one), [.d .sha (.sl (.pair (.sl (.int .i64)) (.int .i64))) v0], true, false, false, 0, 0⟩ :: vc (iL v1) :: vc (.fn 171 []) :: nn 3 (vc (iL v2) :: vc (iL v3) :: vc (iL v4) :: nn 54 ([])))
noncomputable def xs09.l2 (v0 : List (List Int × Int)) (v1 : Int) (v2 : Int) (v3 : Int) (v4 : Int) : Option ((List (List Int × Int))) := tOf xs09.mk (xs09.q2 v0 v1 v2 v3 v4)
noncomputable def xs09.t {γ : Type} (ret : ((List (List Int × Int))) → Option γ) (lp9 : (List (List Int × Int)) → Int → Int → Int → Int → Option γ) (lp7 : (List (List Int × Int)) → Int → Int → Option γ) (lp2 : (List (List Int × Int)) → Int → Int → Int → Int → Option γ) (v0 : List (List Int × Int)) (v1 : Int) : Option γ :=
 lp2 (v0) (v1) ((20 : Int)) ((0 : Int)) ((20 : Int))
noncomputable def xs09.t9 {γ : Type} (ret : ((List (List Int × Int))) → Option γ) (lp9 : (List (List Int × Int)) → Int → Int → Int → Int → Option γ) (lp7 : (List (List Int × Int)) → Int → Int → Option γ) (lp2 : (List (List Int × Int)) → Int → Int → Int → Int → Option γ) (v0 : List (List Int × Int)) (v1 : Int) (v2 : Int) (v3 : Int) (v4 : Int) : Option γ :=
 bif decide (v4 ≤ v1) then
  (xs07 (v0) (v3) (IntKind.i64.wrap (v3 + v2)) (v4)).bind fun (r2 : (List (List Int × Int))) =>
  lp9 (r2) (v1) (v2) (v4) (IntKind.i64.wrap (v4 + IntKind.i64.wrap ((2 : Int) * v2)))
 else
  bif decide (IntKind.i64.wrap (v3 + v2) < v1) then
   (xs07 (v0) (v3) (IntKind.i64.wrap (v3 + v2)) (v1)).bind fun (r3 : (List (List Int × Int))) =>
   lp7 (r3) (v1) (IntKind.i64.wrap (v2 * (2 : Int)))
  else
   lp7 (v0) (v1) (IntKind.i64.wrap (v2 * (2 : Int)))
noncomputable def xs09.t7 {γ : Type} (ret : ((List (List Int × Int))) → Option γ) (lp9 : (List (List Int × Int)) → Int → Int → Int → Int → Option γ) (lp7 : (List (List Int × Int)) → Int → Int → Option γ) (lp2 : (List (List Int × Int)) → Int → Int → Int → Int → Option γ) (v0 : List (List Int × Int)) (v1 : Int) (v2 : Int) : Option γ :=
 bif decide (v2 < v1) then
  lp9 (v0) (v1) (v2) ((0 : Int)) (IntKind.i64.wrap ((2 : Int) * v2))
 else
  ret (v0)
noncomputable def xs09.t2 {γ : Type} (ret : ((List (List Int × Int))) → Option γ) (lp9 : (List (List Int × Int)) → Int → Int → Int → Int → Option γ) (lp7 : (List (List Int × Int)) → Int → Int → Option γ) (lp2 : (List (List Int × Int)) → Int → Int → Int → Int → Option γ) (v0 : List (List Int × Int)) (v1 : Int) (v2 : Int) (v3 : Int) (v4 : Int) : Option γ :=
 bif decide (v4 ≤ v1) then
  (xs03 (v0) (v3) (v4)).bind fun (r0 : (List (List Int × Int))) =>
  lp2 (r0) (v1) (v2) (v4) (IntKind.i64.wrap (v4 + v2))
 else
  (xs03 (v0) (v3) (v1)).bind fun (r1 : (List (List Int × Int))) =>
  lp7 (r1) (v1) (v2)
theorem xs09.k (v0 : List (List Int × Int)) (v1 : Int) : topL E (callT E tab) 213 Try.f213 (xs09.c v0 v1) = xs09.t (fun b => some (xs09.mk b)) xs09.q9 xs09.q7 xs09.q2 v0 v1 := by kernel_rfl
theorem xs09.k9 (v0 : List (List Int × Int)) (v1 : Int) (v2 : Int) (v3 : Int) (v4 : Int) : roundL E (callT E tab) 213 Try.f213 3 [.r, .r, .r, .r, .b, .o, .r, .b, .r, .l, .b] (⟨(.val .one), [.d .sha (.sl (.pair (.sl (.int .i64)) (.int .i64))) v0], true, false, false, 0, 0⟩ :: vc (iL v1) :: vc (.fn 171 []) :: nn 3 (vc (iL v2) :: vc (iL v3) :: vc (iL v4) :: nn 54 ([]))) = xs09.t9 (fun b => some (xs09.mk b)) xs09.q9 xs09.q7 xs09.q2 v0 v1 v2 v3 v4 := by kernel_rfl
theorem xs09.k7 (v0 : List (List Int × Int)) (v1 : Int) (v2 : Int) : roundL E (callT E tab) 213 Try.f213 3 [.r, .r, .r, .r, .b] (⟨(.val .one), [.d .sha (.sl (.pair (.sl (.int .i64)) (.int .i64))) v0], true, false, false, 0, 0⟩ :: vc (iL v1) :: vc (.fn 171 []) :: nn 3 (vc (iL v2) :: nn 56 ([]))) = xs09.t7 (fun b => some (xs09.mk b)) xs09.q9 xs09.q7 xs09.q2 v0 v1 v2 := by kernel_rfl
theorem xs09.k2 (v0 : List (List Int × Int)) (v1 : Int) (v2 : Int) (v3 : Int) (v4 : Int) : roundL E (callT E tab) 213 Try.f213 3 [.r, .r, .l, .b] (⟨(.val .one), [.d .sha (.sl (.pair (.sl (.int .i64)) (.int .i64))) v0], true, false, false, 0, 0⟩ :: vc (iL v1) :: vc (.fn 171 []) :: nn 3 (vc (iL v2) :: vc (iL v3) :: vc (iL v4) :: nn 54 ([]))) = xs09.t2 (fun b => some (xs09.mk b)) xs09.q9 xs09.q7 xs09.q2 v0 v1 v2 v3 v4 := by kernel_rfl
theorem xs09.eq (v0 : List (List Int × Int)) (v1 : Int) {b : (List (List Int × Int))} (h : xs09.t some xs09.l9 xs09.l7 xs09.l2 v0 v1 = some b) : xs09 v0 v1 = some b := tOf_intro xs09.un (fun _ => by kernel_rfl) (vlim_fn (callT_le E tab) rfl rfl rfl ((xs09.k v0 v1).trans ((by unfold xs09.t; repeat' first | exact Sub.ret | exact Sub.none | exact Sub.loop | apply Sub.cond | (apply Sub.bind; intro _) : Sub xs09.mk _ _) b h)))
theorem xs09.eq9 (v0 : List (List Int × Int)) (v1 : Int) (v2 : Int) (v3 : Int) (v4 : Int) {b : (List (List Int × Int))} (h : xs09.t9 some xs09.l9 xs09.l7 xs09.l2 v0 v1 v2 v3 v4 = some b) : xs09.l9 v0 v1 v2 v3 v4 = some b := tOf_intro xs09.un (fun _ => by kernel_rfl) (loopAtL_step ((xs09.k9 v0 v1 v2 v3 v4).trans ((by unfold xs09.t9; repeat' first | exact Sub.ret | exact Sub.none | exact Sub.loop | apply Sub.cond | (apply Sub.bind; intro _) : Sub xs09.mk _ _) b h)))
theorem xs09.eq7 (v0 : List (List Int × Int)) (v1 : Int) (v2 : Int) {b : (List (List Int × Int))} (h : xs09.t7 some xs09.l9 xs09.l7 xs09.l2 v0 v1 v2 = some b) : xs09.l7 v0 v1 v2 = some b := tOf_intro xs09.un (fun _ => by kernel_rfl) (loopAtL_step ((xs09.k7 v0 v1 v2).trans ((by unfold xs09.t7; repeat' first | exact Sub.ret | exact Sub.none | exact Sub.loop | apply Sub.cond | (apply Sub.bind; intro _) : Sub xs09.mk _ _) b h)))
theorem xs09.eq2 (v0 : List (List Int × Int)) (v1 : Int) (v2 : Int) (v3 : Int) (v4 : Int) {b : (List (List Int × Int))} (h : xs09.t2 some xs09.l9 xs09.l7 xs09.l2 v0 v1 v2 v3 v4 = some b) : xs09.l2 v0 v1 v2 v3 v4 = some b := tOf_intro xs09.un (fun _ => by kernel_rfl) (loopAtL_step ((xs09.k2 v0 v1 v2 v3 v4).trans ((by unfold xs09.t2; repeat' first | exact Sub.ret | exact Sub.none | exact Sub.loop | apply Sub.cond | (apply Sub.bind; intro _) : Sub xs09.mk _ _) b h)))
noncomputable def xs03.q4 (v0 : List (List Int × Int)) (v1 : Int) (v2 : Int) (v3 : Int) (v4 : Int) : Option R := loopAtL E (callT E tab) 229 Try.f229 4 [.r, .b, .o, .r, .l, .b, .r, .b] (⟨(.val .one), [.d .sha (.sl (.pair (.sl (.int .i64)) (.int .i64))) v0], true, false, false, 0, 0⟩ :: vc (iL v1) :: vc (iL v2) :: vc (.fn 171 []) :: nn 4 (vc (iL v3) :: vc (iL v4) :: nn 43 ([])))
noncomputable def xs03.l4 (v0 : List (List Int × Int)) (v1 : Int) (v2 : Int) (v3 : Int) (v4 : Int) : Option ((List (List Int × Int))) := tOf xs03.mk (xs03.q4 v0 v1 v2 v3 v4)
noncomputable def xs03.q1 (v0 : List (List Int × Int)) (v1 : Int) (v2 : Int) (v3 : Int) : Option R := loopAtL E (callT E tab) 229 Try.f229 4 [.r, .b] (⟨(.val .one), [.d .sha (.sl (.pair (.sl (.int .i64)) (.int .i64))) v0], true, false, false, 0, 0⟩ :: vc (iL v1) :: vc (iL v2) :: vc (.fn 171 []) :: nn 4 (vc (iL v3) :: nn 44 ([])))
noncomputable def xs03.l1 (v0 : List (List Int × Int)) (v1 : Int) (v2 : Int) (v3 : Int) : Option ((List (List Int × Int))) := tOf xs03.mk (xs03.q1 v0 v1 v2 v3)
noncomputable def xs03.t {γ : Type} (ret : ((List (List Int × Int))) → Option γ) (lp4 : (List (List Int × Int)) → Int → Int → Int → Int → Option γ) (lp1 : (List (List Int × Int)) → Int → Int → Int → Option γ) (v0 : List (List Int × Int)) (v1 : Int) (v2 : Int) : Option γ :=
 lp1 (v0) (v1) (v2) (IntKind.i64.wrap (v1 + (1 : Int)))
noncomputable def xs03.t4 {γ : Type} (ret : ((List (List Int × Int))) → Option γ) (lp4 : (List (List Int × Int)) → Int → Int → Int → Int → Option γ) (lp1 : (List (List Int × Int)) → Int → Int → Int → Option γ) (v0 : List (List Int × Int)) (v1 : Int) (v2 : Int) (v3 : Int) (v4 : Int) : Option γ :=
 bif decide (v4 > v1) then
  bif decide ((0 : Int) ≤ v4) then
   bif decide (v4.toNat < v0.length) then
    bif decide (v4.toNat < v0.length) then
     bif decide ((0 : Int) ≤ IntKind.i64.wrap (v4 - (1 : Int))) then
      bif decide ((IntKind.i64.wrap (v4 - (1 : Int))).toNat < v0.length) then
       bif decide ((IntKind.i64.wrap (v4 - (1 : Int))).toNat < v0.length) then
        (impl_summed_1 ((v0.getD v4.toNat ([], (0 : Int))).fst) ((v0.getD v4.toNat ([], (0 : Int))).snd) ((v0.getD (IntKind.i64.wrap (v4 - (1 : Int))).toNat ([], (0 : Int))).fst) ((v0.getD (IntKind.i64.wrap (v4 - (1 : Int))).toNat ([], (0 : Int))).snd)).bind fun (r0 : Int) =>
        bif decide (r0 < (0 : Int)) then
         bif decide ((0 : Int) ≤ IntKind.i64.wrap (v4 - (1 : Int))) then
          bif decide ((IntKind.i64.wrap (v4 - (1 : Int))).toNat < v0.length) then
           bif decide ((IntKind.i64.wrap (v4 - (1 : Int))).toNat < v0.length) then
            bif decide ((0 : Int) ≤ v4) then
             bif decide (v4.toNat < v0.length) then
              bif decide (v4.toNat < v0.length) then
               bif decide ((0 : Int) ≤ v4) then
                bif decide (v4.toNat < v0.length) then
                 bif decide (v4.toNat < v0.length) then
                  bif decide ((0 : Int) ≤ IntKind.i64.wrap (v4 - (1 : Int))) then
                   bif decide   ((IntKind.i64.wrap (v4 - (1 : Int))).toNat <     (v0.set v4.toNat         ((v0.getD (IntKind.i64.wrap (v4 - (1 : Int))).toNat ([], (0 : Int))).fst,           (v0.getD (IntKind.i64.wrap (v4 - (1 : Int))).toNat ([], (0 : Int))).snd)).length) then
                    bif decide   ((IntKind.i64.wrap (v4 - (1 : Int))).toNat <     (v0.set v4.toNat         ((v0.getD (IntKind.i64.wrap (v4 - (1 : Int))).toNat ([], (0 : Int))).fst,           (v0.getD (IntKind.i64.wrap (v4 - (1 : Int))).toNat ([], (0 : Int))).snd)).length) then
                     lp4 ((v0.set v4.toNat       ((v0.getD (IntKind.i64.wrap (v4 - (1 : Int))).toNat ([], (0 : Int))).fst,         (v0.getD (IntKind.i64.wrap (v4 - (1 : Int))).toNat ([], (0 : Int))).snd)).set   (IntKind.i64.wrap (v4 - (1 : Int))).toNat   ((v0.getD v4.toNat ([], (0 : Int))).fst, (v0.getD v4.toNat ([], (0 : Int))).snd)) (v1) (v2) (v3) (IntKind.i64.wrap (v4 - (1 : Int)))
                    else
                     none
                   else
                    none
                  else
                   none
                 else
                  none
                else
                 none
               else
                none
              else
               none
             else
              none
            else
             none
           else
            none
          else
           none
         else
          none
        else
         lp1 (v0) (v1) (v2) (IntKind.i64.wrap (v3 + (1 : Int)))
       else
        none
      else
       none
     else
      none
    else
     none
   else
    none
  else
   none
 else
  lp1 (v0) (v1) (v2) (IntKind.i64.wrap (v3 + (1 : Int)))
noncomputable def xs03.t1 {γ : Type} (ret : ((List (List Int × Int))) → Option γ) (lp4 : (List (List Int × Int)) → Int → Int → Int → Int → Option γ) (lp1 : (List (List Int × Int)) → Int → Int → Int → Option γ) (v0 : List (List Int × Int)) (v1 : Int) (v2 : Int) (v3 : Int) : Option γ :=
 bif decide (v3 < v2) then
  lp4 (v0) (v1) (v2) (v3) (v3)
 else
  ret (v0)
theorem xs03.k (v0 : List (List Int × Int)) (v1 : Int) (v2 : Int) : topL E (callT E tab) 229 Try.f229 (xs03.c v0 v1 v2) = xs03.t (fun b => some (xs03.mk b)) xs03.q4 xs03.q1 v0 v1 v2 := by kernel_rfl
theorem xs03.k4 (v0 : List (List Int × Int)) (v1 : Int) (v2 : Int) (v3 : Int) (v4 : Int) : roundL E (callT E tab) 229 Try.f229 4 [.r, .b, .o, .r, .l, .b, .r, .b] (⟨(.val .one), [.d .sha (.sl (.pair (.sl (.int .i64)) (.int .i64))) v0], true, false, false, 0, 0⟩ :: vc (iL v1) :: vc (iL v2) :: vc (.fn 171 []) :: nn 4 (vc (iL v3) :: vc (iL v4) :: nn 43 ([]))) = xs03.t4 (fun b => some (xs03.mk b)) xs03.q4 xs03.q1 v0 v1 v2 v3 v4 := by kernel_rfl
theorem xs03.k1 (v0 : List (List Int × Int)) (v1 : Int) (v2 : Int) (v3 : Int) : roundL E (callT E tab) 229 Try.f229 4 [.r, .b] (⟨(.val .one), [.d .sha (.sl (.pair (.sl (.int .i64)) (.int .i64))) v0], true, false, false, 0, 0⟩ :: vc (iL v1) :: vc (iL v2) :: vc (.fn 171 []) :: nn 4 (vc (iL v3) :: nn 44 ([]))) = xs03.t1 (fun b => some (xs03.mk b)) xs03.q4 xs03.q1 v0 v1 v2 v3 := by kernel_rfl
theorem xs03.eq (v0 : List (List Int × Int)) (v1 : Int) (v2 : Int) {b : (List (List Int × Int))} (h : xs03.t some xs03.l4 xs03.l1 v0 v1 v2 = some b) : xs03 v0 v1 v2 = some b := tOf_intro xs03.un (fun _ => by kernel_rfl) (vlim_fn (callT_le E tab) rfl rfl rfl ((xs03.k v0 v1 v2).trans ((by unfold xs03.t; repeat' first | exact Sub.ret | exact Sub.none | exact Sub.loop | apply Sub.cond | (apply Sub.bind; intro _) : Sub xs03.mk _ _) b h)))
theorem xs03.eq4 (v0 : List (List Int × Int)) (v1 : Int) (v2 : Int) (v3 : Int) (v4 : Int) {b : (List (List Int × Int))} (h : xs03.t4 some xs03.l4 xs03.l1 v0 v1 v2 v3 v4 = some b) : xs03.l4 v0 v1 v2 v3 v4 = some b := tOf_intro xs03.un (fun _ => by kernel_rfl) (loopAtL_step ((xs03.k4 v0 v1 v2 v3 v4).trans ((by unfold xs03.t4; repeat' first | exact Sub.ret | exact Sub.none | exact Sub.loop | apply Sub.cond | (apply Sub.bind; intro _) : Sub xs03.mk _ _) b h)))
theorem xs03.eq1 (v0 : List (List Int × Int)) (v1 : Int) (v2 : Int) (v3 : Int) {b : (List (List Int × Int))} (h : xs03.t1 some xs03.l4 xs03.l1 v0 v1 v2 v3 = some b) : xs03.l1 v0 v1 v2 v3 = some b := tOf_intro xs03.un (fun _ => by kernel_rfl) (loopAtL_step ((xs03.k1 v0 v1 v2 v3).trans ((by unfold xs03.t1; repeat' first | exact Sub.ret | exact Sub.none | exact Sub.loop | apply Sub.cond | (apply Sub.bind; intro _) : Sub xs03.mk _ _) b h)))
noncomputable def impl_summed_1.t {γ : Type} (ret : (Int) → Option γ) (v0 : List Int) (v1 : Int) (v2 : List Int) (v3 : Int) : Option γ :=
 (impl_compareRows (v0) (v2)).bind fun (r0 : Int) =>
 ret (r0)
theorem impl_summed_1.k (v0 : List Int) (v1 : Int) (v2 : List Int) (v3 : Int) : topL E (callT E tab) 171 Try.f171 (impl_summed_1.c v0 v1 v2 v3) = impl_summed_1.t (fun b => some (impl_summed_1.mk b)) v0 v1 v2 v3 := by kernel_rfl
theorem impl_summed_1.eq (v0 : List Int) (v1 : Int) (v2 : List Int) (v3 : Int) {b : Int} (h : impl_summed_1.t some v0 v1 v2 v3 = some b) : impl_summed_1 v0 v1 v2 v3 = some b := tOf_intro impl_summed_1.un (fun _ => by kernel_rfl) (vlim_fn (callT_le E tab) rfl rfl rfl ((impl_summed_1.k v0 v1 v2 v3).trans ((by unfold impl_summed_1.t; repeat' first | exact Sub.ret | exact Sub.none | exact Sub.loop | apply Sub.cond | (apply Sub.bind; intro _) : Sub impl_summed_1.mk _ _) b h)))
noncomputable def xs07.q9 (v0 : List (List Int × Int)) (v1 : Int) (v2 : Int) : Option R := loopAtL E (callT E tab) 230 Try.f230 5 [.l, .r, .l, .r, .r, .r, .l, .r, .b] (⟨(.val .one), [.d .sha (.sl (.pair (.sl (.int .i64)) (.int .i64))) v0], true, false, false, 0, 0⟩ :: nn 9 (vc (iL v1) :: nn 2 (vc (iL v2) :: nn 206 ([]))))
noncomputable def xs07.l9 (v0 : List (List Int × Int)) (v1 : Int) (v2 : Int) : Option ((List (List Int × Int))) := tOf xs07.mk (xs07.q9 v0 v1 v2)
noncomputable def xs07.q3 (v0 : List (List Int × Int)) (v1 : Int) (v2 : Int) (v3 : Int) : Option R := loopAtL E (callT E tab) 230 Try.f230 5 [.l, .r, .l, .r, .r, .l, .b] (⟨(.val .one), [.d .sha (.sl (.pair (.sl (.int .i64)) (.int .i64))) v0], true, false, false, 0, 0⟩ :: vc (iL v1) :: nn 2 (vc (.fn 171 []) :: nn 5 (vc (iL v2) :: vc (iL v3) :: nn 208 ([]))))
noncomputable def xs07.l3 (v0 : List (List Int × Int)) (v1 : Int) (v2 : Int) (v3 : Int) : Option ((List (List Int × Int))) := tOf xs07.mk (xs07.q3 v0 v1 v2 v3)
noncomputable def xs07.q21 (v0 : List (List Int × Int)) (v1 : Int) (v2 : Int) : Option R := loopAtL E (callT E tab) 230 Try.f230 5 [.r, .l, .r, .l, .r, .r, .r, .l, .r, .b] (⟨(.val .one), [.d .sha (.sl (.pair (.sl (.int .i64)) (.int .i64))) v0], true, false, false, 0, 0⟩ :: nn 13 (vc (iL v1) :: nn 2 (vc (iL v2) :: nn 202 ([]))))
noncomputable def xs07.l21 (v0 : List (List Int × Int)) (v1 : Int) (v2 : Int) : Option ((List (List Int × Int))) := tOf xs07.mk (xs07.q21 v0 v1 v2)
noncomputable def xs07.q15 (v0 : List (List Int × Int)) (v1 : Int) (v2 : Int) (v3 : Int) : Option R := loopAtL E (callT E tab) 230 Try.f230 5 [.r, .l, .r, .l, .r, .r, .l, .b] (⟨(.val .one), [.d .sha (.sl (.pair (.sl (.int .i64)) (.int .i64))) v0], true, false, false, 0, 0⟩ :: nn 1 (vc (iL v1) :: nn 1 (vc (.fn 171 []) :: nn 9 (vc (iL v2) :: vc (iL v3) :: nn 204 ([])))))
noncomputable def xs07.l15 (v0 : List (List Int × Int)) (v1 : Int) (v2 : Int) (v3 : Int) : Option ((List (List Int × Int))) := tOf xs07.mk (xs07.q15 v0 v1 v2 v3)
noncomputable def xs07.q33 (v0 : List (List Int × Int)) (v1 : Int) (v2 : Int) (v3 : Int) (v4 : Int) (v5 : Int) (v6 : Int) (v7 : Int) (v8 : Int) : Option R := loopAtL E (callT E tab) 230 Try.f230 5 [.r, .r, .r, .r, .r, .r, .r, .l, .b] (⟨(.val .one), [.d .sha (.sl (.pair (.sl (.int .i64)) (.int .i64))) v0], true, false, false, 0, 0⟩ :: vc (iL v1) :: vc (iL v2) :: vc (iL v3) :: vc (.fn 171 []) :: nn 13 (vc (iL v4) :: vc (iL v5) :: vc (iL v6) :: vc (iL v7) :: vc (iL v8) :: nn 197 ([])))
noncomputable def xs07.l33 (v0 : List (List Int × Int)) (v1 : Int) (v2 : Int) (v3 : Int) (v4 : Int) (v5 : Int) (v6 : Int) (v7 : Int) (v8 : Int) : Option ((List (List Int × Int))) := tOf xs07.mk (xs07.q33 v0 v1 v2 v3 v4 v5 v6 v7 v8)
noncomputable def xs07.t {γ : Type} (ret : ((List (List Int × Int))) → Option γ) (lp9 : (List (List Int × Int)) → Int → Int → Option γ) (lp3 : (List (List Int × Int)) → Int → Int → Int → Option γ) (lp21 : (List (List Int × Int)) → Int → Int → Option γ) (lp15 : (List (List Int × Int)) → Int → Int → Int → Option γ) (lp33 : (List (List Int × Int)) → Int → Int → Int → Int → Int → Int → Int → Int → Option γ) (v0 : List (List Int × Int)) (v1 : Int) (v2 : Int) (v3 : Int) : Option γ :=
 bif IntKind.i64.wrap (v2 - v1) == (1 : Int) then
  lp3 (v0) (v1) (v2) (v3)
 else
  bif IntKind.i64.wrap (v3 - v2) == (1 : Int) then
   lp15 (v0) (v2) (v1) (v2)
  else
   bif decide   (v2 >     IntKind.i64.wrap       ((IntKind.u64.wrap (IntKind.i64.wrap (v1 + v3))).fdiv         ((2 : Int) ^ Min.min (Int.toNat (1 : Int)) IntKind.u64.bits))) then
    lp33 (v0) (v1) (v2) (v3) (IntKind.i64.wrap   ((IntKind.u64.wrap (IntKind.i64.wrap (v1 + v3))).fdiv     ((2 : Int) ^ Min.min (Int.toNat (1 : Int)) IntKind.u64.bits))) (IntKind.i64.wrap   (IntKind.i64.wrap       ((IntKind.u64.wrap (IntKind.i64.wrap (v1 + v3))).fdiv         ((2 : Int) ^ Min.min (Int.toNat (1 : Int)) IntKind.u64.bits)) +     v2)) (IntKind.i64.wrap   (IntKind.i64.wrap       (IntKind.i64.wrap           ((IntKind.u64.wrap (IntKind.i64.wrap (v1 + v3))).fdiv             ((2 : Int) ^ Min.min (Int.toNat (1 : Int)) IntKind.u64.bits)) +         v2) -     v3)) (IntKind.i64.wrap   ((IntKind.u64.wrap (IntKind.i64.wrap (v1 + v3))).fdiv     ((2 : Int) ^ Min.min (Int.toNat (1 : Int)) IntKind.u64.bits))) (IntKind.i64.wrap   (IntKind.i64.wrap       (IntKind.i64.wrap           ((IntKind.u64.wrap (IntKind.i64.wrap (v1 + v3))).fdiv             ((2 : Int) ^ Min.min (Int.toNat (1 : Int)) IntKind.u64.bits)) +         v2) -     (1 : Int)))
   else
    lp33 (v0) (v1) (v2) (v3) (IntKind.i64.wrap   ((IntKind.u64.wrap (IntKind.i64.wrap (v1 + v3))).fdiv     ((2 : Int) ^ Min.min (Int.toNat (1 : Int)) IntKind.u64.bits))) (IntKind.i64.wrap   (IntKind.i64.wrap       ((IntKind.u64.wrap (IntKind.i64.wrap (v1 + v3))).fdiv         ((2 : Int) ^ Min.min (Int.toNat (1 : Int)) IntKind.u64.bits)) +     v2)) (v1) (v2) (IntKind.i64.wrap   (IntKind.i64.wrap       (IntKind.i64.wrap           ((IntKind.u64.wrap (IntKind.i64.wrap (v1 + v3))).fdiv             ((2 : Int) ^ Min.min (Int.toNat (1 : Int)) IntKind.u64.bits)) +         v2) -     (1 : Int)))
noncomputable def xs07.t9 {γ : Type} (ret : ((List (List Int × Int))) → Option γ) (lp9 : (List (List Int × Int)) → Int → Int → Option γ) (lp3 : (List (List Int × Int)) → Int → Int → Int → Option γ) (lp21 : (List (List Int × Int)) → Int → Int → Option γ) (lp15 : (List (List Int × Int)) → Int → Int → Int → Option γ) (lp33 : (List (List Int × Int)) → Int → Int → Int → Int → Int → Int → Int → Int → Option γ) (v0 : List (List Int × Int)) (v1 : Int) (v2 : Int) : Option γ :=
 bif decide (v2 < IntKind.i64.wrap (v1 - (1 : Int))) then
  bif decide ((0 : Int) ≤ IntKind.i64.wrap (v2 + (1 : Int))) then
   bif decide ((IntKind.i64.wrap (v2 + (1 : Int))).toNat < v0.length) then
    bif decide ((IntKind.i64.wrap (v2 + (1 : Int))).toNat < v0.length) then
     bif decide ((0 : Int) ≤ v2) then
      bif decide (v2.toNat < v0.length) then
       bif decide (v2.toNat < v0.length) then
        bif decide ((0 : Int) ≤ v2) then
         bif decide (v2.toNat < v0.length) then
          bif decide (v2.toNat < v0.length) then
           bif decide ((0 : Int) ≤ IntKind.i64.wrap (v2 + (1 : Int))) then
            bif decide   ((IntKind.i64.wrap (v2 + (1 : Int))).toNat <     (v0.set v2.toNat         ((v0.getD (IntKind.i64.wrap (v2 + (1 : Int))).toNat ([], (0 : Int))).fst,           (v0.getD (IntKind.i64.wrap (v2 + (1 : Int))).toNat ([], (0 : Int))).snd)).length) then
             bif decide   ((IntKind.i64.wrap (v2 + (1 : Int))).toNat <     (v0.set v2.toNat         ((v0.getD (IntKind.i64.wrap (v2 + (1 : Int))).toNat ([], (0 : Int))).fst,           (v0.getD (IntKind.i64.wrap (v2 + (1 : Int))).toNat ([], (0 : Int))).snd)).length) then
              lp9 ((v0.set v2.toNat       ((v0.getD (IntKind.i64.wrap (v2 + (1 : Int))).toNat ([], (0 : Int))).fst,         (v0.getD (IntKind.i64.wrap (v2 + (1 : Int))).toNat ([], (0 : Int))).snd)).set   (IntKind.i64.wrap (v2 + (1 : Int))).toNat   ((v0.getD v2.toNat ([], (0 : Int))).fst, (v0.getD v2.toNat ([], (0 : Int))).snd)) (v1) (IntKind.i64.wrap (v2 + (1 : Int)))
             else
              none
            else
             none
           else
            none
          else
           none
         else
          none
        else
         none
       else
        none
      else
       none
     else
      none
    else
     none
   else
    none
  else
   none
 else
  ret (v0)
noncomputable def xs07.t3 {γ : Type} (ret : ((List (List Int × Int))) → Option γ) (lp9 : (List (List Int × Int)) → Int → Int → Option γ) (lp3 : (List (List Int × Int)) → Int → Int → Int → Option γ) (lp21 : (List (List Int × Int)) → Int → Int → Option γ) (lp15 : (List (List Int × Int)) → Int → Int → Int → Option γ) (lp33 : (List (List Int × Int)) → Int → Int → Int → Int → Int → Int → Int → Int → Option γ) (v0 : List (List Int × Int)) (v1 : Int) (v2 : Int) (v3 : Int) : Option γ :=
 bif decide (v2 < v3) then
  bif decide   ((0 : Int) ≤     IntKind.i64.wrap       ((IntKind.u64.wrap (IntKind.i64.wrap (v2 + v3))).fdiv         ((2 : Int) ^ Min.min (Int.toNat (1 : Int)) IntKind.u64.bits))) then
   bif decide   ((IntKind.i64.wrap         ((IntKind.u64.wrap (IntKind.i64.wrap (v2 + v3))).fdiv           ((2 : Int) ^ Min.min (Int.toNat (1 : Int)) IntKind.u64.bits))).toNat <     v0.length) then
    bif decide   ((IntKind.i64.wrap         ((IntKind.u64.wrap (IntKind.i64.wrap (v2 + v3))).fdiv           ((2 : Int) ^ Min.min (Int.toNat (1 : Int)) IntKind.u64.bits))).toNat <     v0.length) then
     bif decide ((0 : Int) ≤ v1) then
      bif decide (v1.toNat < v0.length) then
       bif decide (v1.toNat < v0.length) then
        (impl_summed_1 ((v0.getD     (IntKind.i64.wrap         ((IntKind.u64.wrap (IntKind.i64.wrap (v2 + v3))).fdiv           ((2 : Int) ^ Min.min (Int.toNat (1 : Int)) IntKind.u64.bits))).toNat     ([], (0 : Int))).fst) ((v0.getD     (IntKind.i64.wrap         ((IntKind.u64.wrap (IntKind.i64.wrap (v2 + v3))).fdiv           ((2 : Int) ^ Min.min (Int.toNat (1 : Int)) IntKind.u64.bits))).toNat     ([], (0 : Int))).snd) ((v0.getD v1.toNat ([], (0 : Int))).fst) ((v0.getD v1.toNat ([], (0 : Int))).snd)).bind fun (r0 : Int) =>
        bif decide (r0 < (0 : Int)) then
         lp3 (v0) (v1) (IntKind.i64.wrap   (IntKind.i64.wrap       ((IntKind.u64.wrap (IntKind.i64.wrap (v2 + v3))).fdiv         ((2 : Int) ^ Min.min (Int.toNat (1 : Int)) IntKind.u64.bits)) +     (1 : Int))) (v3)
        else
         lp3 (v0) (v1) (v2) (IntKind.i64.wrap   ((IntKind.u64.wrap (IntKind.i64.wrap (v2 + v3))).fdiv     ((2 : Int) ^ Min.min (Int.toNat (1 : Int)) IntKind.u64.bits)))
       else
        none
      else
       none
     else
      none
    else
     none
   else
    none
  else
   none
 else
  lp9 (v0) (v2) (v1)
noncomputable def xs07.t21 {γ : Type} (ret : ((List (List Int × Int))) → Option γ) (lp9 : (List (List Int × Int)) → Int → Int → Option γ) (lp3 : (List (List Int × Int)) → Int → Int → Int → Option γ) (lp21 : (List (List Int × Int)) → Int → Int → Option γ) (lp15 : (List (List Int × Int)) → Int → Int → Int → Option γ) (lp33 : (List (List Int × Int)) → Int → Int → Int → Int → Int → Int → Int → Int → Option γ) (v0 : List (List Int × Int)) (v1 : Int) (v2 : Int) : Option γ :=
 bif decide (v2 > v1) then
  bif decide ((0 : Int) ≤ IntKind.i64.wrap (v2 - (1 : Int))) then
   bif decide ((IntKind.i64.wrap (v2 - (1 : Int))).toNat < v0.length) then
    bif decide ((IntKind.i64.wrap (v2 - (1 : Int))).toNat < v0.length) then
     bif decide ((0 : Int) ≤ v2) then
      bif decide (v2.toNat < v0.length) then
       bif decide (v2.toNat < v0.length) then
        bif decide ((0 : Int) ≤ v2) then
         bif decide (v2.toNat < v0.length) then
          bif decide (v2.toNat < v0.length) then
           bif decide ((0 : Int) ≤ IntKind.i64.wrap (v2 - (1 : Int))) then
            bif decide   ((IntKind.i64.wrap (v2 - (1 : Int))).toNat <     (v0.set v2.toNat         ((v0.getD (IntKind.i64.wrap (v2 - (1 : Int))).toNat ([], (0 : Int))).fst,           (v0.getD (IntKind.i64.wrap (v2 - (1 : Int))).toNat ([], (0 : Int))).snd)).length) then
             bif decide   ((IntKind.i64.wrap (v2 - (1 : Int))).toNat <     (v0.set v2.toNat         ((v0.getD (IntKind.i64.wrap (v2 - (1 : Int))).toNat ([], (0 : Int))).fst,           (v0.getD (IntKind.i64.wrap (v2 - (1 : Int))).toNat ([], (0 : Int))).snd)).length) then
              lp21 ((v0.set v2.toNat       ((v0.getD (IntKind.i64.wrap (v2 - (1 : Int))).toNat ([], (0 : Int))).fst,         (v0.getD (IntKind.i64.wrap (v2 - (1 : Int))).toNat ([], (0 : Int))).snd)).set   (IntKind.i64.wrap (v2 - (1 : Int))).toNat   ((v0.getD v2.toNat ([], (0 : Int))).fst, (v0.getD v2.toNat ([], (0 : Int))).snd)) (v1) (IntKind.i64.wrap (v2 - (1 : Int)))
             else
              none
            else
             none
           else
            none
          else
           none
         else
          none
        else
         none
       else
        none
      else
       none
     else
      none
    else
     none
   else
    none
  else
   none
 else
  ret (v0)
noncomputable def xs07.t15 {γ : Type} (ret : ((List (List Int × Int))) → Option γ) (lp9 : (List (List Int × Int)) → Int → Int → Option γ) (lp3 : (List (List Int × Int)) → Int → Int → Int → Option γ) (lp21 : (List (List Int × Int)) → Int → Int → Option γ) (lp15 : (List (List Int × Int)) → Int → Int → Int → Option γ) (lp33 : (List (List Int × Int)) → Int → Int → Int → Int → Int → Int → Int → Int → Option γ) (v0 : List (List Int × Int)) (v1 : Int) (v2 : Int) (v3 : Int) : Option γ :=
 bif decide (v2 < v3) then
  bif decide ((0 : Int) ≤ v1) then
   bif decide (v1.toNat < v0.length) then
    bif decide (v1.toNat < v0.length) then
     bif decide   ((0 : Int) ≤     IntKind.i64.wrap       ((IntKind.u64.wrap (IntKind.i64.wrap (v2 + v3))).fdiv         ((2 : Int) ^ Min.min (Int.toNat (1 : Int)) IntKind.u64.bits))) then
      bif decide   ((IntKind.i64.wrap         ((IntKind.u64.wrap (IntKind.i64.wrap (v2 + v3))).fdiv           ((2 : Int) ^ Min.min (Int.toNat (1 : Int)) IntKind.u64.bits))).toNat <     v0.length) then
       bif decide   ((IntKind.i64.wrap         ((IntKind.u64.wrap (IntKind.i64.wrap (v2 + v3))).fdiv           ((2 : Int) ^ Min.min (Int.toNat (1 : Int)) IntKind.u64.bits))).toNat <     v0.length) then
        (impl_summed_1 ((v0.getD v1.toNat ([], (0 : Int))).fst) ((v0.getD v1.toNat ([], (0 : Int))).snd) ((v0.getD     (IntKind.i64.wrap         ((IntKind.u64.wrap (IntKind.i64.wrap (v2 + v3))).fdiv           ((2 : Int) ^ Min.min (Int.toNat (1 : Int)) IntKind.u64.bits))).toNat     ([], (0 : Int))).fst) ((v0.getD     (IntKind.i64.wrap         ((IntKind.u64.wrap (IntKind.i64.wrap (v2 + v3))).fdiv           ((2 : Int) ^ Min.min (Int.toNat (1 : Int)) IntKind.u64.bits))).toNat     ([], (0 : Int))).snd)).bind fun (r1 : Int) =>
        bif !decide (r1 < (0 : Int)) then
         lp15 (v0) (v1) (IntKind.i64.wrap   (IntKind.i64.wrap       ((IntKind.u64.wrap (IntKind.i64.wrap (v2 + v3))).fdiv         ((2 : Int) ^ Min.min (Int.toNat (1 : Int)) IntKind.u64.bits)) +     (1 : Int))) (v3)
        else
         lp15 (v0) (v1) (v2) (IntKind.i64.wrap   ((IntKind.u64.wrap (IntKind.i64.wrap (v2 + v3))).fdiv     ((2 : Int) ^ Min.min (Int.toNat (1 : Int)) IntKind.u64.bits)))
       else
        none
      else
       none
     else
      none
    else
     none
   else
    none
  else
   none
 else
  lp21 (v0) (v2) (v1)
noncomputable def xs07.t33 {γ : Type} (ret : ((List (List Int × Int))) → Option γ) (lp9 : (List (List Int × Int)) → Int → Int → Option γ) (lp3 : (List (List Int × Int)) → Int → Int → Int → Option γ) (lp21 : (List (List Int × Int)) → Int → Int → Option γ) (lp15 : (List (List Int × Int)) → Int → Int → Int → Option γ) (lp33 : (List (List Int × Int)) → Int → Int → Int → Int → Int → Int → Int → Int → Option γ) (v0 : List (List Int × Int)) (v1 : Int) (v2 : Int) (v3 : Int) (v4 : Int) (v5 : Int) (v6 : Int) (v7 : Int) (v8 : Int) : Option γ :=
 bif decide (v6 < v7) then
  bif decide   ((0 : Int) ≤     IntKind.i64.wrap       (v8 -         IntKind.i64.wrap           ((IntKind.u64.wrap (IntKind.i64.wrap (v6 + v7))).fdiv             ((2 : Int) ^ Min.min (Int.toNat (1 : Int)) IntKind.u64.bits)))) then
   bif decide   ((IntKind.i64.wrap         (v8 -           IntKind.i64.wrap             ((IntKind.u64.wrap (IntKind.i64.wrap (v6 + v7))).fdiv               ((2 : Int) ^ Min.min (Int.toNat (1 : Int)) IntKind.u64.bits)))).toNat <     v0.length) then
    bif decide   ((IntKind.i64.wrap         (v8 -           IntKind.i64.wrap             ((IntKind.u64.wrap (IntKind.i64.wrap (v6 + v7))).fdiv               ((2 : Int) ^ Min.min (Int.toNat (1 : Int)) IntKind.u64.bits)))).toNat <     v0.length) then
     bif decide   ((0 : Int) ≤     IntKind.i64.wrap       ((IntKind.u64.wrap (IntKind.i64.wrap (v6 + v7))).fdiv         ((2 : Int) ^ Min.min (Int.toNat (1 : Int)) IntKind.u64.bits))) then
      bif decide   ((IntKind.i64.wrap         ((IntKind.u64.wrap (IntKind.i64.wrap (v6 + v7))).fdiv           ((2 : Int) ^ Min.min (Int.toNat (1 : Int)) IntKind.u64.bits))).toNat <     v0.length) then
       bif decide   ((IntKind.i64.wrap         ((IntKind.u64.wrap (IntKind.i64.wrap (v6 + v7))).fdiv           ((2 : Int) ^ Min.min (Int.toNat (1 : Int)) IntKind.u64.bits))).toNat <     v0.length) then
        (impl_summed_1 ((v0.getD     (IntKind.i64.wrap         (v8 -           IntKind.i64.wrap             ((IntKind.u64.wrap (IntKind.i64.wrap (v6 + v7))).fdiv               ((2 : Int) ^ Min.min (Int.toNat (1 : Int)) IntKind.u64.bits)))).toNat     ([], (0 : Int))).fst) ((v0.getD     (IntKind.i64.wrap         (v8 -           IntKind.i64.wrap             ((IntKind.u64.wrap (IntKind.i64.wrap (v6 + v7))).fdiv               ((2 : Int) ^ Min.min (Int.toNat (1 : Int)) IntKind.u64.bits)))).toNat     ([], (0 : Int))).snd) ((v0.getD     (IntKind.i64.wrap         ((IntKind.u64.wrap (IntKind.i64.wrap (v6 + v7))).fdiv           ((2 : Int) ^ Min.min (Int.toNat (1 : Int)) IntKind.u64.bits))).toNat     ([], (0 : Int))).fst) ((v0.getD     (IntKind.i64.wrap         ((IntKind.u64.wrap (IntKind.i64.wrap (v6 + v7))).fdiv           ((2 : Int) ^ Min.min (Int.toNat (1 : Int)) IntKind.u64.bits))).toNat     ([], (0 : Int))).snd)).bind fun (r2 : Int) =>
        bif !decide (r2 < (0 : Int)) then
         lp33 (v0) (v1) (v2) (v3) (v4) (v5) (IntKind.i64.wrap   (IntKind.i64.wrap       ((IntKind.u64.wrap (IntKind.i64.wrap (v6 + v7))).fdiv         ((2 : Int) ^ Min.min (Int.toNat (1 : Int)) IntKind.u64.bits)) +     (1 : Int))) (v7) (v8)
        else
         lp33 (v0) (v1) (v2) (v3) (v4) (v5) (v6) (IntKind.i64.wrap   ((IntKind.u64.wrap (IntKind.i64.wrap (v6 + v7))).fdiv     ((2 : Int) ^ Min.min (Int.toNat (1 : Int)) IntKind.u64.bits))) (v8)
       else
        none
      else
       none
     else
      none
    else
     none
   else
    none
  else
   none
 else
  bif decide (v6 < v2) then
   bif decide (v2 < IntKind.i64.wrap (v5 - v6)) then
    (xs08 (v0) (v6) (v2) (IntKind.i64.wrap (v5 - v6))).bind fun (r3 : (List (List Int × Int))) =>
    bif decide (v1 < v6) then
     bif decide (v6 < v4) then
      (xs07 (r3) (v1) (v6) (v4)).bind fun (r4 : (List (List Int × Int))) =>
      bif decide (v4 < IntKind.i64.wrap (v5 - v6)) then
       bif decide (IntKind.i64.wrap (v5 - v6) < v3) then
        (xs07 (r4) (v4) (IntKind.i64.wrap (v5 - v6)) (v3)).bind fun (r5 : (List (List Int × Int))) =>
        ret (r5)
       else
        ret (r4)
      else
       ret (r4)
     else
      bif decide (v4 < IntKind.i64.wrap (v5 - v6)) then
       bif decide (IntKind.i64.wrap (v5 - v6) < v3) then
        (xs07 (r3) (v4) (IntKind.i64.wrap (v5 - v6)) (v3)).bind fun (r6 : (List (List Int × Int))) =>
        ret (r6)
       else
        ret (r3)
      else
       ret (r3)
    else
     bif decide (v4 < IntKind.i64.wrap (v5 - v6)) then
      bif decide (IntKind.i64.wrap (v5 - v6) < v3) then
       (xs07 (r3) (v4) (IntKind.i64.wrap (v5 - v6)) (v3)).bind fun (r7 : (List (List Int × Int))) =>
       ret (r7)
      else
       ret (r3)
     else
      ret (r3)
   else
    bif decide (v1 < v6) then
     bif decide (v6 < v4) then
      (xs07 (v0) (v1) (v6) (v4)).bind fun (r8 : (List (List Int × Int))) =>
      bif decide (v4 < IntKind.i64.wrap (v5 - v6)) then
       bif decide (IntKind.i64.wrap (v5 - v6) < v3) then
        (xs07 (r8) (v4) (IntKind.i64.wrap (v5 - v6)) (v3)).bind fun (r9 : (List (List Int × Int))) =>
        ret (r9)
       else
        ret (r8)
      else
       ret (r8)
     else
      bif decide (v4 < IntKind.i64.wrap (v5 - v6)) then
       bif decide (IntKind.i64.wrap (v5 - v6) < v3) then
        (xs07 (v0) (v4) (IntKind.i64.wrap (v5 - v6)) (v3)).bind fun (r10 : (List (List Int × Int))) =>
        ret (r10)
       else
        ret (v0)
      else
       ret (v0)
    else
     bif decide (v4 < IntKind.i64.wrap (v5 - v6)) then
      bif decide (IntKind.i64.wrap (v5 - v6) < v3) then
       (xs07 (v0) (v4) (IntKind.i64.wrap (v5 - v6)) (v3)).bind fun (r11 : (List (List Int × Int))) =>
       ret (r11)
      else
       ret (v0)
     else
      ret (v0)
  else
   bif decide (v1 < v6) then
    bif decide (v6 < v4) then
     (xs07 (v0) (v1) (v6) (v4)).bind fun (r12 : (List (List Int × Int))) =>
     bif decide (v4 < IntKind.i64.wrap (v5 - v6)) then
      bif decide (IntKind.i64.wrap (v5 - v6) < v3) then
       (xs07 (r12) (v4) (IntKind.i64.wrap (v5 - v6)) (v3)).bind fun (r13 : (List (List Int × Int))) =>
       ret (r13)
      else
       ret (r12)
     else
      ret (r12)
    else
     bif decide (v4 < IntKind.i64.wrap (v5 - v6)) then
      bif decide (IntKind.i64.wrap (v5 - v6) < v3) then
       (xs07 (v0) (v4) (IntKind.i64.wrap (v5 - v6)) (v3)).bind fun (r14 : (List (List Int × Int))) =>
       ret (r14)
      else
       ret (v0)
     else
      ret (v0)
   else
    bif decide (v4 < IntKind.i64.wrap (v5 - v6)) then
     bif decide (IntKind.i64.wrap (v5 - v6) < v3) then
      (xs07 (v0) (v4) (IntKind.i64.wrap (v5 - v6)) (v3)).bind fun (r15 : (List (List Int × Int))) =>
      ret (r15)
     else
      ret (v0)
    else
     ret (v0)
theorem xs07.k (v0 : List (List Int × Int)) (v1 : Int) (v2 : Int) (v3 : Int) : topL E (callT E tab) 230 Try.f230 (xs07.c v0 v1 v2 v3) = xs07.t (fun b => some (xs07.mk b)) xs07.q9 xs07.q3 xs07.q21 xs07.q15 xs07.q33 v0 v1 v2 v3 := by kernel_rfl
theorem xs07.k9 (v0 : List (List Int × Int)) (v1 : Int) (v2 : Int) : roundL E (callT E tab) 230 Try.f230 5 [.l, .r, .l, .r, .r, .r, .l, .r, .b] (⟨(.val .one), [.d .sha (.sl (.pair (.sl (.int .i64)) (.int .i64))) v0], true, false, false, 0, 0⟩ :: nn 9 (vc (iL v1) :: nn 2 (vc (iL v2) :: nn 206 ([])))) = xs07.t9 (fun b => some (xs07.mk b)) xs07.q9 xs07.q3 xs07.q21 xs07.q15 xs07.q33 v0 v1 v2 := by kernel_rfl
theorem xs07.k3 (v0 : List (List Int × Int)) (v1 : Int) (v2 : Int) (v3 : Int) : roundL E (callT E tab) 230 Try.f230 5 [.l, .r, .l, .r, .r, .l, .b] (⟨(.val .one), [.d .sha (.sl (.pair (.sl (.int .i64)) (.int .i64))) v0], true, false, false, 0, 0⟩ :: vc (iL v1) :: nn 2 (vc (.fn 171 []) :: nn 5 (vc (iL v2) :: vc (iL v3) :: nn 208 ([])))) = xs07.t3 (fun b => some (xs07.mk b)) xs07.q9 xs07.q3 xs07.q21 xs07.q15 xs07.q33 v0 v1 v2 v3 := by kernel_rfl
theorem xs07.k21 (v0 : List (List Int × Int)) (v1 : Int) (v2 : Int) : roundL E (callT E tab) 230 Try.f230 5 [.r, .l, .r, .l, .r, .r, .r, .l, .r, .b] (⟨(.val .one), [.d .sha (.sl (.pair (.sl (.int .i64)) (.int .i64))) v0], true, false, false, 0, 0⟩ :: nn 13 (vc (iL v1) :: nn 2 (vc (iL v2) :: nn 202 ([])))) = xs07.t21 (fun b => some (xs07.mk b)) xs07.q9 xs07.q3 xs07.q21 xs07.q15 xs07.q33 v0 v1 v2 := by kernel_rfl
theorem xs07.k15 (v0 : List (List Int × Int)) (v1 : Int) (v2 : Int) (v3 : Int) : roundL E (callT E tab) 230 Try.f230 5 [.r, .l, .r, .l, .r, .r, .l, .b] (⟨(.val .one), [.d .sha (.sl (.pair (.sl (.int .i64)) (.int .i64))) v0], true, false, false, 0, 0⟩ :: nn 1 (vc (iL v1) :: nn 1 (vc (.fn 171 []) :: nn 9 (vc (iL v2) :: vc (iL v3) :: nn 204 ([]))))) = xs07.t15 (fun b => some (xs07.mk b)) xs07.q9 xs07.q3 xs07.q21 xs07.q15 xs07.q33 v0 v1 v2 v3 := by kernel_rfl
theorem xs07.k33 (v0 : List (List Int × Int)) (v1 : Int) (v2 : Int) (v3 : Int) (v4 : Int) (v5 : Int) (v6 : Int) (v7 : Int) (v8 : Int) : roundL E (callT E tab) 230 Try.f230 5 [.r, .r, .r, .r, .r, .r, .r, .l, .b] (⟨(.val .one), [.d .sha (.sl (.pair (.sl (.int .i64)) (.int .i64))) v0], true, false, false, 0, 0⟩ :: vc (iL v1) :: vc (iL v2) :: vc (iL v3) :: vc (.fn 171 []) :: nn 13 (vc (iL v4) :: vc (iL v5) :: vc (iL v6) :: vc (iL v7) :: vc (iL v8) :: nn 197 ([]))) = xs07.t33 (fun b => some (xs07.mk b)) xs07.q9 xs07.q3 xs07.q21 xs07.q15 xs07.q33 v0 v1 v2 v3 v4 v5 v6 v7 v8 := by kernel_rfl
theorem xs07.eq (v0 : List (List Int × Int)) (v1 : Int) (v2 : Int) (v3 : Int) {b : (List (List Int × Int))} (h : xs07.t some xs07.l9 xs07.l3 xs07.l21 xs07.l15 xs07.l33 v0 v1 v2 v3 = some b) : xs07 v0 v1 v2 v3 = some b := tOf_intro xs07.un (fun _ => by kernel_rfl) (vlim_fn (callT_le E tab) rfl rfl rfl ((xs07.k v0 v1 v2 v3).trans ((by unfold xs07.t; repeat' first | exact Sub.ret | exact Sub.none | exact Sub.loop | apply Sub.cond | (apply Sub.bind; intro _) : Sub xs07.mk _ _) b h)))
theorem xs07.eq9 (v0 : List (List Int × Int)) (v1 : Int) (v2 : Int) {b : (List (List Int × Int))} (h : xs07.t9 some xs07.l9 xs07.l3 xs07.l21 xs07.l15 xs07.l33 v0 v1 v2 = some b) : xs07.l9 v0 v1 v2 = some b := tOf_intro xs07.un (fun _ => by kernel_rfl) (loopAtL_step ((xs07.k9 v0 v1 v2).trans ((by unfold xs07.t9; repeat' first | exact Sub.ret | exact Sub.none | exact Sub.loop | apply Sub.cond | (apply Sub.bind; intro _) : Sub xs07.mk _ _) b h)))
theorem xs07.eq3 (v0 : List (List Int × Int)) (v1 : Int) (v2 : Int) (v3 : Int) {b : (List (List Int × Int))} (h : xs07.t3 some xs07.l9 xs07.l3 xs07.l21 xs07.l15 xs07.l33 v0 v1 v2 v3 = some b) : xs07.l3 v0 v1 v2 v3 = some b := tOf_intro xs07.un (fun _ => by kernel_rfl) (loopAtL_step ((xs07.k3 v0 v1 v2 v3).trans ((by unfold xs07.t3; repeat' first | exact Sub.ret | exact Sub.none | exact Sub.loop | apply Sub.cond | (apply Sub.bind; intro _) : Sub xs07.mk _ _) b h)))
theorem xs07.eq21 (v0 : List (List Int × Int)) (v1 : Int) (v2 : Int) {b : (List (List Int × Int))} (h : xs07.t21 some xs07.l9 xs07.l3 xs07.l21 xs07.l15 xs07.l33 v0 v1 v2 = some b) : xs07.l21 v0 v1 v2 = some b := tOf_intro xs07.un (fun _ => by kernel_rfl) (loopAtL_step ((xs07.k21 v0 v1 v2).trans ((by unfold xs07.t21; repeat' first | exact Sub.ret | exact Sub.none | exact Sub.loop | apply Sub.cond | (apply Sub.bind; intro _) : Sub xs07.mk _ _) b h)))
theorem xs07.eq15 (v0 : List (List Int × Int)) (v1 : Int) (v2 : Int) (v3 : Int) {b : (List (List Int × Int))} (h : xs07.t15 some xs07.l9 xs07.l3 xs07.l21 xs07.l15 xs07.l33 v0 v1 v2 v3 = some b) : xs07.l15 v0 v1 v2 v3 = some b := tOf_intro xs07.un (fun _ => by kernel_rfl) (loopAtL_step ((xs07.k15 v0 v1 v2 v3).trans ((by unfold xs07.t15; repeat' first | exact Sub.ret | exact Sub.none | exact Sub.loop | apply Sub.cond | (apply Sub.bind; intro _) : Sub xs07.mk _ _) b h)))
theorem xs07.eq33 (v0 : List (List Int × Int)) (v1 : Int) (v2 : Int) (v3 : Int) (v4 : Int) (v5 : Int) (v6 : Int) (v7 : Int) (v8 : Int) {b : (List (List Int × Int))} (h : xs07.t33 some xs07.l9 xs07.l3 xs07.l21 xs07.l15 xs07.l33 v0 v1 v2 v3 v4 v5 v6 v7 v8 = some b) : xs07.l33 v0 v1 v2 v3 v4 v5 v6 v7 v8 = some b := tOf_intro xs07.un (fun _ => by kernel_rfl) (loopAtL_step ((xs07.k33 v0 v1 v2 v3 v4 v5 v6 v7 v8).trans ((by unfold xs07.t33; repeat' first | exact Sub.ret | exact Sub.none | exact Sub.loop | apply Sub.cond | (apply Sub.bind; intro _) : Sub xs07.mk _ _) b h)))
noncomputable def xs08.q2 (v0 : List (List Int × Int)) (v1 : Int) (v2 : Int) (v3 : Int) : Option R := loopAtL E (callT E tab) 237 Try.f237 5 [.r, .r, .l, .b] (⟨(.val .one), [.d .sha (.sl (.pair (.sl (.int .i64)) (.int .i64))) v0], true, false, false, 0, 0⟩ :: nn 1 (vc (iL v1) :: nn 1 (vc (.fn 171 []) :: nn 5 (vc (iL v2) :: vc (iL v3) :: nn 46 ([])))))
noncomputable def xs08.l2 (v0 : List (List Int × Int)) (v1 : Int) (v2 : Int) (v3 : Int) : Option ((List (List Int × Int))) := tOf xs08.mk (xs08.q2 v0 v1 v2 v3)
noncomputable def xs08.t {γ : Type} (ret : ((List (List Int × Int))) → Option γ) (lp2 : (List (List Int × Int)) → Int → Int → Int → Option γ) (v0 : List (List Int × Int)) (v1 : Int) (v2 : Int) (v3 : Int) : Option γ :=
 lp2 (v0) (v2) (IntKind.i64.wrap (v2 - v1)) (IntKind.i64.wrap (v3 - v2))
noncomputable def xs08.t2 {γ : Type} (ret : ((List (List Int × Int))) → Option γ) (lp2 : (List (List Int × Int)) → Int → Int → Int → Option γ) (v0 : List (List Int × Int)) (v1 : Int) (v2 : Int) (v3 : Int) : Option γ :=
 bif v2 != v3 then
  bif decide (v2 > v3) then
   (xs05 (v0) (IntKind.i64.wrap (v1 - v2)) (v1) (v3)).bind fun (r0 : (List (List Int × Int))) =>
   lp2 (r0) (v1) (IntKind.i64.wrap (v2 - v3)) (v3)
  else
   (xs05 (v0) (IntKind.i64.wrap (v1 - v2)) (IntKind.i64.wrap (IntKind.i64.wrap (v1 + v3) - v2)) (v2)).bind fun (r1 : (List (List Int × Int))) =>
   lp2 (r1) (v1) (v2) (IntKind.i64.wrap (v3 - v2))
 else
  (xs05 (v0) (IntKind.i64.wrap (v1 - v2)) (v1) (v2)).bind fun (r2 : (List (List Int × Int))) =>
  ret (r2)
theorem xs08.k (v0 : List (List Int × Int)) (v1 : Int) (v2 : Int) (v3 : Int) : topL E (callT E tab) 237 Try.f237 (xs08.c v0 v1 v2 v3) = xs08.t (fun b => some (xs08.mk b)) xs08.q2 v0 v1 v2 v3 := by kernel_rfl
theorem xs08.k2 (v0 : List (List Int × Int)) (v1 : Int) (v2 : Int) (v3 : Int) : roundL E (callT E tab) 237 Try.f237 5 [.r, .r, .l, .b] (⟨(.val .one), [.d .sha (.sl (.pair (.sl (.int .i64)) (.int .i64))) v0], true, false, false, 0, 0⟩ :: nn 1 (vc (iL v1) :: nn 1 (vc (.fn 171 []) :: nn 5 (vc (iL v2) :: vc (iL v3) :: nn 46 ([]))))) = xs08.t2 (fun b => some (xs08.mk b)) xs08.q2 v0 v1 v2 v3 := by kernel_rfl
theorem xs08.eq (v0 : List (List Int × Int)) (v1 : Int) (v2 : Int) (v3 : Int) {b : (List (List Int × Int))} (h : xs08.t some xs08.l2 v0 v1 v2 v3 = some b) : xs08 v0 v1 v2 v3 = some b := tOf_intro xs08.un (fun _ => by kernel_rfl) (vlim_fn (callT_le E tab) rfl rfl rfl ((xs08.k v0 v1 v2 v3).trans ((by unfold xs08.t; repeat' first | exact Sub.ret | exact Sub.none | exact Sub.loop | apply Sub.cond | (apply Sub.bind; intro _) : Sub xs08.mk _ _) b h)))
theorem xs08.eq2 (v0 : List (List Int × Int)) (v1 : Int) (v2 : Int) (v3 : Int) {b : (List (List Int × Int))} (h : xs08.t2 some xs08.l2 v0 v1 v2 v3 = some b) : xs08.l2 v0 v1 v2 v3 = some b := tOf_intro xs08.un (fun _ => by kernel_rfl) (loopAtL_step ((xs08.k2 v0 v1 v2 v3).trans ((by unfold xs08.t2; repeat' first | exact Sub.ret | exact Sub.none | exact Sub.loop | apply Sub.cond | (apply Sub.bind; intro _) : Sub xs08.mk _ _) b h)))
noncomputable def xs05.q1 (v0 : List (List Int × Int)) (v1 : Int) (v2 : Int) (v3 : Int) (v4 : Int) : Option R := loopAtL E (callT E tab) 241 Try.f241 5 [.r, .b] (⟨(.val .one), [.d .sha (.sl (.pair (.sl (.int .i64)) (.int .i64))) v0], true, false, false, 0, 0⟩ :: vc (iL v1) :: vc (iL v2) :: vc (iL v3) :: nn 6 (vc (iL v4) :: nn 27 ([])))
noncomputable def xs05.l1 (v0 : List (List Int × Int)) (v1 : Int) (v2 : Int) (v3 : Int) (v4 : Int) : Option ((List (List Int × Int))) := tOf xs05.mk (xs05.q1 v0 v1 v2 v3 v4)
noncomputable def xs05.t {γ : Type} (ret : ((List (List Int × Int))) → Option γ) (lp1 : (List (List Int × Int)) → Int → Int → Int → Int → Option γ) (v0 : List (List Int × Int)) (v1 : Int) (v2 : Int) (v3 : Int) : Option γ :=
 lp1 (v0) (v1) (v2) (v3) ((0 : Int))
noncomputable def xs05.t1 {γ : Type} (ret : ((List (List Int × Int))) → Option γ) (lp1 : (List (List Int × Int)) → Int → Int → Int → Int → Option γ) (v0 : List (List Int × Int)) (v1 : Int) (v2 : Int) (v3 : Int) (v4 : Int) : Option γ :=
 bif decide (v4 < v3) then
  bif decide ((0 : Int) ≤ IntKind.i64.wrap (v2 + v4)) then
   bif decide ((IntKind.i64.wrap (v2 + v4)).toNat < v0.length) then
    bif decide ((IntKind.i64.wrap (v2 + v4)).toNat < v0.length) then
     bif decide ((0 : Int) ≤ IntKind.i64.wrap (v1 + v4)) then
      bif decide ((IntKind.i64.wrap (v1 + v4)).toNat < v0.length) then
       bif decide ((IntKind.i64.wrap (v1 + v4)).toNat < v0.length) then
        bif decide ((0 : Int) ≤ IntKind.i64.wrap (v1 + v4)) then
         bif decide ((IntKind.i64.wrap (v1 + v4)).toNat < v0.length) then
          bif decide ((IntKind.i64.wrap (v1 + v4)).toNat < v0.length) then
           bif decide ((0 : Int) ≤ IntKind.i64.wrap (v2 + v4)) then
            bif decide   ((IntKind.i64.wrap (v2 + v4)).toNat <     (v0.set (IntKind.i64.wrap (v1 + v4)).toNat         ((v0.getD (IntKind.i64.wrap (v2 + v4)).toNat ([], (0 : Int))).fst,           (v0.getD (IntKind.i64.wrap (v2 + v4)).toNat ([], (0 : Int))).snd)).length) then
             bif decide   ((IntKind.i64.wrap (v2 + v4)).toNat <     (v0.set (IntKind.i64.wrap (v1 + v4)).toNat         ((v0.getD (IntKind.i64.wrap (v2 + v4)).toNat ([], (0 : Int))).fst,           (v0.getD (IntKind.i64.wrap (v2 + v4)).toNat ([], (0 : Int))).snd)).length) then
              lp1 ((v0.set (IntKind.i64.wrap (v1 + v4)).toNat       ((v0.getD (IntKind.i64.wrap (v2 + v4)).toNat ([], (0 : Int))).fst,         (v0.getD (IntKind.i64.wrap (v2 + v4)).toNat ([], (0 : Int))).snd)).set   (IntKind.i64.wrap (v2 + v4)).toNat   ((v0.getD (IntKind.i64.wrap (v1 + v4)).toNat ([], (0 : Int))).fst,     (v0.getD (IntKind.i64.wrap (v1 + v4)).toNat ([], (0 : Int))).snd)) (v1) (v2) (v3) (IntKind.i64.wrap (v4 + (1 : Int)))
             else
              none
            else
             none
           else
            none
          else
           none
         else
          none
        else
         none
       else
        none
      else
       none
     else
      none
    else
     none
   else
    none
  else
   none
 else
  ret (v0)
theorem xs05.k (v0 : List (List Int × Int)) (v1 : Int) (v2 : Int) (v3 : Int) : topL E (callT E tab) 241 Try.f241 (xs05.c v0 v1 v2 v3) = xs05.t (fun b => some (xs05.mk b)) xs05.q1 v0 v1 v2 v3 := by kernel_rfl
theorem xs05.k1 (v0 : List (List Int × Int)) (v1 : Int) (v2 : Int) (v3 : Int) (v4 : Int) : roundL E (callT E tab) 241 Try.f241 5 [.r, .b] (⟨(.val .one), [.d .sha (.sl (.pair (.sl (.int .i64)) (.int .i64))) v0], true, false, false, 0, 0⟩ :: vc (iL v1) :: vc (iL v2) :: vc (iL v3) :: nn 6 (vc (iL v4) :: nn 27 ([]))) = xs05.t1 (fun b => some (xs05.mk b)) xs05.q1 v0 v1 v2 v3 v4 := by kernel_rfl
theorem xs05.eq (v0 : List (List Int × Int)) (v1 : Int) (v2 : Int) (v3 : Int) {b : (List (List Int × Int))} (h : xs05.t some xs05.l1 v0 v1 v2 v3 = some b) : xs05 v0 v1 v2 v3 = some b := tOf_intro xs05.un (fun _ => by kernel_rfl) (vlim_fn (callT_le E tab) rfl rfl rfl ((xs05.k v0 v1 v2 v3).trans ((by unfold xs05.t; repeat' first | exact Sub.ret | exact Sub.none | exact Sub.loop | apply Sub.cond | (apply Sub.bind; intro _) : Sub xs05.mk _ _) b h)))
theorem xs05.eq1 (v0 : List (List Int × Int)) (v1 : Int) (v2 : Int) (v3 : Int) (v4 : Int) {b : (List (List Int × Int))} (h : xs05.t1 some xs05.l1 v0 v1 v2 v3 v4 = some b) : xs05.l1 v0 v1 v2 v3 v4 = some b := tOf_intro xs05.un (fun _ => by kernel_rfl) (loopAtL_step ((xs05.k1 v0 v1 v2 v3 v4).trans ((by unfold xs05.t1; repeat' first | exact Sub.ret | exact Sub.none | exact Sub.loop | apply Sub.cond | (apply Sub.bind; intro _) : Sub xs05.mk _ _) b h)))
noncomputable def spec_l2Add.q3 (v0 : List (List Int × Int)) (v1 : List (List Int × Int)) (v2 : Int) (v3 : Int) : Option R := loopAtL E (callT E tab) 119 Try.f119 2 [.r, .r, .l, .r, .b] (nn 5 (vc (.d .fro (.sl (.pair (.sl (.int .i64)) (.int .i64))) v0) :: nn 3 (vc (.d .fro (.sl (.pair (.sl (.int .i64)) (.int .i64))) v1) :: vc (iL v2) :: vc (iL v3) :: nn 11 ([]))))
noncomputable def spec_l2Add.l3 (v0 : List (List Int × Int)) (v1 : List (List Int × Int)) (v2 : Int) (v3 : Int) : Option ((List (List Int × Int))) := tOf spec_l2Add.mk (spec_l2Add.q3 v0 v1 v2 v3)
noncomputable def spec_l2Add.t {γ : Type} (ret : ((List (List Int × Int))) → Option γ) (lp3 : (List (List Int × Int)) → (List (List Int × Int)) → Int → Int → Option γ) (v0 : List (List Int × Int)) (v1 : List (List Int × Int)) : Option γ :=
 lp3 (v0) (v1) ((↑v1.length : Int)) ((0 : Int))
noncomputable def spec_l2Add.t3 {γ : Type} (ret : ((List (List Int × Int))) → Option γ) (lp3 : (List (List Int × Int)) → (List (List Int × Int)) → Int → Int → Option γ) (v0 : List (List Int × Int)) (v1 : List (List Int × Int)) (v2 : Int) (v3 : Int) : Option γ :=
 bif decide (v3 < v2) then
  bif decide ((0 : Int) ≤ v3) then
   bif decide (v3.toNat < v1.length) then
    (spec_l2Put (v0) ((v1.getD v3.toNat ([], (0 : Int))).fst) ((v1.getD v3.toNat ([], (0 : Int))).snd)).bind fun (r0 : (List (List Int × Int))) =>
    lp3 (r0) (v1) (v2) (IntKind.i64.wrap (v3 + (1 : Int)))
   else
    none
  else
   none
 else
  ret (v0)
theorem spec_l2Add.k (v0 : List (List Int × Int)) (v1 : List (List Int × Int)) : topL E (callT E tab) 119 Try.f119 (spec_l2Add.c v0 v1) = spec_l2Add.t (fun b => some (spec_l2Add.mk b)) spec_l2Add.q3 v0 v1 := by kernel_rfl
theorem spec_l2Add.k3 (v0 : List (List Int × Int)) (v1 : List (List Int × Int)) (v2 : Int) (v3 : Int) : roundL E (callT E tab) 119 Try.f119 2 [.r, .r, .l, .r, .b] (nn 5 (vc (.d .fro (.sl (.pair (.sl (.int .i64)) (.int .i64))) v0) :: nn 3 (vc (.d .fro (.sl (.pair (.sl (.int .i64)) (.int .i64))) v1) :: vc (iL v2) :: vc (iL v3) :: nn 11 ([])))) = spec_l2Add.t3 (fun b => some (spec_l2Add.mk b)) spec_l2Add.q3 v0 v1 v2 v3 := by kernel_rfl
theorem spec_l2Add.eq (v0 : List (List Int × Int)) (v1 : List (List Int × Int)) {b : (List (List Int × Int))} (h : spec_l2Add.t some spec_l2Add.l3 v0 v1 = some b) : spec_l2Add v0 v1 = some b := tOf_intro spec_l2Add.un (fun _ => by kernel_rfl) (vlim_fn (callT_le E tab) rfl rfl rfl ((spec_l2Add.k v0 v1).trans ((by unfold spec_l2Add.t; repeat' first | exact Sub.ret | exact Sub.none | exact Sub.loop | apply Sub.cond | (apply Sub.bind; intro _) : Sub spec_l2Add.mk _ _) b h)))
theorem spec_l2Add.eq3 (v0 : List (List Int × Int)) (v1 : List (List Int × Int)) (v2 : Int) (v3 : Int) {b : (List (List Int × Int))} (h : spec_l2Add.t3 some spec_l2Add.l3 v0 v1 v2 v3 = some b) : spec_l2Add.l3 v0 v1 v2 v3 = some b := tOf_intro spec_l2Add.un (fun _ => by kernel_rfl) (loopAtL_step ((spec_l2Add.k3 v0 v1 v2 v3).trans ((by unfold spec_l2Add.t3; repeat' first | exact Sub.ret | exact Sub.none | exact Sub.loop | apply Sub.cond | (apply Sub.bind; intro _) : Sub spec_l2Add.mk _ _) b h)))
noncomputable def xi0g.t {γ : Type} (ret : (Int × (List (Int × List (List Int × Int))) × Bool) → Option γ) (v0 : Int) (v1 : List (Int × List (List Int × Int))) : Option γ :=
 (impl_GoodStream (v0) (v1)).bind fun (r0 : Bool) =>
 bif !r0 then
  ret ((0 : Int), [], Bool.false)
 else
  ret (v0, v1, Bool.true)
theorem xi0g.k (v0 : Int) (v1 : List (Int × List (List Int × Int))) : topL E (callT E tab) 126 Try.f126 (xi0g.c v0 v1) = xi0g.t (fun b => some (xi0g.mk b)) v0 v1 := by kernel_rfl
theorem xi0g.eq (v0 : Int) (v1 : List (Int × List (List Int × Int))) {b : Int × (List (Int × List (List Int × Int))) × Bool} (h : xi0g.t some v0 v1 = some b) : xi0g v0 v1 = some b := tOf_intro xi0g.un (fun _ => by kernel_rfl) (vlim_fn (callT_le E tab) rfl rfl rfl ((xi0g.k v0 v1).trans ((by unfold xi0g.t; repeat' first | exact Sub.ret | exact Sub.none | exact Sub.loop | apply Sub.cond | (apply Sub.bind; intro _) : Sub xi0g.mk _ _) b h)))
noncomputable def xl0h.t {γ : Type} (ret : (Bool) → Option γ) (v0 : Int) (v1 : List (Int × List (List Int × Int))) : Option γ :=
 (laws_szStream (v0) (v1) ((1048576 : Int))).bind fun (r0 : Int) =>
 bif decide (r0 < (0 : Int)) then
  ret (Bool.true)
 else
  (laws_toStream (v0) (v1)).bind fun (r1 : Int × (List (Int × List (List Int × Int)))) =>
  (spec_Differentiate (r1.fst) (r1.snd)).bind fun (r2 : Int × (List (Int × List (List Int × Int))) × Bool) =>
  (laws_toStream (v0) (v1)).bind fun (r3 : Int × (List (Int × List (List Int × Int)))) =>
  (impl_Differentiate (r3.fst) (r3.snd)).bind fun (r4 : Int × (List (Int × List (List Int × Int))) × Bool) =>
  (laws_eqStream (r4.fst) (r4.snd.fst) (r2.fst) (r2.snd.fst)).bind fun (r5 : Bool) =>
  bif !r5 then
   ret (Bool.false)
  else
   bif !r4.snd.snd == r2.snd.snd then
    ret (Bool.false)
   else
    (laws_toStream (v0) (v1)).bind fun (r6 : Int × (List (Int × List (List Int × Int)))) =>
    (laws_eqStream (r3.fst) (r3.snd) (r6.fst) (r6.snd)).bind fun (r7 : Bool) =>
    bif !r7 then
     ret (Bool.false)
    else
     (xl0l (r3.fst) (r3.snd) ((1 : Int))).bind fun (r8 : Int × Int × (List (Int × List (List Int × Int)))) =>
     bif decide (r8.fst < (0 : Int)) then
      ret (Bool.false)
     else
      (laws_eqStream (r4.fst) (r4.snd.fst) (r2.fst) (r2.snd.fst)).bind fun (r9 : Bool) =>
      bif !r9 then
       ret (Bool.false)
      else
       bif !r4.snd.snd == r2.snd.snd then
        ret (Bool.false)
       else
        (xl0l (r4.fst) (r4.snd.fst) ((1 : Int))).bind fun (r10 : Int × Int × (List (Int × List (List Int × Int)))) =>
        (laws_heldStream (r4.fst) (r10.snd.snd) ((1 : Int))).bind fun (r11 : Int) =>
        bif decide (r11 < (0 : Int)) then
         ret (Bool.false)
        else
         bif r11 != r10.fst then
          ret (Bool.false)
         else
          (laws_toStream (v0) (v1)).bind fun (r12 : Int × (List (Int × List (List Int × Int)))) =>
          (impl_Differentiate (r12.fst) (r12.snd)).bind fun (r13 : Int × (List (Int × List (List Int × Int))) × Bool) =>
          (laws_eqStream (r13.fst) (r13.snd.fst) (r2.fst) (r2.snd.fst)).bind fun (r14 : Bool) =>
          bif !r14 then
           ret (Bool.false)
          else
           bif !r13.snd.snd == r2.snd.snd then
            ret (Bool.false)
           else
            (laws_heldStream (r4.fst) (r10.snd.snd) ((1 : Int))).bind fun (r15 : Int) =>
            bif decide (r15 < (0 : Int)) then
             ret (Bool.false)
            else
             bif r15 != r10.fst then
              ret (Bool.false)
             else
              ret (Bool.true)
theorem xl0h.k (v0 : Int) (v1 : List (Int × List (List Int × Int))) : topL E (callT E tab) 11 Try.f11 (xl0h.c v0 v1) = xl0h.t (fun b => some (xl0h.mk b)) v0 v1 := by kernel_rfl
theorem xl0h.eq (v0 : Int) (v1 : List (Int × List (List Int × Int))) {b : Bool} (h : xl0h.t some v0 v1 = some b) : xl0h v0 v1 = some b := tOf_intro xl0h.un (fun _ => by kernel_rfl) (vlim_fn (callT_le E tab) rfl rfl rfl ((xl0h.k v0 v1).trans ((by unfold xl0h.t; repeat' first | exact Sub.ret | exact Sub.none | exact Sub.loop | apply Sub.cond | (apply Sub.bind; intro _) : Sub xl0h.mk _ _) b h)))
noncomputable def spec_Differentiate.q6 (v0 : Int) (v1 : List (Int × List (List Int × Int))) (v2 : Int) (v3 : List (Int × List (List Int × Int))) (v4 : List (List (List Int × Int))) (v5 : List (List Int × Int)) (v6 : List (Int × List (List Int × Int))) (v7 : Int) (v8 : Int) : Option R := loopAtL E (callT E tab) 57 Try.f57 1 [.r, .r, .r, .r, .l, .r, .b] (nn 1 (⟨(.box false), [iL v0, .d .fro (.sl (.pair (.int .i64) (.sl (.pair (.sl (.int .i64)) (.int .i64))))) v1], false, false, false, 0, 0⟩ :: ⟨(.box false), [iL v2, .d .deep (.sl (.pair (.int .i64) (.sl (.pair (.sl (.int .i64)) (.int .i64))))) v3], false, false, false, 0, 0⟩ :: nn 1 (vc (.d .sha (.sl (.sl (.pair (.sl (.int .i64)) (.int .i64)))) v4) :: vc (.d .fro (.sl (.pair (.sl (.int .i64)) (.int .i64))) v5) :: nn 7 (vc (.d .fro (.sl (.pair (.int .i64) (.sl (.pair (.sl (.int .i64)) (.int .i64))))) v6) :: vc (iL v7) :: vc (iL v8) :: nn 20 ([])))))
noncomputable def spec_Differentiate.l6 (v0 : Int) (v1 : List (Int × List (List Int × Int))) (v2 : Int) (v3 : List (Int × List (List Int × Int))) (v4 : List (List (List Int × Int))) (v5 : List (List Int × Int)) (v6 : List (Int × List (List Int × Int))) (v7 : Int) (v8 : Int) : Option (Int × (List (Int × List (List Int × Int))) × Bool) := tOf spec_Differentiate.mk (spec_Differentiate.q6 v0 v1 v2 v3 v4 v5 v6 v7 v8)
noncomputable def spec_Differentiate.t {γ : Type} (ret : (Int × (List (Int × List (List Int × Int))) × Bool) → Option γ) (lp6 : Int → (List (Int × List (List Int × Int))) → Int → (List (Int × List (List Int × Int))) → (List (List (List Int × Int))) → (List (List Int × Int)) → (List (Int × List (List Int × Int))) → Int → Int → Option γ) (v0 : Int) (v1 : List (Int × List (List Int × Int))) : Option γ :=
 (spec_GoodStream (v0) (v1)).bind fun (r0 : Bool) =>
 bif !r0 then
  ret ((0 : Int), [], Bool.false)
 else
  lp6 (v0) (v1) ((0 : Int)) ([]) ([]) ([]) (v1) ((↑v1.length : Int)) ((0 : Int))
noncomputable def spec_Differentiate.t6 {γ : Type} (ret : (Int × (List (Int × List (List Int × Int))) × Bool) → Option γ) (lp6 : Int → (List (Int × List (List Int × Int))) → Int → (List (Int × List (List Int × Int))) → (List (List (List Int × Int))) → (List (List Int × Int)) → (List (Int × List (List Int × Int))) → Int → Int → Option γ) (v0 : Int) (v1 : List (Int × List (List Int × Int))) (v2 : Int) (v3 : List (Int × List (List Int × Int))) (v4 : List (List (List Int × Int))) (v5 : List (List Int × Int)) (v6 : List (Int × List (List Int × Int))) (v7 : Int) (v8 : Int) : Option γ :=
 bif decide (v8 < v7) then
  bif decide ((0 : Int) ≤ v8) then
   bif decide (v8.toNat < v6.length) then
    (spec_l2Scale (v5) ((-1 : Int))).bind fun (r1 : (List (List Int × Int))) =>
    (spec_l2Add ((v6.getD v8.toNat ((0 : Int), [])).snd) (r1)).bind fun (r2 : (List (List Int × Int))) =>
    bif decide (v4.length + [r2].length ≤ (4294967296 : Nat)) then
     lp6 (v0) (v1) (v2) (v3) (v4 ++ [r2]) ((v6.getD v8.toNat ((0 : Int), [])).snd) (v6) (v7) (IntKind.i64.wrap (v8 + (1 : Int)))
    else
     none
   else
    none
  else
   none
 else
  (spec_l4Stream (v0) (v4)).bind fun (r3 : Int × (List (Int × List (List Int × Int))) × Bool) =>
  ret (r3.fst, r3.snd.fst, r3.snd.snd)
theorem spec_Differentiate.k (v0 : Int) (v1 : List (Int × List (List Int × Int))) : topL E (callT E tab) 57 Try.f57 (spec_Differentiate.c v0 v1) = spec_Differentiate.t (fun b => some (spec_Differentiate.mk b)) spec_Differentiate.q6 v0 v1 := by kernel_rfl
theorem spec_Differentiate.k6 (v0 : Int) (v1 : List (Int × List (List Int × Int))) (v2 : Int) (v3 : List (Int × List (List Int × Int))) (v4 : List (List (List Int × Int))) (v5 : List (List Int × Int)) (v6 : List (Int × List (List Int × Int))) (v7 : Int) (v8 : Int) : roundL E (callT E tab) 57 Try.f57 1 [.r, .r, .r, .r, .l, .r, .b] (nn 1 (⟨(.box false), [iL v0, .d .fro (.sl (.pair (.int .i64) (.sl (.pair (.sl (.int .i64)) (.int .i64))))) v1], false, false, false, 0, 0⟩ :: ⟨(.box false), [iL v2, .d .deep (.sl (.pair (.int .i64) (.sl (.pair (.sl (.int .i64)) (.int .i64))))) v3], false, false, false, 0, 0⟩ :: nn 1 (vc (.d .sha (.sl (.sl (.pair (.sl (.int .i64)) (.int .i64)))) v4) :: vc (.d .fro (.sl (.pair (.sl (.int .i64)) (.int .i64))) v5) :: nn 7 (vc (.d .fro (.sl (.pair (.int .i64) (.sl (.pair (.sl (.int .i64)) (.int .i64))))) v6) :: vc (iL v7) :: vc (iL v8) :: nn 20 ([]))))) = spec_Differentiate.t6 (fun b => some (spec_Differentiate.mk b)) spec_Differentiate.q6 v0 v1 v2 v3 v4 v5 v6 v7 v8 := by kernel_rfl
theorem spec_Differentiate.eq (v0 : Int) (v1 : List (Int × List (List Int × Int))) {b : Int × (List (Int × List (List Int × Int))) × Bool} (h : spec_Differentiate.t some spec_Differentiate.l6 v0 v1 = some b) : spec_Differentiate v0 v1 = some b := tOf_intro spec_Differentiate.un (fun _ => by kernel_rfl) (vlim_fn (callT_le E tab) rfl rfl rfl ((spec_Differentiate.k v0 v1).trans ((by unfold spec_Differentiate.t; repeat' first | exact Sub.ret | exact Sub.none | exact Sub.loop | apply Sub.cond | (apply Sub.bind; intro _) : Sub spec_Differentiate.mk _ _) b h)))
theorem spec_Differentiate.eq6 (v0 : Int) (v1 : List (Int × List (List Int × Int))) (v2 : Int) (v3 : List (Int × List (List Int × Int))) (v4 : List (List (List Int × Int))) (v5 : List (List Int × Int)) (v6 : List (Int × List (List Int × Int))) (v7 : Int) (v8 : Int) {b : Int × (List (Int × List (List Int × Int))) × Bool} (h : spec_Differentiate.t6 some spec_Differentiate.l6 v0 v1 v2 v3 v4 v5 v6 v7 v8 = some b) : spec_Differentiate.l6 v0 v1 v2 v3 v4 v5 v6 v7 v8 = some b := tOf_intro spec_Differentiate.un (fun _ => by kernel_rfl) (loopAtL_step ((spec_Differentiate.k6 v0 v1 v2 v3 v4 v5 v6 v7 v8).trans ((by unfold spec_Differentiate.t6; repeat' first | exact Sub.ret | exact Sub.none | exact Sub.loop | apply Sub.cond | (apply Sub.bind; intro _) : Sub spec_Differentiate.mk _ _) b h)))
noncomputable def spec_l2Scale.q3 (v0 : Int) (v1 : List (List Int × Int)) (v2 : List (List Int × Int)) (v3 : Int) (v4 : Int) : Option R := loopAtL E (callT E tab) 127 Try.f127 2 [.r, .r, .l, .r, .b] (nn 1 (vc (iL v0) :: nn 3 (vc (.d .sha (.sl (.pair (.sl (.int .i64)) (.int .i64))) v1) :: nn 2 (vc (.d .fro (.sl (.pair (.sl (.int .i64)) (.int .i64))) v2) :: vc (iL v3) :: vc (iL v4) :: nn 17 ([])))))
noncomputable def spec_l2Scale.l3 (v0 : Int) (v1 : List (List Int × Int)) (v2 : List (List Int × Int)) (v3 : Int) (v4 : Int) : Option ((List (List Int × Int))) := tOf spec_l2Scale.mk (spec_l2Scale.q3 v0 v1 v2 v3 v4)
noncomputable def spec_l2Scale.t {γ : Type} (ret : ((List (List Int × Int))) → Option γ) (lp3 : Int → (List (List Int × Int)) → (List (List Int × Int)) → Int → Int → Option γ) (v0 : List (List Int × Int)) (v1 : Int) : Option γ :=
 lp3 (v1) ([]) (v0) ((↑v0.length : Int)) ((0 : Int))
noncomputable def spec_l2Scale.t3 {γ : Type} (ret : ((List (List Int × Int))) → Option γ) (lp3 : Int → (List (List Int × Int)) → (List (List Int × Int)) → Int → Int → Option γ) (v0 : Int) (v1 : List (List Int × Int)) (v2 : List (List Int × Int)) (v3 : Int) (v4 : Int) : Option γ :=
 bif decide (v4 < v3) then
  bif decide ((0 : Int) ≤ v4) then
   bif decide (v4.toNat < v2.length) then
    bif v0 != (0 : Int) then
     bif decide   (v1.length +       [((v2.getD v4.toNat ([], (0 : Int))).fst,             IntKind.i64.wrap (v0 * (v2.getD v4.toNat ([], (0 : Int))).snd))].length ≤     (4294967296 : Nat)) then
      lp3 (v0) (v1 ++ [((v2.getD v4.toNat ([], (0 : Int))).fst, IntKind.i64.wrap (v0 * (v2.getD v4.toNat ([], (0 : Int))).snd))]) (v2) (v3) (IntKind.i64.wrap (v4 + (1 : Int)))
     else
      none
    else
     lp3 (v0) (v1) (v2) (v3) (IntKind.i64.wrap (v4 + (1 : Int)))
   else
    none
  else
   none
 else
  ret (v1)
theorem spec_l2Scale.k (v0 : List (List Int × Int)) (v1 : Int) : topL E (callT E tab) 127 Try.f127 (spec_l2Scale.c v0 v1) = spec_l2Scale.t (fun b => some (spec_l2Scale.mk b)) spec_l2Scale.q3 v0 v1 := by kernel_rfl
theorem spec_l2Scale.k3 (v0 : Int) (v1 : List (List Int × Int)) (v2 : List (List Int × Int)) (v3 : Int) (v4 : Int) : roundL E (callT E tab) 127 Try.f127 2 [.r, .r, .l, .r, .b] (nn 1 (vc (iL v0) :: nn 3 (vc (.d .sha (.sl (.pair (.sl (.int .i64)) (.int .i64))) v1) :: nn 2 (vc (.d .fro (.sl (.pair (.sl (.int .i64)) (.int .i64))) v2) :: vc (iL v3) :: vc (iL v4) :: nn 17 ([]))))) = spec_l2Scale.t3 (fun b => some (spec_l2Scale.mk b)) spec_l2Scale.q3 v0 v1 v2 v3 v4 := by kernel_rfl
theorem spec_l2Scale.eq (v0 : List (List Int × Int)) (v1 : Int) {b : (List (List Int × Int))} (h : spec_l2Scale.t some spec_l2Scale.l3 v0 v1 = some b) : spec_l2Scale v0 v1 = some b := tOf_intro spec_l2Scale.un (fun _ => by kernel_rfl) (vlim_fn (callT_le E tab) rfl rfl rfl ((spec_l2Scale.k v0 v1).trans ((by unfold spec_l2Scale.t; repeat' first | exact Sub.ret | exact Sub.none | exact Sub.loop | apply Sub.cond | (apply Sub.bind; intro _) : Sub spec_l2Scale.mk _ _) b h)))
theorem spec_l2Scale.eq3 (v0 : Int) (v1 : List (List Int × Int)) (v2 : List (List Int × Int)) (v3 : Int) (v4 : Int) {b : (List (List Int × Int))} (h : spec_l2Scale.t3 some spec_l2Scale.l3 v0 v1 v2 v3 v4 = some b) : spec_l2Scale.l3 v0 v1 v2 v3 v4 = some b := tOf_intro spec_l2Scale.un (fun _ => by kernel_rfl) (loopAtL_step ((spec_l2Scale.k3 v0 v1 v2 v3 v4).trans ((by unfold spec_l2Scale.t3; repeat' first | exact Sub.ret | exact Sub.none | exact Sub.loop | apply Sub.cond | (apply Sub.bind; intro _) : Sub spec_l2Scale.mk _ _) b h)))
noncomputable def impl_Differentiate.q5 (v0 : Int) (v1 : List (Int × List (List Int × Int))) (v2 : Int) (v3 : List (Int × List (List Int × Int))) (v4 : Int) (v5 : List (Int × List (List Int × Int))) (v6 : Int) (v7 : List (List Int × Int)) (v8 : List (Int × List (List Int × Int))) (v9 : Int) (v10 : Int) : Option R := loopAtL E (callT E tab) 58 Try.f58 1 [.r, .r, .r, .l, .r, .b] (nn 1 (⟨(.box false), [iL v0, .d .fro (.sl (.pair (.int .i64) (.sl (.pair (.sl (.int .i64)) (.int .i64))))) v1], false, false, false, 0, 0⟩ :: ⟨(.box false), [iL v2, .d .deep (.sl (.pair (.int .i64) (.sl (.pair (.sl (.int .i64)) (.int .i64))))) v3], false, false, false, 0, 0⟩ :: nn 1 (⟨(.box false), [iL v4, .d .deep (.sl (.pair (.int .i64) (.sl (.pair (.sl (.int .i64)) (.int .i64))))) v5], false, false, false, 0, 0⟩ :: ⟨(.box false), [iL v6, .d .fro (.sl (.pair (.sl (.int .i64)) (.int .i64))) v7], false, false, false, 0, 0⟩ :: nn 13 (vc (.d .fro (.sl (.pair (.int .i64) (.sl (.pair (.sl (.int .i64)) (.int .i64))))) v8) :: vc (iL v9) :: vc (iL v10) :: nn 23 ([])))))
noncomputable def impl_Differentiate.l5 (v0 : Int) (v1 : List (Int × List (List Int × Int))) (v2 : Int) (v3 : List (Int × List (List Int × Int))) (v4 : Int) (v5 : List (Int × List (List Int × Int))) (v6 : Int) (v7 : List (List Int × Int)) (v8 : List (Int × List (List Int × Int))) (v9 : Int) (v10 : Int) : Option (Int × (List (Int × List (List Int × Int))) × Bool) := tOf impl_Differentiate.mk (impl_Differentiate.q5 v0 v1 v2 v3 v4 v5 v6 v7 v8 v9 v10)
noncomputable def impl_Differentiate.t {γ : Type} (ret : (Int × (List (Int × List (List Int × Int))) × Bool) → Option γ) (lp5 : Int → (List (Int × List (List Int × Int))) → Int → (List (Int × List (List Int × Int))) → Int → (List (Int × List (List Int × Int))) → Int → (List (List Int × Int)) → (List (Int × List (List Int × Int))) → Int → Int → Option γ) (v0 : Int) (v1 : List (Int × List (List Int × Int))) : Option γ :=
 (impl_GoodStream (v0) (v1)).bind fun (r0 : Bool) =>
 bif !r0 then
  ret ((0 : Int), [], Bool.false)
 else
  lp5 (v0) (v1) ((0 : Int)) ([]) (v0) ([]) (v0) ([]) (v1) ((↑v1.length : Int)) ((0 : Int))
noncomputable def impl_Differentiate.t5 {γ : Type} (ret : (Int × (List (Int × List (List Int × Int))) × Bool) → Option γ) (lp5 : Int → (List (Int × List (List Int × Int))) → Int → (List (Int × List (List Int × Int))) → Int → (List (Int × List (List Int × Int))) → Int → (List (List Int × Int)) → (List (Int × List (List Int × Int))) → Int → Int → Option γ) (v0 : Int) (v1 : List (Int × List (List Int × Int))) (v2 : Int) (v3 : List (Int × List (List Int × Int))) (v4 : Int) (v5 : List (Int × List (List Int × Int))) (v6 : Int) (v7 : List (List Int × Int)) (v8 : List (Int × List (List Int × Int))) (v9 : Int) (v10 : Int) : Option γ :=
 bif decide (v10 < v9) then
  bif decide ((0 : Int) ≤ v10) then
   bif decide (v10.toNat < v8.length) then
    (impl_Table_scaled (v6) (v7) ((-1 : Int))).bind fun (r1 : Int × (List (List Int × Int))) =>
    (impl_summed (v0) ([(v8.getD v10.toNat ((0 : Int), [])).snd, r1.snd])).bind fun (r2 : Int × (List (List Int × Int))) =>
    bif decide (v5.length + [(r2.fst, r2.snd)].length ≤ (4294967296 : Nat)) then
     lp5 (v0) (v1) (v2) (v3) (v4) (v5 ++ [(r2.fst, r2.snd)]) ((v8.getD v10.toNat ((0 : Int), [])).fst) ((v8.getD v10.toNat ((0 : Int), [])).snd) (v8) (v9) (IntKind.i64.wrap (v10 + (1 : Int)))
    else
     none
   else
    none
  else
   none
 else
  (xi0g (v4) (v5)).bind fun (r3 : Int × (List (Int × List (List Int × Int))) × Bool) =>
  ret (r3.fst, r3.snd.fst, r3.snd.snd)
theorem impl_Differentiate.k (v0 : Int) (v1 : List (Int × List (List Int × Int))) : topL E (callT E tab) 58 Try.f58 (impl_Differentiate.c v0 v1) = impl_Differentiate.t (fun b => some (impl_Differentiate.mk b)) impl_Differentiate.q5 v0 v1 := by kernel_rfl
theorem impl_Differentiate.k5 (v0 : Int) (v1 : List (Int × List (List Int × Int))) (v2 : Int) (v3 : List (Int × List (List Int × Int))) (v4 : Int) (v5 : List (Int × List (List Int × Int))) (v6 : Int) (v7 : List (List Int × Int)) (v8 : List (Int × List (List Int × Int))) (v9 : Int) (v10 : Int) : roundL E (callT E tab) 58 Try.f58 1 [.r, .r, .r, .l, .r, .b] (nn 1 (⟨(.box false), [iL v0, .d .fro (.sl (.pair (.int .i64) (.sl (.pair (.sl (.int .i64)) (.int .i64))))) v1], false, false, false, 0, 0⟩ :: ⟨(.box false), [iL v2, .d .deep (.sl (.pair (.int .i64) (.sl (.pair (.sl (.int .i64)) (.int .i64))))) v3], false, false, false, 0, 0⟩ :: nn 1 (⟨(.box false), [iL v4, .d .deep (.sl (.pair (.int .i64) (.sl (.pair (.sl (.int .i64)) (.int .i64))))) v5], false, false, false, 0, 0⟩ :: ⟨(.box false), [iL v6, .d .fro (.sl (.pair (.sl (.int .i64)) (.int .i64))) v7], false, false, false, 0, 0⟩ :: nn 13 (vc (.d .fro (.sl (.pair (.int .i64) (.sl (.pair (.sl (.int .i64)) (.int .i64))))) v8) :: vc (iL v9) :: vc (iL v10) :: nn 23 ([]))))) = impl_Differentiate.t5 (fun b => some (impl_Differentiate.mk b)) impl_Differentiate.q5 v0 v1 v2 v3 v4 v5 v6 v7 v8 v9 v10 := by kernel_rfl
theorem impl_Differentiate.eq (v0 : Int) (v1 : List (Int × List (List Int × Int))) {b : Int × (List (Int × List (List Int × Int))) × Bool} (h : impl_Differentiate.t some impl_Differentiate.l5 v0 v1 = some b) : impl_Differentiate v0 v1 = some b := tOf_intro impl_Differentiate.un (fun _ => by kernel_rfl) (vlim_fn (callT_le E tab) rfl rfl rfl ((impl_Differentiate.k v0 v1).trans ((by unfold impl_Differentiate.t; repeat' first | exact Sub.ret | exact Sub.none | exact Sub.loop | apply Sub.cond | (apply Sub.bind; intro _) : Sub impl_Differentiate.mk _ _) b h)))
theorem impl_Differentiate.eq5 (v0 : Int) (v1 : List (Int × List (List Int × Int))) (v2 : Int) (v3 : List (Int × List (List Int × Int))) (v4 : Int) (v5 : List (Int × List (List Int × Int))) (v6 : Int) (v7 : List (List Int × Int)) (v8 : List (Int × List (List Int × Int))) (v9 : Int) (v10 : Int) {b : Int × (List (Int × List (List Int × Int))) × Bool} (h : impl_Differentiate.t5 some impl_Differentiate.l5 v0 v1 v2 v3 v4 v5 v6 v7 v8 v9 v10 = some b) : impl_Differentiate.l5 v0 v1 v2 v3 v4 v5 v6 v7 v8 v9 v10 = some b := tOf_intro impl_Differentiate.un (fun _ => by kernel_rfl) (loopAtL_step ((impl_Differentiate.k5 v0 v1 v2 v3 v4 v5 v6 v7 v8 v9 v10).trans ((by unfold impl_Differentiate.t5; repeat' first | exact Sub.ret | exact Sub.none | exact Sub.loop | apply Sub.cond | (apply Sub.bind; intro _) : Sub impl_Differentiate.mk _ _) b h)))
end GoV
