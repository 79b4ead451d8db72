/- A part of the proof of FnExactPartTables: an interpreter of the model over plain data, its soundness, and what it makes of the functions that the statement reaches. Conditions: none beyond what the given statement itself says. -/
import Derived.Test.YtnobhelpmkmofaaTI
set_option linter.unusedVariables false
set_option linter.unusedSimpArgs false
set_option linter.unnecessarySimpa false
set_option linter.unusedSectionVars false
/- Equations of the program's functions (printed by wip/tools/emit.py). -/
namespace GoV
open Go Go.Proofs
set_option maxRecDepth 100000

noncomputable def impl_summed_1.t {γ : Type} (ret : (Int) → Option γ) (v0 : List Int) (v1 : Int) (v2 : List Int) (v3 : Int) : Option γ :=
 (impl_compareRows (v0) (v2)).bind fun (r0 : Int) =>
 ret (r0)
theorem impl_summed_1.k (v0 : List Int) (v1 : Int) (v2 : List Int) (v3 : Int) : topL E (callT E tab) 171 Try.f171 (impl_summed_1.c v0 v1 v2 v3) = impl_summed_1.t (fun b => some (impl_summed_1.mk b)) v0 v1 v2 v3 := by kernel_rfl
theorem impl_summed_1.eq (v0 : List Int) (v1 : Int) (v2 : List Int) (v3 : Int) {b : Int} (h : impl_summed_1.t some v0 v1 v2 v3 = some b) : impl_summed_1 v0 v1 v2 v3 = some b := tOf_intro impl_summed_1.un (fun _ => by kernel_rfl) (vlim_fn (callT_le E tab) rfl rfl rfl ((impl_summed_1.k v0 v1 v2 v3).trans ((by unfold impl_summed_1.t; repeat' first | exact Sub.ret | exact Sub.none | exact Sub.loop | apply Sub.cond | (apply Sub.bind; intro _) : Sub impl_summed_1.mk _ _) b h)))
noncomputable def xs07.q9 (v0 : List (List Int × Int)) (v1 : Int) (v2 : Int) : Option R := loopAtL E (callT E tab) 230 Try.f230 5 [.l, .r, .l, .r, .r, .r, .l, .r, .b] (⟨(.val .one), [.d .sha (.sl (.pair (.sl (.int .i64)) (.int .i64))) v0], true, false, false, 0, 0⟩ :: nn 9 (vc (iL v1) :: nn 2 (vc (iL v2) :: nn 206 ([]))))
noncomputable def xs07.l9 (v0 : List (List Int × Int)) (v1 : Int) (v2 : Int) : Option ((List (List Int × Int))) := tOf xs07.mk (xs07.q9 v0 v1 v2)
noncomputable def xs07.q3 (v0 : List (List Int × Int)) (v1 : Int) (v2 : Int) (v3 : Int) : Option R := loopAtL E (callT E tab) 230 Try.f230 5 [.l, .r, .l, .r, .r, .l, .b] (⟨(.val .one), [.d .sha (.sl (.pair (.sl (.int .i64)) (.int .i64))) v0], true, false, false, 0, 0⟩ :: vc (iL v1) :: nn 2 (vc (.fn 171 []) :: nn 5 (vc (iL v2) :: vc (iL v3) :: nn 208 ([]))))
noncomputable def xs07.l3 (v0 : List (List Int × Int)) (v1 : Int) (v2 : Int) (v3 : Int) : Option ((List (List Int × Int))) := tOf xs07.mk (xs07.q3 v0 v1 v2 v3)
noncomputable def xs07.q21 (v0 : List (List Int × Int)) (v1 : Int) (v2 : Int) : Option R := loopAtL E (callT E tab) 230 Try.f230 5 [.r, .l, .r, .l, .r, .r, .r, .l, .r, .b] (⟨(.val .one), [.d .sha (.sl (.pair (.sl (.int .i64)) (.int .i64))) v0], true, false, false, 0, 0⟩ :: nn 13 (vc (iL v1) :: nn 2 (vc (iL v2) :: nn 202 ([]))))
noncomputable def xs07.l21 (v0 : List (List Int × Int)) (v1 : Int) (v2 : Int) : Option ((List (List Int × Int))) := tOf xs07.mk (xs07.q21 v0 v1 v2)
noncomputable def xs07.q15 (v0 : List (List Int × Int)) (v1 : Int) (v2 : Int) (v3 : Int) : Option R := loopAtL E (callT E tab) 230 Try.f230 5 [.r, .l, .r, .l, .r, .r, .l, .b] (⟨(.val .one), [.d .sha (.sl (.pair (.sl (.int .i64)) (.int .i64))) v0], true, false, false, 0, 0⟩ :: nn 1 (vc (iL v1) :: nn 1 (vc (.fn 171 []) :: nn 9 (vc (iL v2) :: vc (iL v3) :: nn 204 ([])))))
noncomputable def xs07.l15 (v0 : List (List Int × Int)) (v1 : Int) (v2 : Int) (v3 : Int) : Option ((List (List Int × Int))) := tOf xs07.mk (xs07.q15 v0 v1 v2 v3)
noncomputable def xs07.q33 (v0 : List (List Int × Int)) (v1 : Int) (v2 : Int) (v3 : Int) (v4 : Int) (v5 : Int) (v6 : Int) (v7 : Int) (v8 : Int) : Option R := loopAtL E (callT E tab) 230 Try.f230 5 [.r, .r, .r, .r, .r, .r, .r, .l, .b] (⟨(.val .one), [.d .sha (.sl (.pair (.sl (.int .i64)) (.int .i64))) v0], true, false, false, 0, 0⟩ :: vc (iL v1) :: vc (iL v2) :: vc (iL v3) :: vc (.fn 171 []) :: nn 13 (vc (iL v4) :: vc (iL v5) :: vc (iL v6) :: vc (iL v7) :: vc (iL v8) :: nn 197 ([])))
noncomputable def xs07.l33 (v0 : List (List Int × Int)) (v1 : Int) (v2 : Int) (v3 : Int) (v4 : Int) (v5 : Int) (v6 : Int) (v7 : Int) (v8 : Int) : Option ((List (List Int × Int))) := tOf xs07.mk (xs07.q33 v0 v1 v2 v3 v4 v5 v6 v7 v8)
noncomputable def xs07.t {γ : Type} (ret : ((List (List Int × Int))) → Option γ) (lp9 : (List (List Int × Int)) → Int → Int → Option γ) (lp3 : (List (List Int × Int)) → Int → Int → Int → Option γ) (lp21 : (List (List Int × Int)) → Int → Int → Option γ) (lp15 : (List (List Int × Int)) → Int → Int → Int → Option γ) (lp33 : (List (List Int × Int)) → Int → Int → Int → Int → Int → Int → Int → Int → Option γ) (v0 : List (List Int × Int)) (v1 : Int) (v2 : Int) (v3 : Int) : Option γ :=
 bif IntKind.i64.wrap (v2 - v1) == (1 : Int) then
  lp3 (v0) (v1) (v2) (v3)
 else
  bif IntKind.i64.wrap (v3 - v2) == (1 : Int) then
   lp15 (v0) (v2) (v1) (v2)
  else
   bif decide   (v2 >     IntKind.i64.wrap       ((IntKind.u64.wrap (IntKind.i64.wrap (v1 + v3))).fdiv         ((2 : Int) ^ Min.min (Int.toNat (1 : Int)) IntKind.u64.bits))) then
    lp33 (v0) (v1) (v2) (v3) (IntKind.i64.wrap   ((IntKind.u64.wrap (IntKind.i64.wrap (v1 + v3))).fdiv     ((2 : Int) ^ Min.min (Int.toNat (1 : Int)) IntKind.u64.bits))) (IntKind.i64.wrap   (IntKind.i64.wrap       ((IntKind.u64.wrap (IntKind.i64.wrap (v1 + v3))).fdiv         ((2 : Int) ^ Min.min (Int.toNat (1 : Int)) IntKind.u64.bits)) +     v2)) (IntKind.i64.wrap   (IntKind.i64.wrap       (IntKind.i64.wrap           ((IntKind.u64.wrap (IntKind.i64.wrap (v1 + v3))).fdiv             ((2 : Int) ^ Min.min (Int.toNat (1 : Int)) IntKind.u64.bits)) +         v2) -     v3)) (IntKind.i64.wrap   ((IntKind.u64.wrap (IntKind.i64.wrap (v1 + v3))).fdiv     ((2 : Int) ^ Min.min (Int.toNat (1 : Int)) IntKind.u64.bits))) (IntKind.i64.wrap   (IntKind.i64.wrap       (IntKind.i64.wrap           ((IntKind.u64.wrap (IntKind.i64.wrap (v1 + v3))).fdiv             ((2 : Int) ^ Min.min (Int.toNat (1 : Int)) IntKind.u64.bits)) +         v2) -     (1 : Int)))
   else
    lp33 (v0) (v1) (v2) (v3) (IntKind.i64.wrap   ((IntKind.u64.wrap (IntKind.i64.wrap (v1 + v3))).fdiv     ((2 : Int) ^ Min.min (Int.toNat (1 : Int)) IntKind.u64.bits))) (IntKind.i64.wrap   (IntKind.i64.wrap       ((IntKind.u64.wrap (IntKind.i64.wrap (v1 + v3))).fdiv         ((2 : Int) ^ Min.min (Int.toNat (1 : Int)) IntKind.u64.bits)) +     v2)) (v1) (v2) (IntKind.i64.wrap   (IntKind.i64.wrap       (IntKind.i64.wrap           ((IntKind.u64.wrap (IntKind.i64.wrap (v1 + v3))).fdiv             ((2 : Int) ^ Min.min (Int.toNat (1 : Int)) IntKind.u64.bits)) +         v2) -     (1 : Int)))
noncomputable def xs07.t9 {γ : Type} (ret : ((List (List Int × Int))) → Option γ) (lp9 : (List (List Int × Int)) → Int → Int → Option γ) (lp3 : (List (List Int × Int)) → Int → Int → Int → Option γ) (lp21 : (List (List Int × Int)) → Int → Int → Option γ) (lp15 : (List (List Int × Int)) → Int → Int → Int → Option γ) (lp33 : (List (List Int × Int)) → Int → Int → Int → Int → Int → Int → Int → Int → Option γ) (v0 : List (List Int × Int)) (v1 : Int) (v2 : Int) : Option γ :=
 bif decide (v2 < IntKind.i64.wrap (v1 - (1 : Int))) then
  bif decide ((0 : Int) ≤ IntKind.i64.wrap (v2 + (1 : Int))) then
   bif decide ((IntKind.i64.wrap (v2 + (1 : Int))).toNat < v0.length) then
    bif decide ((IntKind.i64.wrap (v2 + (1 : Int))).toNat < v0.length) then
     bif decide ((0 : Int) ≤ v2) then
      bif decide (v2.toNat < v0.length) then
       bif decide (v2.toNat < v0.length) then
        bif decide ((0 : Int) ≤ v2) then
         bif decide (v2.toNat < v0.length) then
          bif decide (v2.toNat < v0.length) then
           bif decide ((0 : Int) ≤ IntKind.i64.wrap (v2 + (1 : Int))) then
            bif decide   ((IntKind.i64.wrap (v2 + (1 : Int))).toNat <     (v0.set v2.toNat         ((v0.getD (IntKind.i64.wrap (v2 + (1 : Int))).toNat ([], (0 : Int))).fst,           (v0.getD (IntKind.i64.wrap (v2 + (1 : Int))).toNat ([], (0 : Int))).snd)).length) then
             bif decide   ((IntKind.i64.wrap (v2 + (1 : Int))).toNat <     (v0.set v2.toNat         ((v0.getD (IntKind.i64.wrap (v2 + (1 : Int))).toNat ([], (0 : Int))).fst,           (v0.getD (IntKind.i64.wrap (v2 + (1 : Int))).toNat ([], (0 : Int))).snd)).length) then
              lp9 ((v0.set v2.toNat       ((v0.getD (IntKind.i64.wrap (v2 + (1 : Int))).toNat ([], (0 : Int))).fst,         (v0.getD (IntKind.i64.wrap (v2 + (1 : Int))).toNat ([], (0 : Int))).snd)).set   (IntKind.i64.wrap (v2 + (1 : Int))).toNat   ((v0.getD v2.toNat ([], (0 : Int))).fst, (v0.getD v2.toNat ([], (0 : Int))).snd)) (v1) (IntKind.i64.wrap (v2 + (1 : Int)))
             else
              none
            else
             none
           else
            none
          else
           none
         else
          none
        else
         none
       else
        none
      else
       none
     else
      none
    else
     none
   else
    none
  else
   none
 else
  ret (v0)
noncomputable def xs07.t3 {γ : Type} (ret : ((List (List Int × Int))) → Option γ) (lp9 : (List (List Int × Int)) → Int → Int → Option γ) (lp3 : (List (List Int × Int)) → Int → Int → Int → Option γ) (lp21 : (List (List Int × Int)) → Int → Int → Option γ) (lp15 : (List (List Int × Int)) → Int → Int → Int → Option γ) (lp33 : (List (List Int × Int)) → Int → Int → Int → Int → Int → Int → Int → Int → Option γ) (v0 : List (List Int × Int)) (v1 : Int) (v2 : Int) (v3 : Int) : Option γ :=
 bif decide (v2 < v3) then
  bif decide   ((0 : Int) ≤     IntKind.i64.wrap       ((IntKind.u64.wrap (IntKind.i64.wrap (v2 + v3))).fdiv         ((2 : Int) ^ Min.min (Int.toNat (1 : Int)) IntKind.u64.bits))) then
   bif decide   ((IntKind.i64.wrap         ((IntKind.u64.wrap (IntKind.i64.wrap (v2 + v3))).fdiv           ((2 : Int) ^ Min.min (Int.toNat (1 : Int)) IntKind.u64.bits))).toNat <     v0.length) then
    bif decide   ((IntKind.i64.wrap         ((IntKind.u64.wrap (IntKind.i64.wrap (v2 + v3))).fdiv           ((2 : Int) ^ Min.min (Int.toNat (1 : Int)) IntKind.u64.bits))).toNat <     v0.length) then
     bif decide ((0 : Int) ≤ v1) then
      bif decide (v1.toNat < v0.length) then
       bif decide (v1.toNat < v0.length) then
        (impl_summed_1 ((v0.getD     (IntKind.i64.wrap         ((IntKind.u64.wrap (IntKind.i64.wrap (v2 + v3))).fdiv           ((2 : Int) ^ Min.min (Int.toNat (1 : Int)) IntKind.u64.bits))).toNat     ([], (0 : Int))).fst) ((v0.getD     (IntKind.i64.wrap         ((IntKind.u64.wrap (IntKind.i64.wrap (v2 + v3))).fdiv           ((2 : Int) ^ Min.min (Int.toNat (1 : Int)) IntKind.u64.bits))).toNat     ([], (0 : Int))).snd) ((v0.getD v1.toNat ([], (0 : Int))).fst) ((v0.getD v1.toNat ([], (0 : Int))).snd)).bind fun (r0 : Int) =>
        bif decide (r0 < (0 : Int)) then
         lp3 (v0) (v1) (IntKind.i64.wrap   (IntKind.i64.wrap       ((IntKind.u64.wrap (IntKind.i64.wrap (v2 + v3))).fdiv         ((2 : Int) ^ Min.min (Int.toNat (1 : Int)) IntKind.u64.bits)) +     (1 : Int))) (v3)
        else
         lp3 (v0) (v1) (v2) (IntKind.i64.wrap   ((IntKind.u64.wrap (IntKind.i64.wrap (v2 + v3))).fdiv     ((2 : Int) ^ Min.min (Int.toNat (1 : Int)) IntKind.u64.bits)))
       else
        none
      else
       none
     else
      none
    else
     none
   else
    none
  else
   none
 else
  lp9 (v0) (v2) (v1)
noncomputable def xs07.t21 {γ : Type} (ret : ((List (List Int × Int))) → Option γ) (lp9 : (List (List Int × Int)) → Int → Int → Option γ) (lp3 : (List (List Int × Int)) → Int → Int → Int → Option γ) (lp21 : (List (List Int × Int)) → Int → Int → Option γ) (lp15 : (List (List Int × Int)) → Int → Int → Int → Option γ) (lp33 : (List (List Int × Int)) → Int → Int → Int → Int → Int → Int → Int → Int → Option γ) (v0 : List (List Int × Int)) (v1 : Int) (v2 : Int) : Option γ :=
 bif decide (v2 > v1) then
  bif decide ((0 : Int) ≤ IntKind.i64.wrap (v2 - (1 : Int))) then
   bif decide ((IntKind.i64.wrap (v2 - (1 : Int))).toNat < v0.length) then
    bif decide ((IntKind.i64.wrap (v2 - (1 : Int))).toNat < v0.length) then
     bif decide ((0 : Int) ≤ v2) then
      bif decide (v2.toNat < v0.length) then
       bif decide (v2.toNat < v0.length) then
        bif decide ((0 : Int) ≤ v2) then
         bif decide (v2.toNat < v0.length) then
          bif decide (v2.toNat < v0.length) then
           bif decide ((0 : Int) ≤ IntKind.i64.wrap (v2 - (1 : Int))) then
            bif decide   ((IntKind.i64.wrap (v2 - (1 : Int))).toNat <     (v0.set v2.toNat         ((v0.getD (IntKind.i64.wrap (v2 - (1 : Int))).toNat ([], (0 : Int))).fst,           (v0.getD (IntKind.i64.wrap (v2 - (1 : Int))).toNat ([], (0 : Int))).snd)).length) then
             bif decide   ((IntKind.i64.wrap (v2 - (1 : Int))).toNat <     (v0.set v2.toNat         ((v0.getD (IntKind.i64.wrap (v2 - (1 : Int))).toNat ([], (0 : Int))).fst,           (v0.getD (IntKind.i64.wrap (v2 - (1 : Int))).toNat ([], (0 : Int))).snd)).length) then
              lp21 ((v0.set v2.toNat       ((v0.getD (IntKind.i64.wrap (v2 - (1 : Int))).toNat ([], (0 : Int))).fst,         (v0.getD (IntKind.i64.wrap (v2 - (1 : Int))).toNat ([], (0 : Int))).snd)).set   (IntKind.i64.wrap (v2 - (1 : Int))).toNat   ((v0.getD v2.toNat ([], (0 : Int))).fst, (v0.getD v2.toNat ([], (0 : Int))).snd)) (v1) (IntKind.i64.wrap (v2 - (1 : Int)))
             else
              none
            else
             none
           else
            none
          else
           none
         else
          none
        else
         none
       else
        none
      else
       none
     else
      none
    else
     none
   else
    none
  else
   none
 else
  ret (v0)
noncomputable def xs07.t15 {γ : Type} (ret : ((List (List Int × Int))) → Option γ) (lp9 : (List (List Int × Int)) → Int → Int → Option γ) (lp3 : (List (List Int × Int)) → Int → Int → Int → Option γ) (lp21 : (List (List Int × Int)) → Int → Int → Option γ) (lp15 : (List (List Int × Int)) → Int → Int → Int → Option γ) (lp33 : (List (List Int × Int)) → Int → Int → Int → Int → Int → Int → Int → Int → Option γ) (v0 : List (List Int × Int)) (v1 : Int) (v2 : Int) (v3 : Int) : Option γ :=
 bif decide (v2 < v3) then
  bif decide ((0 : Int) ≤ v1) then
   bif decide (v1.toNat < v0.length) then
    bif decide (v1.toNat < v0.length) then
     bif decide   ((0 : Int) ≤     IntKind.i64.wrap       ((IntKind.u64.wrap (IntKind.i64.wrap (v2 + v3))).fdiv         ((2 : Int) ^ Min.min (Int.toNat (1 : Int)) IntKind.u64.bits))) then
      bif decide   ((IntKind.i64.wrap         ((IntKind.u64.wrap (IntKind.i64.wrap (v2 + v3))).fdiv           ((2 : Int) ^ Min.min (Int.toNat (1 : Int)) IntKind.u64.bits))).toNat <     v0.length) then
       bif decide   ((IntKind.i64.wrap         ((IntKind.u64.wrap (IntKind.i64.wrap (v2 + v3))).fdiv           ((2 : Int) ^ Min.min (Int.toNat (1 : Int)) IntKind.u64.bits))).toNat <     v0.length) then
        (impl_summed_1 ((v0.getD v1.toNat ([], (0 : Int))).fst) ((v0.getD v1.toNat ([], (0 : Int))).snd) ((v0.getD     (IntKind.i64.wrap         ((IntKind.u64.wrap (IntKind.i64.wrap (v2 + v3))).fdiv           ((2 : Int) ^ Min.min (Int.toNat (1 : Int)) IntKind.u64.bits))).toNat     ([], (0 : Int))).fst) ((v0.getD     (IntKind.i64.wrap         ((IntKind.u64.wrap (IntKind.i64.wrap (v2 + v3))).fdiv           ((2 : Int) ^ Min.min (Int.toNat (1 : Int)) IntKind.u64.bits))).toNat     ([], (0 : Int))).snd)).bind fun (r1 : Int) =>
        bif !decide (r1 < (0 : Int)) then
         lp15 (v0) (v1) (IntKind.i64.wrap   (IntKind.i64.wrap       ((IntKind.u64.wrap (IntKind.i64.wrap (v2 + v3))).fdiv         ((2 : Int) ^ Min.min (Int.toNat (1 : Int)) IntKind.u64.bits)) +     (1 : Int))) (v3)
        else
         lp15 (v0) (v1) (v2) (IntKind.i64.wrap   ((IntKind.u64.wrap (IntKind.i64.wrap (v2 + v3))).fdiv     ((2 : Int) ^ Min.min (Int.toNat (1 : Int)) IntKind.u64.bits)))
       else
        none
      else
       none
     else
      none
    else
     none
   else
    none
  else
   none
 else
  lp21 (v0) (v2) (v1)
noncomputable def xs07.t33 {γ : Type} (ret : ((List (List Int × Int))) → Option γ) (lp9 : (List (List Int × Int)) → Int → Int → Option γ) (lp3 : (List (List Int × Int)) → Int → Int → Int → Option γ) (lp21 : (List (List Int × Int)) → Int → Int → Option γ) (lp15 : (List (List Int × Int)) → Int → Int → Int → Option γ) (lp33 : (List (List Int × Int)) → Int → Int → Int → Int → Int → Int → Int → Int → Option γ) (v0 : List (List Int × Int)) (v1 : Int) (v2 : Int) (v3 : Int) (v4 : Int) (v5 : Int) (v6 : Int) (v7 : Int) (v8 : Int) : Option γ :=
 bif decide (v6 < v7) then
  bif decide   ((0 : Int) ≤     IntKind.i64.wrap       (v8 -         IntKind.i64.wrap           ((IntKind.u64.wrap (IntKind.i64.wrap (v6 + v7))).fdiv             ((2 : Int) ^ Min.min (Int.toNat (1 : Int)) IntKind.u64.bits)))) then
   bif decide   ((IntKind.i64.wrap         (v8 -           IntKind.i64.wrap             ((IntKind.u64.wrap (IntKind.i64.wrap (v6 + v7))).fdiv               ((2 : Int) ^ Min.min (Int.toNat (1 : Int)) IntKind.u64.bits)))).toNat <     v0.length) then
    bif decide   ((IntKind.i64.wrap         (v8 -           IntKind.i64.wrap             ((IntKind.u64.wrap (IntKind.i64.wrap (v6 + v7))).fdiv               ((2 : Int) ^ Min.min (Int.toNat (1 : Int)) IntKind.u64.bits)))).toNat <     v0.length) then
     bif decide   ((0 : Int) ≤     IntKind.i64.wrap       ((IntKind.u64.wrap (IntKind.i64.wrap (v6 + v7))).fdiv         ((2 : Int) ^ Min.min (Int.toNat (1 : Int)) IntKind.u64.bits))) then
      bif decide   ((IntKind.i64.wrap         ((IntKind.u64.wrap (IntKind.i64.wrap (v6 + v7))).fdiv           ((2 : Int) ^ Min.min (Int.toNat (1 : Int)) IntKind.u64.bits))).toNat <     v0.length) then
       bif decide   ((IntKind.i64.wrap         ((IntKind.u64.wrap (IntKind.i64.wrap (v6 + v7))).fdiv           ((2 : Int) ^ Min.min (Int.toNat (1 : Int)) IntKind.u64.bits))).toNat <     v0.length) then
        (impl_summed_1 ((v0.getD     (IntKind.i64.wrap         (v8 -           IntKind.i64.wrap             ((IntKind.u64.wrap (IntKind.i64.wrap (v6 + v7))).fdiv               ((2 : Int) ^ Min.min (Int.toNat (1 : Int)) IntKind.u64.bits)))).toNat     ([], (0 : Int))).fst) ((v0.getD     (IntKind.i64.wrap         (v8 -           IntKind.i64.wrap             ((IntKind.u64.wrap (IntKind.i64.wrap (v6 + v7))).fdiv               ((2 : Int) ^ Min.min (Int.toNat (1 : Int)) IntKind.u64.bits)))).toNat     ([], (0 : Int))).snd) ((v0.getD     (IntKind.i64.wrap         ((IntKind.u64.wrap (IntKind.i64.wrap (v6 + v7))).fdiv           ((2 : Int) ^ Min.min (Int.toNat (1 : Int)) IntKind.u64.bits))).toNat     ([], (0 : Int))).fst) ((v0.getD     (IntKind.i64.wrap         ((IntKind.u64.wrap (IntKind.i64.wrap (v6 + v7))).fdiv           ((2 : Int) ^ Min.min (Int.toNat (1 : Int)) IntKind.u64.bits))).toNat     ([], (0 : Int))).snd)).bind fun (r2 : Int) =>
        bif !decide (r2 < (0 : Int)) then
         lp33 (v0) (v1) (v2) (v3) (v4) (v5) (IntKind.i64.wrap   (IntKind.i64.wrap       ((IntKind.u64.wrap (IntKind.i64.wrap (v6 + v7))).fdiv         ((2 : Int) ^ Min.min (Int.toNat (1 : Int)) IntKind.u64.bits)) +     (1 : Int))) (v7) (v8)
        else
         lp33 (v0) (v1) (v2) (v3) (v4) (v5) (v6) (IntKind.i64.wrap   ((IntKind.u64.wrap (IntKind.i64.wrap (v6 + v7))).fdiv     ((2 : Int) ^ Min.min (Int.toNat (1 : Int)) IntKind.u64.bits))) (v8)
       else
        none
      else
       none
     else
      none
    else
     none
   else
    none
  else
   none
 else
  bif decide (v6 < v2) then
   bif decide (v2 < IntKind.i64.wrap (v5 - v6)) then
    (xs08 (v0) (v6) (v2) (IntKind.i64.wrap (v5 - v6))).bind fun (r3 : (List (List Int × Int))) =>
    bif decide (v1 < v6) then
     bif decide (v6 < v4) then
      (xs07 (r3) (v1) (v6) (v4)).bind fun (r4 : (List (List Int × Int))) =>
      bif decide (v4 < IntKind.i64.wrap (v5 - v6)) then
       bif decide (IntKind.i64.wrap (v5 - v6) < v3) then
        (xs07 (r4) (v4) (IntKind.i64.wrap (v5 - v6)) (v3)).bind fun (r5 : (List (List Int × Int))) =>
        ret (r5)
       else
        ret (r4)
      else
       ret (r4)
     else
      bif decide (v4 < IntKind.i64.wrap (v5 - v6)) then
       bif decide (IntKind.i64.wrap (v5 - v6) < v3) then
        (xs07 (r3) (v4) (IntKind.i64.wrap (v5 - v6)) (v3)).bind fun (r6 : (List (List Int × Int))) =>
        ret (r6)
       else
        ret (r3)
      else
       ret (r3)
    else
     bif decide (v4 < IntKind.i64.wrap (v5 - v6)) then
      bif decide (IntKind.i64.wrap (v5 - v6) < v3) then
       (xs07 (r3) (v4) (IntKind.i64.wrap (v5 - v6)) (v3)).bind fun (r7 : (List (List Int × Int))) =>
       ret (r7)
      else
       ret (r3)
     else
      ret (r3)
   else
    bif decide (v1 < v6) then
     bif decide (v6 < v4) then
      (xs07 (v0) (v1) (v6) (v4)).bind fun (r8 : (List (List Int × Int))) =>
      bif decide (v4 < IntKind.i64.wrap (v5 - v6)) then
       bif decide (IntKind.i64.wrap (v5 - v6) < v3) then
        (xs07 (r8) (v4) (IntKind.i64.wrap (v5 - v6)) (v3)).bind fun (r9 : (List (List Int × Int))) =>
        ret (r9)
       else
        ret (r8)
      else
       ret (r8)
     else
      bif decide (v4 < IntKind.i64.wrap (v5 - v6)) then
       bif decide (IntKind.i64.wrap (v5 - v6) < v3) then
        (xs07 (v0) (v4) (IntKind.i64.wrap (v5 - v6)) (v3)).bind fun (r10 : (List (List Int × Int))) =>
        ret (r10)
       else
        ret (v0)
      else
       ret (v0)
    else
     bif decide (v4 < IntKind.i64.wrap (v5 - v6)) then
      bif decide (IntKind.i64.wrap (v5 - v6) < v3) then
       (xs07 (v0) (v4) (IntKind.i64.wrap (v5 - v6)) (v3)).bind fun (r11 : (List (List Int × Int))) =>
       ret (r11)
      else
       ret (v0)
     else
      ret (v0)
  else
   bif decide (v1 < v6) then
    bif decide (v6 < v4) then
     (xs07 (v0) (v1) (v6) (v4)).bind fun (r12 : (List (List Int × Int))) =>
     bif decide (v4 < IntKind.i64.wrap (v5 - v6)) then
      bif decide (IntKind.i64.wrap (v5 - v6) < v3) then
       (xs07 (r12) (v4) (IntKind.i64.wrap (v5 - v6)) (v3)).bind fun (r13 : (List (List Int × Int))) =>
       ret (r13)
      else
       ret (r12)
     else
      ret (r12)
    else
     bif decide (v4 < IntKind.i64.wrap (v5 - v6)) then
      bif decide (IntKind.i64.wrap (v5 - v6) < v3) then
       (xs07 (v0) (v4) (IntKind.i64.wrap (v5 - v6)) (v3)).bind fun (r14 : (List (List Int × Int))) =>
       ret (r14)
      else
       ret (v0)
     else
      ret (v0)
   else
    bif decide (v4 < IntKind.i64.wrap (v5 - v6)) then
     bif decide (IntKind.i64.wrap (v5 - v6) < v3) then
      (xs07 (v0) (v4) (IntKind.i64.wrap (v5 - v6)) (v3)).bind fun (r15 : (List (List Int × Int))) =>
      ret (r15)
     else
      ret (v0)
    else
     ret (v0)
theorem xs07.k (v0 : List (List Int × Int)) (v1 : Int) (v2 : Int) (v3 : Int) : topL E (callT E tab) 230 Try.f230 (xs07.c v0 v1 v2 v3) = xs07.t (fun b => some (xs07.mk b)) xs07.q9 xs07.q3 xs07.q21 xs07.q15 xs07.q33 v0 v1 v2 v3 := by kernel_rfl
theorem xs07.k9 (v0 : List (List Int × Int)) (v1 : Int) (v2 : Int) : roundL E (callT E tab) 230 Try.f230 5 [.l, .r, .l, .r, .r, .r, .l, .r, .b] (⟨(.val .one), [.d .sha (.sl (.pair (.sl (.int .i64)) (.int .i64))) v0], true, false, false, 0, 0⟩ :: nn 9 (vc (iL v1) :: nn 2 (vc (iL v2) :: nn 206 ([])))) = xs07.t9 (fun b => some (xs07.mk b)) xs07.q9 xs07.q3 xs07.q21 xs07.q15 xs07.q33 v0 v1 v2 := by kernel_rfl
theorem xs07.k3 (v0 : List (List Int × Int)) (v1 : Int) (v2 : Int) (v3 : Int) : roundL E (callT E tab) 230 Try.f230 5 [.l, .r, .l, .r, .r, .l, .b] (⟨(.val .one), [.d .sha (.sl (.pair (.sl (.int .i64)) (.int .i64))) v0], true, false, false, 0, 0⟩ :: vc (iL v1) :: nn 2 (vc (.fn 171 []) :: nn 5 (vc (iL v2) :: vc (iL v3) :: nn 208 ([])))) = xs07.t3 (fun b => some (xs07.mk b)) xs07.q9 xs07.q3 xs07.q21 xs07.q15 xs07.q33 v0 v1 v2 v3 := by kernel_rfl
theorem xs07.k21 (v0 : List (List Int × Int)) (v1 : Int) (v2 : Int) : roundL E (callT E tab) 230 Try.f230 5 [.r, .l, .r, .l, .r, .r, .r, .l, .r, .b] (⟨(.val .one), [.d .sha (.sl (.pair (.sl (.int .i64)) (.int .i64))) v0], true, false, false, 0, 0⟩ :: nn 13 (vc (iL v1) :: nn 2 (vc (iL v2) :: nn 202 ([])))) = xs07.t21 (fun b => some (xs07.mk b)) xs07.q9 xs07.q3 xs07.q21 xs07.q15 xs07.q33 v0 v1 v2 := by kernel_rfl
theorem xs07.k15 (v0 : List (List Int × Int)) (v1 : Int) (v2 : Int) (v3 : Int) : roundL E (callT E tab) 230 Try.f230 5 [.r, .l, .r, .l, .r, .r, .l, .b] (⟨(.val .one), [.d .sha (.sl (.pair (.sl (.int .i64)) (.int .i64))) v0], true, false, false, 0, 0⟩ :: nn 1 (vc (iL v1) :: nn 1 (vc (.fn 171 []) :: nn 9 (vc (iL v2) :: vc (iL v3) :: nn 204 ([]))))) = xs07.t15 (fun b => some (xs07.mk b)) xs07.q9 xs07.q3 xs07.q21 xs07.q15 xs07.q33 v0 v1 v2 v3 := by kernel_rfl
theorem xs07.k33 (v0 : List (List Int × Int)) (v1 : Int) (v2 : Int) (v3 : Int) (v4 : Int) (v5 : Int) (v6 : Int) (v7 : Int) (v8 : Int) : roundL E (callT E tab) 230 Try.f230 5 [.r, .r, .r, .r, .r, .r, .r, .l, .b] (⟨(.val .one), [.d .sha (.sl (.pair (.sl (.int .i64)) (.int .i64))) v0], true, false, false, 0, 0⟩ :: vc (iL v1) :: vc (iL v2) :: vc (iL v3) :: vc (.fn 171 []) :: nn 13 (vc (iL v4) :: vc (iL v5) :: vc (iL v6) :: vc (iL v7) :: vc (iL v8) :: nn 197 ([]))) = xs07.t33 (fun b => some (xs07.mk b)) xs07.q9 xs07.q3 xs07.q21 xs07.q15 xs07.q33 v0 v1 v2 v3 v4 v5 v6 v7 v8 := by kernel_rfl
theorem xs07.eq (v0 : List (List Int × Int)) (v1 : Int) (v2 : Int) (v3 : Int) {b : (List (List Int × Int))} (h : xs07.t some xs07.l9 xs07.l3 xs07.l21 xs07.l15 xs07.l33 v0 v1 v2 v3 = some b) : xs07 v0 v1 v2 v3 = some b := tOf_intro xs07.un (fun _ => by kernel_rfl) (vlim_fn (callT_le E tab) rfl rfl rfl ((xs07.k v0 v1 v2 v3).trans ((by unfold xs07.t; repeat' first | exact Sub.ret | exact Sub.none | exact Sub.loop | apply Sub.cond | (apply Sub.bind; intro _) : Sub xs07.mk _ _) b h)))
theorem xs07.eq9 (v0 : List (List Int × Int)) (v1 : Int) (v2 : Int) {b : (List (List Int × Int))} (h : xs07.t9 some xs07.l9 xs07.l3 xs07.l21 xs07.l15 xs07.l33 v0 v1 v2 = some b) : xs07.l9 v0 v1 v2 = some b := tOf_intro xs07.un (fun _ => by kernel_rfl) (loopAtL_step ((xs07.k9 v0 v1 v2).trans ((by unfold xs07.t9; repeat' first | exact Sub.ret | exact Sub.none | exact Sub.loop | apply Sub.cond | (apply Sub.bind; intro _) : Sub xs07.mk _ _) b h)))
theorem xs07.eq3 (v0 : List (List Int × Int)) (v1 : Int) (v2 : Int) (v3 : Int) {b : (List (List Int × Int))} (h : xs07.t3 some xs07.l9 xs07.l3 xs07.l21 xs07.l15 xs07.l33 v0 v1 v2 v3 = some b) : xs07.l3 v0 v1 v2 v3 = some b := tOf_intro xs07.un (fun _ => by kernel_rfl) (loopAtL_step ((xs07.k3 v0 v1 v2 v3).trans ((by unfold xs07.t3; repeat' first | exact Sub.ret | exact Sub.none | exact Sub.loop | apply Sub.cond | (apply Sub.bind; intro _) : Sub xs07.mk _ _) b h)))
theorem xs07.eq21 (v0 : List (List Int × Int)) (v1 : Int) (v2 : Int) {b : (List (List Int × Int))} (h : xs07.t21 some xs07.l9 xs07.l3 xs07.l21 xs07.l15 xs07.l33 v0 v1 v2 = some b) : xs07.l21 v0 v1 v2 = some b := tOf_intro xs07.un (fun _ => by kernel_rfl) (loopAtL_step ((xs07.k21 v0 v1 v2).trans ((by unfold xs07.t21; repeat' first | exact Sub.ret | exact Sub.none | exact Sub.loop | apply Sub.cond | (apply Sub.bind; intro _) : Sub xs07.mk _ _) b h)))
theorem xs07.eq15 (v0 : List (List Int × Int)) (v1 : Int) (v2 : Int) (v3 : Int) {b : (List (List Int × Int))} (h : xs07.t15 some xs07.l9 xs07.l3 xs07.l21 xs07.l15 xs07.l33 v0 v1 v2 v3 = some b) : xs07.l15 v0 v1 v2 v3 = some b := tOf_intro xs07.un (fun _ => by kernel_rfl) (loopAtL_step ((xs07.k15 v0 v1 v2 v3).trans ((by unfold xs07.t15; repeat' first | exact Sub.ret | exact Sub.none | exact Sub.loop | apply Sub.cond | (apply Sub.bind; intro _) : Sub xs07.mk _ _) b h)))
theorem xs07.eq33 (v0 : List (List Int × Int)) (v1 : Int) (v2 : Int) (v3 : Int) (v4 : Int) (v5 : Int) (v6 : Int) (v7 : Int) (v8 : Int) {b : (List (List Int × Int))} (h : xs07.t33 some xs07.l9 xs07.l3 xs07.l21 xs07.l15 xs07.l33 v0 v1 v2 v3 v4 v5 v6 v7 v8 = some b) : xs07.l33 v0 v1 v2 v3 v4 v5 v6 v7 v8 = some b := tOf_intro xs07.un (fun _ => by kernel_rfl) (loopAtL_step ((xs07.k33 v0 v1 v2 v3 v4 v5 v6 v7 v8).trans ((by unfold xs07.t33; repeat' first | exact Sub.ret | exact Sub.none | exact Sub.loop | apply Sub.cond | (apply Sub.bind; intro _) : Sub xs07.mk _ _) b h)))
noncomputable def xs08.q2 (v0 : List (List Int × Int)) (v1 : Int) (v2 : Int) (v3 : Int) : Option R := loopAtL E (callT E tab) 237 Try.f237 5 [.r, .r, .l, .b] (⟨(.val .one), [.d .sha (.sl (.pair (.sl (.int .i64)) (.int .i64))) v0], true, false, false, 0, 0⟩ :: nn 1 (vc (iL v1) :: nn 1 (vc (.fn 171 []) :: nn 5 (vc (iL v2) :: vc (iL v3) :: nn 46 ([])))))
noncomputable def xs08.l2 (v0 : List (List Int × Int)) (v1 : Int) (v2 : Int) (v3 : Int) : Option ((List (List Int × Int))) := tOf xs08.mk (xs08.q2 v0 v1 v2 v3)
noncomputable def xs08.t {γ : Type} (ret : ((List (List Int × Int))) → Option γ) (lp2 : (List (List Int × Int)) → Int → Int → Int → Option γ) (v0 : List (List Int × Int)) (v1 : Int) (v2 : Int) (v3 : Int) : Option γ :=
 lp2 (v0) (v2) (IntKind.i64.wrap (v2 - v1)) (IntKind.i64.wrap (v3 - v2))
noncomputable def xs08.t2 {γ : Type} (ret : ((List (List Int × Int))) → Option γ) (lp2 : (List (List Int × Int)) → Int → Int → Int → Option γ) (v0 : List (List Int × Int)) (v1 : Int) (v2 : Int) (v3 : Int) : Option γ :=
 bif v2 != v3 then
  bif decide (v2 > v3) then
   (xs05 (v0) (IntKind.i64.wrap (v1 - v2)) (v1) (v3)).bind fun (r0 : (List (List Int × Int))) =>
   lp2 (r0) (v1) (IntKind.i64.wrap (v2 - v3)) (v3)
  else
   (xs05 (v0) (IntKind.i64.wrap (v1 - v2)) (IntKind.i64.wrap (IntKind.i64.wrap (v1 + v3) - v2)) (v2)).bind fun (r1 : (List (List Int × Int))) =>
   lp2 (r1) (v1) (v2) (IntKind.i64.wrap (v3 - v2))
 else
  (xs05 (v0) (IntKind.i64.wrap (v1 - v2)) (v1) (v2)).bind fun (r2 : (List (List Int × Int))) =>
  ret (r2)
theorem xs08.k (v0 : List (List Int × Int)) (v1 : Int) (v2 : Int) (v3 : Int) : topL E (callT E tab) 237 Try.f237 (xs08.c v0 v1 v2 v3) = xs08.t (fun b => some (xs08.mk b)) xs08.q2 v0 v1 v2 v3 := by kernel_rfl
theorem xs08.k2 (v0 : List (List Int × Int)) (v1 : Int) (v2 : Int) (v3 : Int) : roundL E (callT E tab) 237 Try.f237 5 [.r, .r, .l, .b] (⟨(.val .one), [.d .sha (.sl (.pair (.sl (.int .i64)) (.int .i64))) v0], true, false, false, 0, 0⟩ :: nn 1 (vc (iL v1) :: nn 1 (vc (.fn 171 []) :: nn 5 (vc (iL v2) :: vc (iL v3) :: nn 46 ([]))))) = xs08.t2 (fun b => some (xs08.mk b)) xs08.q2 v0 v1 v2 v3 := by kernel_rfl
theorem xs08.eq (v0 : List (List Int × Int)) (v1 : Int) (v2 : Int) (v3 : Int) {b : (List (List Int × Int))} (h : xs08.t some xs08.l2 v0 v1 v2 v3 = some b) : xs08 v0 v1 v2 v3 = some b := tOf_intro xs08.un (fun _ => by kernel_rfl) (vlim_fn (callT_le E tab) rfl rfl rfl ((xs08.k v0 v1 v2 v3).trans ((by unfold xs08.t; repeat' first | exact Sub.ret | exact Sub.none | exact Sub.loop | apply Sub.cond | (apply Sub.bind; intro _) : Sub xs08.mk _ _) b h)))
theorem xs08.eq2 (v0 : List (List Int × Int)) (v1 : Int) (v2 : Int) (v3 : Int) {b : (List (List Int × Int))} (h : xs08.t2 some xs08.l2 v0 v1 v2 v3 = some b) : xs08.l2 v0 v1 v2 v3 = some b := tOf_intro xs08.un (fun _ => by kernel_rfl) (loopAtL_step ((xs08.k2 v0 v1 v2 v3).trans ((by unfold xs08.t2; repeat' first | exact Sub.ret | exact Sub.none | exact Sub.loop | apply Sub.cond | (apply Sub.bind; intro _) : Sub xs08.mk _ _) b h)))
noncomputable def xs05.q1 (v0 : List (List Int × Int)) (v1 : Int) (v2 : Int) (v3 : Int) (v4 : Int) : Option R := loopAtL E (callT E tab) 241 Try.f241 5 [.r, .b] (⟨(.val .one), [.d .sha (.sl (.pair (.sl (.int .i64)) (.int .i64))) v0], true, false, false, 0, 0⟩ :: vc (iL v1) :: vc (iL v2) :: vc (iL v3) :: nn 6 (vc (iL v4) :: nn 27 ([])))
noncomputable def xs05.l1 (v0 : List (List Int × Int)) (v1 : Int) (v2 : Int) (v3 : Int) (v4 : Int) : Option ((List (List Int × Int))) := tOf xs05.mk (xs05.q1 v0 v1 v2 v3 v4)
noncomputable def xs05.t {γ : Type} (ret : ((List (List Int × Int))) → Option γ) (lp1 : (List (List Int × Int)) → Int → Int → Int → Int → Option γ) (v0 : List (List Int × Int)) (v1 : Int) (v2 : Int) (v3 : Int) : Option γ :=
 lp1 (v0) (v1) (v2) (v3) ((0 : Int))
noncomputable def xs05.t1 {γ : Type} (ret : ((List (List Int × Int))) → Option γ) (lp1 : (List (List Int × Int)) → Int → Int → Int → Int → Option γ) (v0 : List (List Int × Int)) (v1 : Int) (v2 : Int) (v3 : Int) (v4 : Int) : Option γ :=
 bif decide (v4 < v3) then
  bif decide ((0 : Int) ≤ IntKind.i64.wrap (v2 + v4)) then
   bif decide ((IntKind.i64.wrap (v2 + v4)).toNat < v0.length) then
    bif decide ((IntKind.i64.wrap (v2 + v4)).toNat < v0.length) then
     bif decide ((0 : Int) ≤ IntKind.i64.wrap (v1 + v4)) then
      bif decide ((IntKind.i64.wrap (v1 + v4)).toNat < v0.length) then
       bif decide ((IntKind.i64.wrap (v1 + v4)).toNat < v0.length) then
        bif decide ((0 : Int) ≤ IntKind.i64.wrap (v1 + v4)) then
         bif decide ((IntKind.i64.wrap (v1 + v4)).toNat < v0.length) then
          bif decide ((IntKind.i64.wrap (v1 + v4)).toNat < v0.length) then
           bif decide ((0 : Int) ≤ IntKind.i64.wrap (v2 + v4)) then
            bif decide   ((IntKind.i64.wrap (v2 + v4)).toNat <     (v0.set (IntKind.i64.wrap (v1 + v4)).toNat         ((v0.getD (IntKind.i64.wrap (v2 + v4)).toNat ([], (0 : Int))).fst,           (v0.getD (IntKind.i64.wrap (v2 + v4)).toNat ([], (0 : Int))).snd)).length) then
             bif decide   ((IntKind.i64.wrap (v2 + v4)).toNat <     (v0.set (IntKind.i64.wrap (v1 + v4)).toNat         ((v0.getD (IntKind.i64.wrap (v2 + v4)).toNat ([], (0 : Int))).fst,           (v0.getD (IntKind.i64.wrap (v2 + v4)).toNat ([], (0 : Int))).snd)).length) then
              lp1 ((v0.set (IntKind.i64.wrap (v1 + v4)).toNat       ((v0.getD (IntKind.i64.wrap (v2 + v4)).toNat ([], (0 : Int))).fst,         (v0.getD (IntKind.i64.wrap (v2 + v4)).toNat ([], (0 : Int))).snd)).set   (IntKind.i64.wrap (v2 + v4)).toNat   ((v0.getD (IntKind.i64.wrap (v1 + v4)).toNat ([], (0 : Int))).fst,     (v0.getD (IntKind.i64.wrap (v1 + v4)).toNat ([], (0 : Int))).snd)) (v1) (v2) (v3) (IntKind.i64.wrap (v4 + (1 : Int)))
             else
              none
            else
             none
           else
            none
          else
           none
         else
          none
        else
         none
       else
        none
      else
       none
     else
      none
    else
     none
   else
    none
  else
   none
 else
  ret (v0)
theorem xs05.k (v0 : List (List Int × Int)) (v1 : Int) (v2 : Int) (v3 : Int) : topL E (callT E tab) 241 Try.f241 (xs05.c v0 v1 v2 v3) = xs05.t (fun b => some (xs05.mk b)) xs05.q1 v0 v1 v2 v3 := by kernel_rfl
theorem xs05.k1 (v0 : List (List Int × Int)) (v1 : Int) (v2 : Int) (v3 : Int) (v4 : Int) : roundL E (callT E tab) 241 Try.f241 5 [.r, .b] (⟨(.val .one), [.d .sha (.sl (.pair (.sl (.int .i64)) (.int .i64))) v0], true, false, false, 0, 0⟩ :: vc (iL v1) :: vc (iL v2) :: vc (iL v3) :: nn 6 (vc (iL v4) :: nn 27 ([]))) = xs05.t1 (fun b => some (xs05.mk b)) xs05.q1 v0 v1 v2 v3 v4 := by kernel_rfl
theorem xs05.eq (v0 : List (List Int × Int)) (v1 : Int) (v2 : Int) (v3 : Int) {b : (List (List Int × Int))} (h : xs05.t some xs05.l1 v0 v1 v2 v3 = some b) : xs05 v0 v1 v2 v3 = some b := tOf_intro xs05.un (fun _ => by kernel_rfl) (vlim_fn (callT_le E tab) rfl rfl rfl ((xs05.k v0 v1 v2 v3).trans ((by unfold xs05.t; repeat' first | exact Sub.ret | exact Sub.none | exact Sub.loop | apply Sub.cond | (apply Sub.bind; intro _) : Sub xs05.mk _ _) b h)))
theorem xs05.eq1 (v0 : List (List Int × Int)) (v1 : Int) (v2 : Int) (v3 : Int) (v4 : Int) {b : (List (List Int × Int))} (h : xs05.t1 some xs05.l1 v0 v1 v2 v3 v4 = some b) : xs05.l1 v0 v1 v2 v3 v4 = some b := tOf_intro xs05.un (fun _ => by kernel_rfl) (loopAtL_step ((xs05.k1 v0 v1 v2 v3 v4).trans ((by unfold xs05.t1; repeat' first | exact Sub.ret | exact Sub.none | exact Sub.loop | apply Sub.cond | (apply Sub.bind; intro _) : Sub xs05.mk _ _) b h)))
noncomputable def xi0n.t {γ : Type} (ret : (Int × (List (List Int × Int))) → Option γ) (v0 : Int) (v1 : List (List Int × Int)) : Option γ :=
 (xi0c (v0) (v1)).bind fun (r0 : Int × (List (List Int × Int))) =>
 ret (r0.fst, r0.snd)
theorem xi0n.k (v0 : Int) (v1 : List (List Int × Int)) : topL E (callT E tab) 106 Try.f106 (xi0n.c v0 v1) = xi0n.t (fun b => some (xi0n.mk b)) v0 v1 := by kernel_rfl
theorem xi0n.eq (v0 : Int) (v1 : List (List Int × Int)) {b : Int × (List (List Int × Int))} (h : xi0n.t some v0 v1 = some b) : xi0n v0 v1 = some b := tOf_intro xi0n.un (fun _ => by kernel_rfl) (vlim_fn (callT_le E tab) rfl rfl rfl ((xi0n.k v0 v1).trans ((by unfold xi0n.t; repeat' first | exact Sub.ret | exact Sub.none | exact Sub.loop | apply Sub.cond | (apply Sub.bind; intro _) : Sub xi0n.mk _ _) b h)))
noncomputable def xi0c.q3 (v0 : Int) (v1 : List (List Int × Int)) (v2 : Int) (v3 : List (List Int × Int)) (v4 : List (List Int × Int)) (v5 : Int) (v6 : Int) : Option R := loopAtL E (callT E tab) 122 Try.f122 2 [.r, .r, .l, .r, .b] (nn 1 (vc (.fn 172 []) :: nn 2 (⟨(.box false), [iL v0, .d .deep (.sl (.pair (.sl (.int .i64)) (.int .i64))) v1], false, false, false, 0, 0⟩ :: ⟨(.box false), [iL v2, .d .deep (.sl (.pair (.sl (.int .i64)) (.int .i64))) v3], false, false, false, 0, 0⟩ :: nn 7 (vc (.d .fro (.sl (.pair (.sl (.int .i64)) (.int .i64))) v4) :: vc (iL v5) :: vc (iL v6) :: nn 20 ([])))))
noncomputable def xi0c.l3 (v0 : Int) (v1 : List (List Int × Int)) (v2 : Int) (v3 : List (List Int × Int)) (v4 : List (List Int × Int)) (v5 : Int) (v6 : Int) : Option (Int × (List (List Int × Int))) := tOf xi0c.mk (xi0c.q3 v0 v1 v2 v3 v4 v5 v6)
noncomputable def xi0c.t {γ : Type} (ret : (Int × (List (List Int × Int))) → Option γ) (lp3 : Int → (List (List Int × Int)) → Int → (List (List Int × Int)) → (List (List Int × Int)) → Int → Int → Option γ) (v0 : Int) (v1 : List (List Int × Int)) : Option γ :=
 lp3 ((0 : Int)) ([]) (v0) ([]) (v1) ((↑v1.length : Int)) ((0 : Int))
noncomputable def xi0c.t3 {γ : Type} (ret : (Int × (List (List Int × Int))) → Option γ) (lp3 : Int → (List (List Int × Int)) → Int → (List (List Int × Int)) → (List (List Int × Int)) → Int → Int → Option γ) (v0 : Int) (v1 : List (List Int × Int)) (v2 : Int) (v3 : List (List Int × Int)) (v4 : List (List Int × Int)) (v5 : Int) (v6 : Int) : Option γ :=
 bif decide (v6 < v5) then
  bif decide ((0 : Int) ≤ v6) then
   bif decide (v6.toNat < v4.length) then
    (xi0k ((v4.getD v6.toNat ([], (0 : Int))).fst) ((v4.getD v6.toNat ([], (0 : Int))).snd)).bind fun (r0 : Int) =>
    bif r0 != (0 : Int) then
     (impl_Row_own ((v4.getD v6.toNat ([], (0 : Int))).fst)).bind fun (r1 : (List Int)) =>
     bif decide (v3.length + [(r1, r0)].length ≤ (4294967296 : Nat)) then
      lp3 (v0) (v1) (v2) (v3 ++ [(r1, r0)]) (v4) (v5) (IntKind.i64.wrap (v6 + (1 : Int)))
     else
      none
    else
     lp3 (v0) (v1) (v2) (v3) (v4) (v5) (IntKind.i64.wrap (v6 + (1 : Int)))
   else
    none
  else
   none
 else
  ret (v2, v3)
theorem xi0c.k (v0 : Int) (v1 : List (List Int × Int)) : topL E (callT E tab) 122 Try.f122 (xi0c.c v0 v1) = xi0c.t (fun b => some (xi0c.mk b)) xi0c.q3 v0 v1 := by kernel_rfl
theorem xi0c.k3 (v0 : Int) (v1 : List (List Int × Int)) (v2 : Int) (v3 : List (List Int × Int)) (v4 : List (List Int × Int)) (v5 : Int) (v6 : Int) : roundL E (callT E tab) 122 Try.f122 2 [.r, .r, .l, .r, .b] (nn 1 (vc (.fn 172 []) :: nn 2 (⟨(.box false), [iL v0, .d .deep (.sl (.pair (.sl (.int .i64)) (.int .i64))) v1], false, false, false, 0, 0⟩ :: ⟨(.box false), [iL v2, .d .deep (.sl (.pair (.sl (.int .i64)) (.int .i64))) v3], false, false, false, 0, 0⟩ :: nn 7 (vc (.d .fro (.sl (.pair (.sl (.int .i64)) (.int .i64))) v4) :: vc (iL v5) :: vc (iL v6) :: nn 20 ([]))))) = xi0c.t3 (fun b => some (xi0c.mk b)) xi0c.q3 v0 v1 v2 v3 v4 v5 v6 := by kernel_rfl
theorem xi0c.eq (v0 : Int) (v1 : List (List Int × Int)) {b : Int × (List (List Int × Int))} (h : xi0c.t some xi0c.l3 v0 v1 = some b) : xi0c v0 v1 = some b := tOf_intro xi0c.un (fun _ => by kernel_rfl) (vlim_fn (callT_le E tab) rfl rfl rfl ((xi0c.k v0 v1).trans ((by unfold xi0c.t; repeat' first | exact Sub.ret | exact Sub.none | exact Sub.loop | apply Sub.cond | (apply Sub.bind; intro _) : Sub xi0c.mk _ _) b h)))
theorem xi0c.eq3 (v0 : Int) (v1 : List (List Int × Int)) (v2 : Int) (v3 : List (List Int × Int)) (v4 : List (List Int × Int)) (v5 : Int) (v6 : Int) {b : Int × (List (List Int × Int))} (h : xi0c.t3 some xi0c.l3 v0 v1 v2 v3 v4 v5 v6 = some b) : xi0c.l3 v0 v1 v2 v3 v4 v5 v6 = some b := tOf_intro xi0c.un (fun _ => by kernel_rfl) (loopAtL_step ((xi0c.k3 v0 v1 v2 v3 v4 v5 v6).trans ((by unfold xi0c.t3; repeat' first | exact Sub.ret | exact Sub.none | exact Sub.loop | apply Sub.cond | (apply Sub.bind; intro _) : Sub xi0c.mk _ _) b h)))
noncomputable def xi0k.t {γ : Type} (ret : (Int) → Option γ) (v0 : List Int) (v1 : Int) : Option γ :=
 (impl_one (v1)).bind fun (r0 : Int) =>
 ret (r0)
theorem xi0k.k (v0 : List Int) (v1 : Int) : topL E (callT E tab) 172 Try.f172 (xi0k.c v0 v1) = xi0k.t (fun b => some (xi0k.mk b)) v0 v1 := by kernel_rfl
theorem xi0k.eq (v0 : List Int) (v1 : Int) {b : Int} (h : xi0k.t some v0 v1 = some b) : xi0k v0 v1 = some b := tOf_intro xi0k.un (fun _ => by kernel_rfl) (vlim_fn (callT_le E tab) rfl rfl rfl ((xi0k.k v0 v1).trans ((by unfold xi0k.t; repeat' first | exact Sub.ret | exact Sub.none | exact Sub.loop | apply Sub.cond | (apply Sub.bind; intro _) : Sub xi0k.mk _ _) b h)))
noncomputable def impl_one.t {γ : Type} (ret : (Int) → Option γ) (v0 : Int) : Option γ :=
 bif decide (v0 > (0 : Int)) then
  ret ((1 : Int))
 else
  ret ((0 : Int))
theorem impl_one.k (v0 : Int) : topL E (callT E tab) 125 Try.f125 (impl_one.c v0) = impl_one.t (fun b => some (impl_one.mk b)) v0 := by kernel_rfl
theorem impl_one.eq (v0 : Int) {b : Int} (h : impl_one.t some v0 = some b) : impl_one v0 = some b := tOf_intro impl_one.un (fun _ => by kernel_rfl) (vlim_fn (callT_le E tab) rfl rfl rfl ((impl_one.k v0).trans ((by unfold impl_one.t; repeat' first | exact Sub.ret | exact Sub.none | exact Sub.loop | apply Sub.cond | (apply Sub.bind; intro _) : Sub impl_one.mk _ _) b h)))
noncomputable def xi0o.t {γ : Type} (ret : (Int × (List (List Int × Int)) × Bool) → Option γ) (v0 : Int) (v1 : List (List Int × Int)) : Option γ :=
 (impl_GoodTable (v0) (v1)).bind fun (r0 : Bool) =>
 bif !r0 then
  ret ((0 : Int), [], Bool.false)
 else
  ret (v0, v1, Bool.true)
theorem xi0o.k (v0 : Int) (v1 : List (List Int × Int)) : topL E (callT E tab) 185 Try.f185 (xi0o.c v0 v1) = xi0o.t (fun b => some (xi0o.mk b)) v0 v1 := by kernel_rfl
theorem xi0o.eq (v0 : Int) (v1 : List (List Int × Int)) {b : Int × (List (List Int × Int)) × Bool} (h : xi0o.t some v0 v1 = some b) : xi0o v0 v1 = some b := tOf_intro xi0o.un (fun _ => by kernel_rfl) (vlim_fn (callT_le E tab) rfl rfl rfl ((xi0o.k v0 v1).trans ((by unfold xi0o.t; repeat' first | exact Sub.ret | exact Sub.none | exact Sub.loop | apply Sub.cond | (apply Sub.bind; intro _) : Sub xi0o.mk _ _) b h)))
noncomputable def xl0h.t {γ : Type} (ret : (Bool) → Option γ) (v0 : Int) (v1 : List (List Int × Int)) (v2 : List (List Int)) : Option γ :=
 (laws_szTable (v0) (v1) ((1048576 : Int))).bind fun (r0 : Int) =>
 bif decide (r0 < (0 : Int)) then
  ret (Bool.true)
 else
  (laws_szIntSS (v2) (r0)).bind fun (r1 : Int) =>
  bif decide (r1 < (0 : Int)) then
   ret (Bool.true)
  else
   (laws_toTable (v0) (v1)).bind fun (r2 : Int × (List (List Int × Int))) =>
   (laws_toIntSS (v2)).bind fun (r3 : (List (List Int))) =>
   (spec_PartTables (r2.fst) (r2.snd) (r3)).bind fun (r4 : (List (Int × List (List Int × Int))) × Bool) =>
   (laws_toTable (v0) (v1)).bind fun (r5 : Int × (List (List Int × Int))) =>
   (laws_toIntSS (v2)).bind fun (r6 : (List (List Int))) =>
   (impl_PartTables (r5.fst) (r5.snd) (r6)).bind fun (r7 : (List (Int × List (List Int × Int))) × Bool) =>
   (laws_eqTableS (r7.fst) (r4.fst)).bind fun (r8 : Bool) =>
   bif !r8 then
    ret (Bool.false)
   else
    bif !r7.snd == r4.snd then
     ret (Bool.false)
    else
     (laws_toTable (v0) (v1)).bind fun (r9 : Int × (List (List Int × Int))) =>
     (laws_eqTable (r5.fst) (r5.snd) (r9.fst) (r9.snd)).bind fun (r10 : Bool) =>
     bif !r10 then
      ret (Bool.false)
     else
      (laws_toIntSS (v2)).bind fun (r11 : (List (List Int))) =>
      (laws_eqIntSS (r6) (r11)).bind fun (r12 : Bool) =>
      bif !r12 then
       ret (Bool.false)
      else
       (laws_markTable_d7a (r5.fst) (r5.snd) ((1 : Int))).bind fun (r13 : Int × Int × (List (List Int × Int))) =>
       (laws_markIntSS_1f6 (r6) (r13.fst)).bind fun (r14 : Int × (List (List Int))) =>
       bif decide (r14.fst < (0 : Int)) then
        ret (Bool.false)
       else
        (laws_eqTableS (r7.fst) (r4.fst)).bind fun (r15 : Bool) =>
        bif !r15 then
         ret (Bool.false)
        else
         bif !r7.snd == r4.snd then
          ret (Bool.false)
         else
          (xl0p (r7.fst) ((1 : Int))).bind fun (r16 : Int × (List (Int × List (List Int × Int)))) =>
          (laws_heldTableS (r16.snd) ((1 : Int))).bind fun (r17 : Int) =>
          bif decide (r17 < (0 : Int)) then
           ret (Bool.false)
          else
           bif r17 != r16.fst then
            ret (Bool.false)
           else
            (laws_toTable (v0) (v1)).bind fun (r18 : Int × (List (List Int × Int))) =>
            (laws_toIntSS (v2)).bind fun (r19 : (List (List Int))) =>
            (impl_PartTables (r18.fst) (r18.snd) (r19)).bind fun (r20 : (List (Int × List (List Int × Int))) × Bool) =>
            (laws_eqTableS (r20.fst) (r4.fst)).bind fun (r21 : Bool) =>
            bif !r21 then
             ret (Bool.false)
            else
             bif !r20.snd == r4.snd then
              ret (Bool.false)
             else
              (laws_heldTableS (r16.snd) ((1 : Int))).bind fun (r22 : Int) =>
              bif decide (r22 < (0 : Int)) then
               ret (Bool.false)
              else
               bif r22 != r16.fst then
                ret (Bool.false)
               else
                ret (Bool.true)
theorem xl0h.k (v0 : Int) (v1 : List (List Int × Int)) (v2 : List (List Int)) : topL E (callT E tab) 12 Try.f12 (xl0h.c v0 v1 v2) = xl0h.t (fun b => some (xl0h.mk b)) v0 v1 v2 := by kernel_rfl
theorem xl0h.eq (v0 : Int) (v1 : List (List Int × Int)) (v2 : List (List Int)) {b : Bool} (h : xl0h.t some v0 v1 v2 = some b) : xl0h v0 v1 v2 = some b := tOf_intro xl0h.un (fun _ => by kernel_rfl) (vlim_fn (callT_le E tab) rfl rfl rfl ((xl0h.k v0 v1 v2).trans ((by unfold xl0h.t; repeat' first | exact Sub.ret | exact Sub.none | exact Sub.loop | apply Sub.cond | (apply Sub.bind; intro _) : Sub xl0h.mk _ _) b h)))
noncomputable def spec_PartTables.q5 (v0 : Int) (v1 : List (List Int × Int)) (v2 : List (Int × List (List Int × Int))) (v3 : List (List Int)) (v4 : Int) (v5 : Int) : Option R := loopAtL E (callT E tab) 59 Try.f59 2 [.r, .r, .r, .l, .r, .b] (nn 2 (⟨(.box false), [iL v0, .d .fro (.sl (.pair (.sl (.int .i64)) (.int .i64))) v1], false, false, false, 0, 0⟩ :: nn 3 (vc (.d .deep (.sl (.pair (.int .i64) (.sl (.pair (.sl (.int .i64)) (.int .i64))))) v2) :: nn 16 (vc (.d .fro (.sl (.sl (.int .i64))) v3) :: vc (iL v4) :: vc (iL v5) :: nn 22 ([])))))
noncomputable def spec_PartTables.l5 (v0 : Int) (v1 : List (List Int × Int)) (v2 : List (Int × List (List Int × Int))) (v3 : List (List Int)) (v4 : Int) (v5 : Int) : Option ((List (Int × List (List Int × Int))) × Bool) := tOf spec_PartTables.mk (spec_PartTables.q5 v0 v1 v2 v3 v4 v5)
noncomputable def spec_PartTables.t {γ : Type} (ret : ((List (Int × List (List Int × Int))) × Bool) → Option γ) (lp5 : Int → (List (List Int × Int)) → (List (Int × List (List Int × Int))) → (List (List Int)) → Int → Int → Option γ) (v0 : Int) (v1 : List (List Int × Int)) (v2 : List (List Int)) : Option γ :=
 (spec_GoodTable (v0) (v1)).bind fun (r0 : Bool) =>
 bif !r0 then
  ret ([], Bool.false)
 else
  (spec_GoodParts (v2) (v0)).bind fun (r1 : Bool) =>
  bif !r1 then
   ret ([], Bool.false)
  else
   lp5 (v0) (v1) ([]) (v2) ((↑v2.length : Int)) ((0 : Int))
noncomputable def spec_PartTables.t5 {γ : Type} (ret : ((List (Int × List (List Int × Int))) × Bool) → Option γ) (lp5 : Int → (List (List Int × Int)) → (List (Int × List (List Int × Int))) → (List (List Int)) → Int → Int → Option γ) (v0 : Int) (v1 : List (List Int × Int)) (v2 : List (Int × List (List Int × Int))) (v3 : List (List Int)) (v4 : Int) (v5 : Int) : Option γ :=
 bif decide (v5 < v4) then
  bif decide ((0 : Int) ≤ v5) then
   bif decide (v5.toNat < v3.length) then
    (spec_ProjectTable (v0) (v1) (v3.getD v5.toNat [])).bind fun (r2 : Int × (List (List Int × Int)) × Bool) =>
    bif !r2.snd.snd then
     ret ([], Bool.false)
    else
     (spec_DistinctTable (r2.fst) (r2.snd.fst)).bind fun (r3 : Int × (List (List Int × Int)) × Bool) =>
     bif decide (v2.length + [(r3.fst, r3.snd.fst)].length ≤ (4294967296 : Nat)) then
      lp5 (v0) (v1) (v2 ++ [(r3.fst, r3.snd.fst)]) (v3) (v4) (IntKind.i64.wrap (v5 + (1 : Int)))
     else
      none
   else
    none
  else
   none
 else
  ret (v2, Bool.true)
theorem spec_PartTables.k (v0 : Int) (v1 : List (List Int × Int)) (v2 : List (List Int)) : topL E (callT E tab) 59 Try.f59 (spec_PartTables.c v0 v1 v2) = spec_PartTables.t (fun b => some (spec_PartTables.mk b)) spec_PartTables.q5 v0 v1 v2 := by kernel_rfl
theorem spec_PartTables.k5 (v0 : Int) (v1 : List (List Int × Int)) (v2 : List (Int × List (List Int × Int))) (v3 : List (List Int)) (v4 : Int) (v5 : Int) : roundL E (callT E tab) 59 Try.f59 2 [.r, .r, .r, .l, .r, .b] (nn 2 (⟨(.box false), [iL v0, .d .fro (.sl (.pair (.sl (.int .i64)) (.int .i64))) v1], false, false, false, 0, 0⟩ :: nn 3 (vc (.d .deep (.sl (.pair (.int .i64) (.sl (.pair (.sl (.int .i64)) (.int .i64))))) v2) :: nn 16 (vc (.d .fro (.sl (.sl (.int .i64))) v3) :: vc (iL v4) :: vc (iL v5) :: nn 22 ([]))))) = spec_PartTables.t5 (fun b => some (spec_PartTables.mk b)) spec_PartTables.q5 v0 v1 v2 v3 v4 v5 := by kernel_rfl
theorem spec_PartTables.eq (v0 : Int) (v1 : List (List Int × Int)) (v2 : List (List Int)) {b : (List (Int × List (List Int × Int))) × Bool} (h : spec_PartTables.t some spec_PartTables.l5 v0 v1 v2 = some b) : spec_PartTables v0 v1 v2 = some b := tOf_intro spec_PartTables.un (fun _ => by kernel_rfl) (vlim_fn (callT_le E tab) rfl rfl rfl ((spec_PartTables.k v0 v1 v2).trans ((by unfold spec_PartTables.t; repeat' first | exact Sub.ret | exact Sub.none | exact Sub.loop | apply Sub.cond | (apply Sub.bind; intro _) : Sub spec_PartTables.mk _ _) b h)))
theorem spec_PartTables.eq5 (v0 : Int) (v1 : List (List Int × Int)) (v2 : List (Int × List (List Int × Int))) (v3 : List (List Int)) (v4 : Int) (v5 : Int) {b : (List (Int × List (List Int × Int))) × Bool} (h : spec_PartTables.t5 some spec_PartTables.l5 v0 v1 v2 v3 v4 v5 = some b) : spec_PartTables.l5 v0 v1 v2 v3 v4 v5 = some b := tOf_intro spec_PartTables.un (fun _ => by kernel_rfl) (loopAtL_step ((spec_PartTables.k5 v0 v1 v2 v3 v4 v5).trans ((by unfold spec_PartTables.t5; repeat' first | exact Sub.ret | exact Sub.none | exact Sub.loop | apply Sub.cond | (apply Sub.bind; intro _) : Sub spec_PartTables.mk _ _) b h)))
noncomputable def spec_GoodParts.q8 (v0 : List (List Int)) (v1 : Int) (v2 : List Int) (v3 : List (List Int)) (v4 : Int) (v5 : Int) (v6 : List Int) (v7 : Int) (v8 : Int) : Option R := loopAtL E (callT E tab) 128 Try.f128 2 [.r, .r, .l, .r, .b, .o, .r, .r, .l, .b, .r, .r, .r, .b] (vc (.d .fro (.sl (.sl (.int .i64))) v0) :: vc (iL v1) :: nn 3 (vc (.d .fro (.sl (.int .i64)) v2) :: nn 4 (vc (.d .fro (.sl (.sl (.int .i64))) v3) :: vc (iL v4) :: vc (iL v5) :: nn 12 (vc (.d .fro (.sl (.int .i64)) v6) :: vc (iL v7) :: vc (iL v8) :: nn 21 ([])))))
noncomputable def spec_GoodParts.l8 (v0 : List (List Int)) (v1 : Int) (v2 : List Int) (v3 : List (List Int)) (v4 : Int) (v5 : Int) (v6 : List Int) (v7 : Int) (v8 : Int) : Option (Bool) := tOf spec_GoodParts.mk (spec_GoodParts.q8 v0 v1 v2 v3 v4 v5 v6 v7 v8)
noncomputable def spec_GoodParts.q3 (v0 : List (List Int)) (v1 : Int) (v2 : List Int) (v3 : List (List Int)) (v4 : Int) (v5 : Int) : Option R := loopAtL E (callT E tab) 128 Try.f128 2 [.r, .r, .l, .r, .b] (vc (.d .fro (.sl (.sl (.int .i64))) v0) :: vc (iL v1) :: nn 3 (vc (.d .fro (.sl (.int .i64)) v2) :: nn 4 (vc (.d .fro (.sl (.sl (.int .i64))) v3) :: vc (iL v4) :: vc (iL v5) :: nn 36 ([]))))
noncomputable def spec_GoodParts.l3 (v0 : List (List Int)) (v1 : Int) (v2 : List Int) (v3 : List (List Int)) (v4 : Int) (v5 : Int) : Option (Bool) := tOf spec_GoodParts.mk (spec_GoodParts.q3 v0 v1 v2 v3 v4 v5)
noncomputable def spec_GoodParts.t {γ : Type} (ret : (Bool) → Option γ) (lp8 : (List (List Int)) → Int → (List Int) → (List (List Int)) → Int → Int → (List Int) → Int → Int → Option γ) (lp3 : (List (List Int)) → Int → (List Int) → (List (List Int)) → Int → Int → Option γ) (v0 : List (List Int)) (v1 : Int) : Option γ :=
 lp3 (v0) (v1) ([]) (v0) ((↑v0.length : Int)) ((0 : Int))
noncomputable def spec_GoodParts.t8 {γ : Type} (ret : (Bool) → Option γ) (lp8 : (List (List Int)) → Int → (List Int) → (List (List Int)) → Int → Int → (List Int) → Int → Int → Option γ) (lp3 : (List (List Int)) → Int → (List Int) → (List (List Int)) → Int → Int → Option γ) (v0 : List (List Int)) (v1 : Int) (v2 : List Int) (v3 : List (List Int)) (v4 : Int) (v5 : Int) (v6 : List Int) (v7 : Int) (v8 : Int) : Option γ :=
 bif decide (v8 < v7) then
  bif decide ((0 : Int) ≤ v8) then
   bif decide (v8.toNat < v6.length) then
    (spec_l7Put (v2) (v6.getD v8.toNat (0 : Int))).bind fun (r1 : (List Int)) =>
    lp8 (v0) (v1) (r1) (v3) (v4) (v5) (v6) (v7) (IntKind.i64.wrap (v8 + (1 : Int)))
   else
    none
  else
   none
 else
  lp3 (v0) (v1) (v2) (v3) (v4) (IntKind.i64.wrap (v5 + (1 : Int)))
noncomputable def spec_GoodParts.t3 {γ : Type} (ret : (Bool) → Option γ) (lp8 : (List (List Int)) → Int → (List Int) → (List (List Int)) → Int → Int → (List Int) → Int → Int → Option γ) (lp3 : (List (List Int)) → Int → (List Int) → (List (List Int)) → Int → Int → Option γ) (v0 : List (List Int)) (v1 : Int) (v2 : List Int) (v3 : List (List Int)) (v4 : Int) (v5 : Int) : Option γ :=
 bif decide (v5 < v4) then
  bif decide ((0 : Int) ≤ v5) then
   bif decide (v5.toNat < v3.length) then
    (spec_l1Some (v3.getD v5.toNat []) (v1)).bind fun (r0 : Bool) =>
    bif !r0 then
     ret (Bool.false)
    else
     bif (↑(v3.getD v5.toNat []).length : Int) == (0 : Int) then
      ret (Bool.false)
     else
      lp8 (v0) (v1) (v2) (v3) (v4) (v5) (v3.getD v5.toNat []) ((↑(v3.getD v5.toNat []).length : Int)) ((0 : Int))
   else
    none
  else
   none
 else
  (spec_l1In (v1) ((1 : Int)) ((6 : Int))).bind fun (r2 : Bool) =>
  bif r2 then
   (spec_l1In ((↑v0.length : Int)) ((1 : Int)) ((8 : Int))).bind fun (r3 : Bool) =>
   bif r3 then
    ret ((↑v2.length : Int) == v1)
   else
    ret (Bool.false)
  else
   ret (Bool.false)
theorem spec_GoodParts.k (v0 : List (List Int)) (v1 : Int) : topL E (callT E tab) 128 Try.f128 (spec_GoodParts.c v0 v1) = spec_GoodParts.t (fun b => some (spec_GoodParts.mk b)) spec_GoodParts.q8 spec_GoodParts.q3 v0 v1 := by kernel_rfl
theorem spec_GoodParts.k8 (v0 : List (List Int)) (v1 : Int) (v2 : List Int) (v3 : List (List Int)) (v4 : Int) (v5 : Int) (v6 : List Int) (v7 : Int) (v8 : Int) : roundL E (callT E tab) 128 Try.f128 2 [.r, .r, .l, .r, .b, .o, .r, .r, .l, .b, .r, .r, .r, .b] (vc (.d .fro (.sl (.sl (.int .i64))) v0) :: vc (iL v1) :: nn 3 (vc (.d .fro (.sl (.int .i64)) v2) :: nn 4 (vc (.d .fro (.sl (.sl (.int .i64))) v3) :: vc (iL v4) :: vc (iL v5) :: nn 12 (vc (.d .fro (.sl (.int .i64)) v6) :: vc (iL v7) :: vc (iL v8) :: nn 21 ([]))))) = spec_GoodParts.t8 (fun b => some (spec_GoodParts.mk b)) spec_GoodParts.q8 spec_GoodParts.q3 v0 v1 v2 v3 v4 v5 v6 v7 v8 := by kernel_rfl
theorem spec_GoodParts.k3 (v0 : List (List Int)) (v1 : Int) (v2 : List Int) (v3 : List (List Int)) (v4 : Int) (v5 : Int) : roundL E (callT E tab) 128 Try.f128 2 [.r, .r, .l, .r, .b] (vc (.d .fro (.sl (.sl (.int .i64))) v0) :: vc (iL v1) :: nn 3 (vc (.d .fro (.sl (.int .i64)) v2) :: nn 4 (vc (.d .fro (.sl (.sl (.int .i64))) v3) :: vc (iL v4) :: vc (iL v5) :: nn 36 ([])))) = spec_GoodParts.t3 (fun b => some (spec_GoodParts.mk b)) spec_GoodParts.q8 spec_GoodParts.q3 v0 v1 v2 v3 v4 v5 := by kernel_rfl
theorem spec_GoodParts.eq (v0 : List (List Int)) (v1 : Int) {b : Bool} (h : spec_GoodParts.t some spec_GoodParts.l8 spec_GoodParts.l3 v0 v1 = some b) : spec_GoodParts v0 v1 = some b := tOf_intro spec_GoodParts.un (fun _ => by kernel_rfl) (vlim_fn (callT_le E tab) rfl rfl rfl ((spec_GoodParts.k v0 v1).trans ((by unfold spec_GoodParts.t; repeat' first | exact Sub.ret | exact Sub.none | exact Sub.loop | apply Sub.cond | (apply Sub.bind; intro _) : Sub spec_GoodParts.mk _ _) b h)))
theorem spec_GoodParts.eq8 (v0 : List (List Int)) (v1 : Int) (v2 : List Int) (v3 : List (List Int)) (v4 : Int) (v5 : Int) (v6 : List Int) (v7 : Int) (v8 : Int) {b : Bool} (h : spec_GoodParts.t8 some spec_GoodParts.l8 spec_GoodParts.l3 v0 v1 v2 v3 v4 v5 v6 v7 v8 = some b) : spec_GoodParts.l8 v0 v1 v2 v3 v4 v5 v6 v7 v8 = some b := tOf_intro spec_GoodParts.un (fun _ => by kernel_rfl) (loopAtL_step ((spec_GoodParts.k8 v0 v1 v2 v3 v4 v5 v6 v7 v8).trans ((by unfold spec_GoodParts.t8; repeat' first | exact Sub.ret | exact Sub.none | exact Sub.loop | apply Sub.cond | (apply Sub.bind; intro _) : Sub spec_GoodParts.mk _ _) b h)))
theorem spec_GoodParts.eq3 (v0 : List (List Int)) (v1 : Int) (v2 : List Int) (v3 : List (List Int)) (v4 : Int) (v5 : Int) {b : Bool} (h : spec_GoodParts.t3 some spec_GoodParts.l8 spec_GoodParts.l3 v0 v1 v2 v3 v4 v5 = some b) : spec_GoodParts.l3 v0 v1 v2 v3 v4 v5 = some b := tOf_intro spec_GoodParts.un (fun _ => by kernel_rfl) (loopAtL_step ((spec_GoodParts.k3 v0 v1 v2 v3 v4 v5).trans ((by unfold spec_GoodParts.t3; repeat' first | exact Sub.ret | exact Sub.none | exact Sub.loop | apply Sub.cond | (apply Sub.bind; intro _) : Sub spec_GoodParts.mk _ _) b h)))
noncomputable def spec_l1Some.q2 (v0 : List Int) (v1 : Int) (v2 : List Int) (v3 : Int) (v4 : Int) : Option R := loopAtL E (callT E tab) 188 Try.f188 2 [.r, .l, .r, .b] (vc (.d .fro (.sl (.int .i64)) v0) :: vc (iL v1) :: nn 5 (vc (.d .fro (.sl (.int .i64)) v2) :: vc (iL v3) :: vc (iL v4) :: nn 25 ([])))
noncomputable def spec_l1Some.l2 (v0 : List Int) (v1 : Int) (v2 : List Int) (v3 : Int) (v4 : Int) : Option (Bool) := tOf spec_l1Some.mk (spec_l1Some.q2 v0 v1 v2 v3 v4)
noncomputable def spec_l1Some.t {γ : Type} (ret : (Bool) → Option γ) (lp2 : (List Int) → Int → (List Int) → Int → Int → Option γ) (v0 : List Int) (v1 : Int) : Option γ :=
 lp2 (v0) (v1) (v0) ((↑v0.length : Int)) ((0 : Int))
noncomputable def spec_l1Some.t2 {γ : Type} (ret : (Bool) → Option γ) (lp2 : (List Int) → Int → (List Int) → Int → Int → Option γ) (v0 : List Int) (v1 : Int) (v2 : List Int) (v3 : Int) (v4 : Int) : Option γ :=
 bif decide (v4 < v3) then
  bif decide ((0 : Int) ≤ v4) then
   bif decide (v4.toNat < v2.length) then
    bif decide (v2.getD v4.toNat (0 : Int) < (0 : Int)) then
     ret (Bool.false)
    else
     bif decide (v2.getD v4.toNat (0 : Int) ≥ v1) then
      ret (Bool.false)
     else
      bif decide (v4 > (0 : Int)) then
       bif decide ((0 : Int) ≤ IntKind.i64.wrap (v4 - (1 : Int))) then
        bif decide ((IntKind.i64.wrap (v4 - (1 : Int))).toNat < v0.length) then
         bif decide (v0.getD (IntKind.i64.wrap (v4 - (1 : Int))).toNat (0 : Int) ≥ v2.getD v4.toNat (0 : Int)) then
          ret (Bool.false)
         else
          lp2 (v0) (v1) (v2) (v3) (IntKind.i64.wrap (v4 + (1 : Int)))
        else
         none
       else
        none
      else
       lp2 (v0) (v1) (v2) (v3) (IntKind.i64.wrap (v4 + (1 : Int)))
   else
    none
  else
   none
 else
  ret (Bool.true)
theorem spec_l1Some.k (v0 : List Int) (v1 : Int) : topL E (callT E tab) 188 Try.f188 (spec_l1Some.c v0 v1) = spec_l1Some.t (fun b => some (spec_l1Some.mk b)) spec_l1Some.q2 v0 v1 := by kernel_rfl
theorem spec_l1Some.k2 (v0 : List Int) (v1 : Int) (v2 : List Int) (v3 : Int) (v4 : Int) : roundL E (callT E tab) 188 Try.f188 2 [.r, .l, .r, .b] (vc (.d .fro (.sl (.int .i64)) v0) :: vc (iL v1) :: nn 5 (vc (.d .fro (.sl (.int .i64)) v2) :: vc (iL v3) :: vc (iL v4) :: nn 25 ([]))) = spec_l1Some.t2 (fun b => some (spec_l1Some.mk b)) spec_l1Some.q2 v0 v1 v2 v3 v4 := by kernel_rfl
theorem spec_l1Some.eq (v0 : List Int) (v1 : Int) {b : Bool} (h : spec_l1Some.t some spec_l1Some.l2 v0 v1 = some b) : spec_l1Some v0 v1 = some b := tOf_intro spec_l1Some.un (fun _ => by kernel_rfl) (vlim_fn (callT_le E tab) rfl rfl rfl ((spec_l1Some.k v0 v1).trans ((by unfold spec_l1Some.t; repeat' first | exact Sub.ret | exact Sub.none | exact Sub.loop | apply Sub.cond | (apply Sub.bind; intro _) : Sub spec_l1Some.mk _ _) b h)))
theorem spec_l1Some.eq2 (v0 : List Int) (v1 : Int) (v2 : List Int) (v3 : Int) (v4 : Int) {b : Bool} (h : spec_l1Some.t2 some spec_l1Some.l2 v0 v1 v2 v3 v4 = some b) : spec_l1Some.l2 v0 v1 v2 v3 v4 = some b := tOf_intro spec_l1Some.un (fun _ => by kernel_rfl) (loopAtL_step ((spec_l1Some.k2 v0 v1 v2 v3 v4).trans ((by unfold spec_l1Some.t2; repeat' first | exact Sub.ret | exact Sub.none | exact Sub.loop | apply Sub.cond | (apply Sub.bind; intro _) : Sub spec_l1Some.mk _ _) b h)))
noncomputable def spec_l7Put.q4 (v0 : List Int) (v1 : Int) (v2 : Int) : Option R := loopAtL E (callT E tab) 189 Try.f189 2 [.r, .r, .r, .l, .b] (vc (.d .fro (.sl (.int .i64)) v0) :: vc (iL v1) :: nn 3 (vc (iL v2) :: nn 33 ([])))
noncomputable def spec_l7Put.l4 (v0 : List Int) (v1 : Int) (v2 : Int) : Option ((List Int)) := tOf spec_l7Put.mk (spec_l7Put.q4 v0 v1 v2)
noncomputable def spec_l7Put.t {γ : Type} (ret : ((List Int)) → Option γ) (lp4 : (List Int) → Int → Int → Option γ) (v0 : List Int) (v1 : Int) : Option γ :=
 (spec_l1Has (v0) (v1)).bind fun (r0 : Bool) =>
 bif r0 then
  ret (v0)
 else
  lp4 (v0) (v1) ((0 : Int))
noncomputable def spec_l7Put.t4 {γ : Type} (ret : ((List Int)) → Option γ) (lp4 : (List Int) → Int → Int → Option γ) (v0 : List Int) (v1 : Int) (v2 : Int) : Option γ :=
 bif decide (v2 < (↑v0.length : Int)) then
  bif decide ((0 : Int) ≤ v2) then
   bif decide (v2.toNat < v0.length) then
    bif decide (v0.getD v2.toNat (0 : Int) < v1) then
     lp4 (v0) (v1) (IntKind.i64.wrap (v2 + (1 : Int)))
    else
     bif decide (Option.none.getD (0 : Int) ≤ v2) then
      bif decide (v2 ≤ (↑v0.length : Int)) then
       bif decide   ((List.take (v2 - Option.none.getD (0 : Int)).toNat (List.drop (Option.none.getD (0 : Int)).toNat v0)).length ≤     (4294967296 : Nat)) then
        bif decide   ((List.take (v2 - Option.none.getD (0 : Int)).toNat (List.drop (Option.none.getD (0 : Int)).toNat v0)).length +       [v1].length ≤     (4294967296 : Nat)) then
         bif decide ((0 : Int) ≤ (Option.some v2).getD (0 : Int)) then
          bif decide ((Option.some v2).getD (0 : Int) ≤ (↑v0.length : Int)) then
           bif decide   ((List.take (v2 - Option.none.getD (0 : Int)).toNat (List.drop (Option.none.getD (0 : Int)).toNat v0) ++           [v1]).length +       (List.drop ((Option.some v2).getD (0 : Int)).toNat v0).length ≤     (4294967296 : Nat)) then
            ret (List.take (v2 - Option.none.getD (0 : Int)).toNat (List.drop (Option.none.getD (0 : Int)).toNat v0) ++ [v1] ++   List.drop ((Option.some v2).getD (0 : Int)).toNat v0)
           else
            none
          else
           none
         else
          none
        else
         none
       else
        none
      else
       none
     else
      none
   else
    none
  else
   none
 else
  bif decide (Option.none.getD (0 : Int) ≤ v2) then
   bif decide (v2 ≤ (↑v0.length : Int)) then
    bif decide   ((List.take (v2 - Option.none.getD (0 : Int)).toNat (List.drop (Option.none.getD (0 : Int)).toNat v0)).length ≤     (4294967296 : Nat)) then
     bif decide   ((List.take (v2 - Option.none.getD (0 : Int)).toNat (List.drop (Option.none.getD (0 : Int)).toNat v0)).length +       [v1].length ≤     (4294967296 : Nat)) then
      bif decide ((0 : Int) ≤ (Option.some v2).getD (0 : Int)) then
       bif decide ((Option.some v2).getD (0 : Int) ≤ (↑v0.length : Int)) then
        bif decide   ((List.take (v2 - Option.none.getD (0 : Int)).toNat (List.drop (Option.none.getD (0 : Int)).toNat v0) ++           [v1]).length +       (List.drop ((Option.some v2).getD (0 : Int)).toNat v0).length ≤     (4294967296 : Nat)) then
         ret (List.take (v2 - Option.none.getD (0 : Int)).toNat (List.drop (Option.none.getD (0 : Int)).toNat v0) ++ [v1] ++   List.drop ((Option.some v2).getD (0 : Int)).toNat v0)
        else
         none
       else
        none
      else
       none
     else
      none
    else
     none
   else
    none
  else
   none
theorem spec_l7Put.k (v0 : List Int) (v1 : Int) : topL E (callT E tab) 189 Try.f189 (spec_l7Put.c v0 v1) = spec_l7Put.t (fun b => some (spec_l7Put.mk b)) spec_l7Put.q4 v0 v1 := by kernel_rfl
theorem spec_l7Put.k4 (v0 : List Int) (v1 : Int) (v2 : Int) : roundL E (callT E tab) 189 Try.f189 2 [.r, .r, .r, .l, .b] (vc (.d .fro (.sl (.int .i64)) v0) :: vc (iL v1) :: nn 3 (vc (iL v2) :: nn 33 ([]))) = spec_l7Put.t4 (fun b => some (spec_l7Put.mk b)) spec_l7Put.q4 v0 v1 v2 := by kernel_rfl
theorem spec_l7Put.eq (v0 : List Int) (v1 : Int) {b : (List Int)} (h : spec_l7Put.t some spec_l7Put.l4 v0 v1 = some b) : spec_l7Put v0 v1 = some b := tOf_intro spec_l7Put.un (fun _ => by kernel_rfl) (vlim_fn (callT_le E tab) rfl rfl rfl ((spec_l7Put.k v0 v1).trans ((by unfold spec_l7Put.t; repeat' first | exact Sub.ret | exact Sub.none | exact Sub.loop | apply Sub.cond | (apply Sub.bind; intro _) : Sub spec_l7Put.mk _ _) b h)))
theorem spec_l7Put.eq4 (v0 : List Int) (v1 : Int) (v2 : Int) {b : (List Int)} (h : spec_l7Put.t4 some spec_l7Put.l4 v0 v1 v2 = some b) : spec_l7Put.l4 v0 v1 v2 = some b := tOf_intro spec_l7Put.un (fun _ => by kernel_rfl) (loopAtL_step ((spec_l7Put.k4 v0 v1 v2).trans ((by unfold spec_l7Put.t4; repeat' first | exact Sub.ret | exact Sub.none | exact Sub.loop | apply Sub.cond | (apply Sub.bind; intro _) : Sub spec_l7Put.mk _ _) b h)))
noncomputable def spec_l1Has.q2 (v0 : Int) (v1 : List Int) (v2 : Int) (v3 : Int) : Option R := loopAtL E (callT E tab) 221 Try.f221 2 [.r, .l, .r, .b] (nn 1 (vc (iL v0) :: nn 5 (vc (.d .fro (.sl (.int .i64)) v1) :: vc (iL v2) :: vc (iL v3) :: nn 7 ([]))))
noncomputable def spec_l1Has.l2 (v0 : Int) (v1 : List Int) (v2 : Int) (v3 : Int) : Option (Bool) := tOf spec_l1Has.mk (spec_l1Has.q2 v0 v1 v2 v3)
noncomputable def spec_l1Has.t {γ : Type} (ret : (Bool) → Option γ) (lp2 : Int → (List Int) → Int → Int → Option γ) (v0 : List Int) (v1 : Int) : Option γ :=
 lp2 (v1) (v0) ((↑v0.length : Int)) ((0 : Int))
noncomputable def spec_l1Has.t2 {γ : Type} (ret : (Bool) → Option γ) (lp2 : Int → (List Int) → Int → Int → Option γ) (v0 : Int) (v1 : List Int) (v2 : Int) (v3 : Int) : Option γ :=
 bif decide (v3 < v2) then
  bif decide ((0 : Int) ≤ v3) then
   bif decide (v3.toNat < v1.length) then
    bif v1.getD v3.toNat (0 : Int) == v0 then
     ret (Bool.true)
    else
     lp2 (v0) (v1) (v2) (IntKind.i64.wrap (v3 + (1 : Int)))
   else
    none
  else
   none
 else
  ret (Bool.false)
theorem spec_l1Has.k (v0 : List Int) (v1 : Int) : topL E (callT E tab) 221 Try.f221 (spec_l1Has.c v0 v1) = spec_l1Has.t (fun b => some (spec_l1Has.mk b)) spec_l1Has.q2 v0 v1 := by kernel_rfl
theorem spec_l1Has.k2 (v0 : Int) (v1 : List Int) (v2 : Int) (v3 : Int) : roundL E (callT E tab) 221 Try.f221 2 [.r, .l, .r, .b] (nn 1 (vc (iL v0) :: nn 5 (vc (.d .fro (.sl (.int .i64)) v1) :: vc (iL v2) :: vc (iL v3) :: nn 7 ([])))) = spec_l1Has.t2 (fun b => some (spec_l1Has.mk b)) spec_l1Has.q2 v0 v1 v2 v3 := by kernel_rfl
theorem spec_l1Has.eq (v0 : List Int) (v1 : Int) {b : Bool} (h : spec_l1Has.t some spec_l1Has.l2 v0 v1 = some b) : spec_l1Has v0 v1 = some b := tOf_intro spec_l1Has.un (fun _ => by kernel_rfl) (vlim_fn (callT_le E tab) rfl rfl rfl ((spec_l1Has.k v0 v1).trans ((by unfold spec_l1Has.t; repeat' first | exact Sub.ret | exact Sub.none | exact Sub.loop | apply Sub.cond | (apply Sub.bind; intro _) : Sub spec_l1Has.mk _ _) b h)))
theorem spec_l1Has.eq2 (v0 : Int) (v1 : List Int) (v2 : Int) (v3 : Int) {b : Bool} (h : spec_l1Has.t2 some spec_l1Has.l2 v0 v1 v2 v3 = some b) : spec_l1Has.l2 v0 v1 v2 v3 = some b := tOf_intro spec_l1Has.un (fun _ => by kernel_rfl) (loopAtL_step ((spec_l1Has.k2 v0 v1 v2 v3).trans ((by unfold spec_l1Has.t2; repeat' first | exact Sub.ret | exact Sub.none | exact Sub.loop | apply Sub.cond | (apply Sub.bind; intro _) : Sub spec_l1Has.mk _ _) b h)))
noncomputable def spec_ProjectTable.t {γ : Type} (ret : (Int × (List (List Int × Int)) × Bool) → Option γ) (v0 : Int) (v1 : List (List Int × Int)) (v2 : List Int) : Option γ :=
 (spec_GoodTable (v0) (v1)).bind fun (r0 : Bool) =>
 bif !r0 then
  ret ((0 : Int), [], Bool.false)
 else
  (spec_l1Columns (v2) (v0)).bind fun (r1 : Bool) =>
  bif !r1 then
   ret ((0 : Int), [], Bool.false)
  else
   (spec_l3Project (v1) (v2)).bind fun (r2 : (List (List Int × Int))) =>
   (spec_l2Tell ((↑v2.length : Int)) (r2)).bind fun (r3 : Int × (List (List Int × Int)) × Bool) =>
   ret (r3.fst, r3.snd.fst, r3.snd.snd)
theorem spec_ProjectTable.k (v0 : Int) (v1 : List (List Int × Int)) (v2 : List Int) : topL E (callT E tab) 129 Try.f129 (spec_ProjectTable.c v0 v1 v2) = spec_ProjectTable.t (fun b => some (spec_ProjectTable.mk b)) v0 v1 v2 := by kernel_rfl
theorem spec_ProjectTable.eq (v0 : Int) (v1 : List (List Int × Int)) (v2 : List Int) {b : Int × (List (List Int × Int)) × Bool} (h : spec_ProjectTable.t some v0 v1 v2 = some b) : spec_ProjectTable v0 v1 v2 = some b := tOf_intro spec_ProjectTable.un (fun _ => by kernel_rfl) (vlim_fn (callT_le E tab) rfl rfl rfl ((spec_ProjectTable.k v0 v1 v2).trans ((by unfold spec_ProjectTable.t; repeat' first | exact Sub.ret | exact Sub.none | exact Sub.loop | apply Sub.cond | (apply Sub.bind; intro _) : Sub spec_ProjectTable.mk _ _) b h)))
noncomputable def spec_l1Columns.q2 (v0 : List Int) (v1 : Int) (v2 : List Int) (v3 : Int) (v4 : Int) : Option R := loopAtL E (callT E tab) 190 Try.f190 2 [.r, .l, .r, .b] (vc (.d .fro (.sl (.int .i64)) v0) :: vc (iL v1) :: nn 5 (vc (.d .fro (.sl (.int .i64)) v2) :: vc (iL v3) :: vc (iL v4) :: nn 14 ([])))
noncomputable def spec_l1Columns.l2 (v0 : List Int) (v1 : Int) (v2 : List Int) (v3 : Int) (v4 : Int) : Option (Bool) := tOf spec_l1Columns.mk (spec_l1Columns.q2 v0 v1 v2 v3 v4)
noncomputable def spec_l1Columns.t {γ : Type} (ret : (Bool) → Option γ) (lp2 : (List Int) → Int → (List Int) → Int → Int → Option γ) (v0 : List Int) (v1 : Int) : Option γ :=
 lp2 (v0) (v1) (v0) ((↑v0.length : Int)) ((0 : Int))
noncomputable def spec_l1Columns.t2 {γ : Type} (ret : (Bool) → Option γ) (lp2 : (List Int) → Int → (List Int) → Int → Int → Option γ) (v0 : List Int) (v1 : Int) (v2 : List Int) (v3 : Int) (v4 : Int) : Option γ :=
 bif decide (v4 < v3) then
  bif decide ((0 : Int) ≤ v4) then
   bif decide (v4.toNat < v2.length) then
    bif decide (v2.getD v4.toNat (0 : Int) < (0 : Int)) then
     ret (Bool.false)
    else
     bif decide (v2.getD v4.toNat (0 : Int) ≥ v1) then
      ret (Bool.false)
     else
      lp2 (v0) (v1) (v2) (v3) (IntKind.i64.wrap (v4 + (1 : Int)))
   else
    none
  else
   none
 else
  ret (decide ((↑v0.length : Int) ≤ (6 : Int)))
theorem spec_l1Columns.k (v0 : List Int) (v1 : Int) : topL E (callT E tab) 190 Try.f190 (spec_l1Columns.c v0 v1) = spec_l1Columns.t (fun b => some (spec_l1Columns.mk b)) spec_l1Columns.q2 v0 v1 := by kernel_rfl
theorem spec_l1Columns.k2 (v0 : List Int) (v1 : Int) (v2 : List Int) (v3 : Int) (v4 : Int) : roundL E (callT E tab) 190 Try.f190 2 [.r, .l, .r, .b] (vc (.d .fro (.sl (.int .i64)) v0) :: vc (iL v1) :: nn 5 (vc (.d .fro (.sl (.int .i64)) v2) :: vc (iL v3) :: vc (iL v4) :: nn 14 ([]))) = spec_l1Columns.t2 (fun b => some (spec_l1Columns.mk b)) spec_l1Columns.q2 v0 v1 v2 v3 v4 := by kernel_rfl
theorem spec_l1Columns.eq (v0 : List Int) (v1 : Int) {b : Bool} (h : spec_l1Columns.t some spec_l1Columns.l2 v0 v1 = some b) : spec_l1Columns v0 v1 = some b := tOf_intro spec_l1Columns.un (fun _ => by kernel_rfl) (vlim_fn (callT_le E tab) rfl rfl rfl ((spec_l1Columns.k v0 v1).trans ((by unfold spec_l1Columns.t; repeat' first | exact Sub.ret | exact Sub.none | exact Sub.loop | apply Sub.cond | (apply Sub.bind; intro _) : Sub spec_l1Columns.mk _ _) b h)))
theorem spec_l1Columns.eq2 (v0 : List Int) (v1 : Int) (v2 : List Int) (v3 : Int) (v4 : Int) {b : Bool} (h : spec_l1Columns.t2 some spec_l1Columns.l2 v0 v1 v2 v3 v4 = some b) : spec_l1Columns.l2 v0 v1 v2 v3 v4 = some b := tOf_intro spec_l1Columns.un (fun _ => by kernel_rfl) (loopAtL_step ((spec_l1Columns.k2 v0 v1 v2 v3 v4).trans ((by unfold spec_l1Columns.t2; repeat' first | exact Sub.ret | exact Sub.none | exact Sub.loop | apply Sub.cond | (apply Sub.bind; intro _) : Sub spec_l1Columns.mk _ _) b h)))
noncomputable def spec_l3Project.q3 (v0 : List Int) (v1 : List (List Int × Int)) (v2 : List (List Int × Int)) (v3 : Int) (v4 : Int) : Option R := loopAtL E (callT E tab) 191 Try.f191 2 [.r, .r, .l, .r, .b] (nn 1 (vc (.d .fro (.sl (.int .i64)) v0) :: nn 3 (vc (.d .sha (.sl (.pair (.sl (.int .i64)) (.int .i64))) v1) :: nn 2 (vc (.d .fro (.sl (.pair (.sl (.int .i64)) (.int .i64))) v2) :: vc (iL v3) :: vc (iL v4) :: nn 13 ([])))))
noncomputable def spec_l3Project.l3 (v0 : List Int) (v1 : List (List Int × Int)) (v2 : List (List Int × Int)) (v3 : Int) (v4 : Int) : Option ((List (List Int × Int))) := tOf spec_l3Project.mk (spec_l3Project.q3 v0 v1 v2 v3 v4)
noncomputable def spec_l3Project.t {γ : Type} (ret : ((List (List Int × Int))) → Option γ) (lp3 : (List Int) → (List (List Int × Int)) → (List (List Int × Int)) → Int → Int → Option γ) (v0 : List (List Int × Int)) (v1 : List Int) : Option γ :=
 lp3 (v1) ([]) (v0) ((↑v0.length : Int)) ((0 : Int))
noncomputable def spec_l3Project.t3 {γ : Type} (ret : ((List (List Int × Int))) → Option γ) (lp3 : (List Int) → (List (List Int × Int)) → (List (List Int × Int)) → Int → Int → Option γ) (v0 : List Int) (v1 : List (List Int × Int)) (v2 : List (List Int × Int)) (v3 : Int) (v4 : Int) : Option γ :=
 bif decide (v4 < v3) then
  bif decide ((0 : Int) ≤ v4) then
   bif decide (v4.toNat < v2.length) then
    (spec_l1Pick ((v2.getD v4.toNat ([], (0 : Int))).fst) (v0)).bind fun (r0 : (List Int)) =>
    (spec_l2Put (v1) (r0) ((v2.getD v4.toNat ([], (0 : Int))).snd)).bind fun (r1 : (List (List Int × Int))) =>
    lp3 (v0) (r1) (v2) (v3) (IntKind.i64.wrap (v4 + (1 : Int)))
   else
    none
  else
   none
 else
  ret (v1)
theorem spec_l3Project.k (v0 : List (List Int × Int)) (v1 : List Int) : topL E (callT E tab) 191 Try.f191 (spec_l3Project.c v0 v1) = spec_l3Project.t (fun b => some (spec_l3Project.mk b)) spec_l3Project.q3 v0 v1 := by kernel_rfl
theorem spec_l3Project.k3 (v0 : List Int) (v1 : List (List Int × Int)) (v2 : List (List Int × Int)) (v3 : Int) (v4 : Int) : roundL E (callT E tab) 191 Try.f191 2 [.r, .r, .l, .r, .b] (nn 1 (vc (.d .fro (.sl (.int .i64)) v0) :: nn 3 (vc (.d .sha (.sl (.pair (.sl (.int .i64)) (.int .i64))) v1) :: nn 2 (vc (.d .fro (.sl (.pair (.sl (.int .i64)) (.int .i64))) v2) :: vc (iL v3) :: vc (iL v4) :: nn 13 ([]))))) = spec_l3Project.t3 (fun b => some (spec_l3Project.mk b)) spec_l3Project.q3 v0 v1 v2 v3 v4 := by kernel_rfl
theorem spec_l3Project.eq (v0 : List (List Int × Int)) (v1 : List Int) {b : (List (List Int × Int))} (h : spec_l3Project.t some spec_l3Project.l3 v0 v1 = some b) : spec_l3Project v0 v1 = some b := tOf_intro spec_l3Project.un (fun _ => by kernel_rfl) (vlim_fn (callT_le E tab) rfl rfl rfl ((spec_l3Project.k v0 v1).trans ((by unfold spec_l3Project.t; repeat' first | exact Sub.ret | exact Sub.none | exact Sub.loop | apply Sub.cond | (apply Sub.bind; intro _) : Sub spec_l3Project.mk _ _) b h)))
theorem spec_l3Project.eq3 (v0 : List Int) (v1 : List (List Int × Int)) (v2 : List (List Int × Int)) (v3 : Int) (v4 : Int) {b : (List (List Int × Int))} (h : spec_l3Project.t3 some spec_l3Project.l3 v0 v1 v2 v3 v4 = some b) : spec_l3Project.l3 v0 v1 v2 v3 v4 = some b := tOf_intro spec_l3Project.un (fun _ => by kernel_rfl) (loopAtL_step ((spec_l3Project.k3 v0 v1 v2 v3 v4).trans ((by unfold spec_l3Project.t3; repeat' first | exact Sub.ret | exact Sub.none | exact Sub.loop | apply Sub.cond | (apply Sub.bind; intro _) : Sub spec_l3Project.mk _ _) b h)))
noncomputable def spec_l1Pick.q3 (v0 : List Int) (v1 : List Int) (v2 : List Int) (v3 : List Int) (v4 : Int) (v5 : Int) : Option R := loopAtL E (callT E tab) 155 Try.f155 2 [.r, .r, .l, .r, .b] (nn 2 (⟨(.box false), [.d .fro (.sl (.int .i64)) v0], false, false, false, 0, 0⟩ :: nn 1 (⟨(.box false), [.d .deep (.sl (.int .i64)) v1], false, false, false, 0, 0⟩ :: ⟨(.box false), [.d .deep (.sl (.int .i64)) v2], false, false, false, 0, 0⟩ :: nn 3 (vc (.d .fro (.sl (.int .i64)) v3) :: vc (iL v4) :: vc (iL v5) :: nn 15 ([])))))
noncomputable def spec_l1Pick.l3 (v0 : List Int) (v1 : List Int) (v2 : List Int) (v3 : List Int) (v4 : Int) (v5 : Int) : Option ((List Int)) := tOf spec_l1Pick.mk (spec_l1Pick.q3 v0 v1 v2 v3 v4 v5)
noncomputable def spec_l1Pick.t {γ : Type} (ret : ((List Int)) → Option γ) (lp3 : (List Int) → (List Int) → (List Int) → (List Int) → Int → Int → Option γ) (v0 : List Int) (v1 : List Int) : Option γ :=
 lp3 (v0) ([]) ([]) (v1) ((↑v1.length : Int)) ((0 : Int))
noncomputable def spec_l1Pick.t3 {γ : Type} (ret : ((List Int)) → Option γ) (lp3 : (List Int) → (List Int) → (List Int) → (List Int) → Int → Int → Option γ) (v0 : List Int) (v1 : List Int) (v2 : List Int) (v3 : List Int) (v4 : Int) (v5 : Int) : Option γ :=
 bif decide (v5 < v4) then
  bif decide ((0 : Int) ≤ v5) then
   bif decide (v5.toNat < v3.length) then
    bif decide ((0 : Int) ≤ v3.getD v5.toNat (0 : Int)) then
     bif decide ((v3.getD v5.toNat (0 : Int)).toNat < v0.length) then
      bif decide (v2.length + [v0.getD (v3.getD v5.toNat (0 : Int)).toNat (0 : Int)].length ≤ (4294967296 : Nat)) then
       lp3 (v0) (v1) (v2 ++ [v0.getD (v3.getD v5.toNat (0 : Int)).toNat (0 : Int)]) (v3) (v4) (IntKind.i64.wrap (v5 + (1 : Int)))
      else
       none
     else
      none
    else
     none
   else
    none
  else
   none
 else
  ret (v2)
theorem spec_l1Pick.k (v0 : List Int) (v1 : List Int) : topL E (callT E tab) 155 Try.f155 (spec_l1Pick.c v0 v1) = spec_l1Pick.t (fun b => some (spec_l1Pick.mk b)) spec_l1Pick.q3 v0 v1 := by kernel_rfl
theorem spec_l1Pick.k3 (v0 : List Int) (v1 : List Int) (v2 : List Int) (v3 : List Int) (v4 : Int) (v5 : Int) : roundL E (callT E tab) 155 Try.f155 2 [.r, .r, .l, .r, .b] (nn 2 (⟨(.box false), [.d .fro (.sl (.int .i64)) v0], false, false, false, 0, 0⟩ :: nn 1 (⟨(.box false), [.d .deep (.sl (.int .i64)) v1], false, false, false, 0, 0⟩ :: ⟨(.box false), [.d .deep (.sl (.int .i64)) v2], false, false, false, 0, 0⟩ :: nn 3 (vc (.d .fro (.sl (.int .i64)) v3) :: vc (iL v4) :: vc (iL v5) :: nn 15 ([]))))) = spec_l1Pick.t3 (fun b => some (spec_l1Pick.mk b)) spec_l1Pick.q3 v0 v1 v2 v3 v4 v5 := by kernel_rfl
theorem spec_l1Pick.eq (v0 : List Int) (v1 : List Int) {b : (List Int)} (h : spec_l1Pick.t some spec_l1Pick.l3 v0 v1 = some b) : spec_l1Pick v0 v1 = some b := tOf_intro spec_l1Pick.un (fun _ => by kernel_rfl) (vlim_fn (callT_le E tab) rfl rfl rfl ((spec_l1Pick.k v0 v1).trans ((by unfold spec_l1Pick.t; repeat' first | exact Sub.ret | exact Sub.none | exact Sub.loop | apply Sub.cond | (apply Sub.bind; intro _) : Sub spec_l1Pick.mk _ _) b h)))
theorem spec_l1Pick.eq3 (v0 : List Int) (v1 : List Int) (v2 : List Int) (v3 : List Int) (v4 : Int) (v5 : Int) {b : (List Int)} (h : spec_l1Pick.t3 some spec_l1Pick.l3 v0 v1 v2 v3 v4 v5 = some b) : spec_l1Pick.l3 v0 v1 v2 v3 v4 v5 = some b := tOf_intro spec_l1Pick.un (fun _ => by kernel_rfl) (loopAtL_step ((spec_l1Pick.k3 v0 v1 v2 v3 v4 v5).trans ((by unfold spec_l1Pick.t3; repeat' first | exact Sub.ret | exact Sub.none | exact Sub.loop | apply Sub.cond | (apply Sub.bind; intro _) : Sub spec_l1Pick.mk _ _) b h)))
noncomputable def spec_DistinctTable.t {γ : Type} (ret : (Int × (List (List Int × Int)) × Bool) → Option γ) (v0 : Int) (v1 : List (List Int × Int)) : Option γ :=
 (spec_GoodTable (v0) (v1)).bind fun (r0 : Bool) =>
 bif !r0 then
  ret ((0 : Int), [], Bool.false)
 else
  (spec_l3Distinct (v1)).bind fun (r1 : (List (List Int × Int))) =>
  (spec_l2Tell (v0) (r1)).bind fun (r2 : Int × (List (List Int × Int)) × Bool) =>
  ret (r2.fst, r2.snd.fst, r2.snd.snd)
theorem spec_DistinctTable.k (v0 : Int) (v1 : List (List Int × Int)) : topL E (callT E tab) 130 Try.f130 (spec_DistinctTable.c v0 v1) = spec_DistinctTable.t (fun b => some (spec_DistinctTable.mk b)) v0 v1 := by kernel_rfl
theorem spec_DistinctTable.eq (v0 : Int) (v1 : List (List Int × Int)) {b : Int × (List (List Int × Int)) × Bool} (h : spec_DistinctTable.t some v0 v1 = some b) : spec_DistinctTable v0 v1 = some b := tOf_intro spec_DistinctTable.un (fun _ => by kernel_rfl) (vlim_fn (callT_le E tab) rfl rfl rfl ((spec_DistinctTable.k v0 v1).trans ((by unfold spec_DistinctTable.t; repeat' first | exact Sub.ret | exact Sub.none | exact Sub.loop | apply Sub.cond | (apply Sub.bind; intro _) : Sub spec_DistinctTable.mk _ _) b h)))
end GoV

/- Equations of the program's functions (printed by wip/tools/emit.py). -/
namespace GoV
open Go Go.Proofs
set_option maxRecDepth 100000

noncomputable def impl_PartTables.q5 (v0 : Int) (v1 : List (List Int × Int)) (v2 : List (Int × List (List Int × Int))) (v3 : List (List Int)) (v4 : Int) (v5 : Int) : Option R := loopAtL E (callT E tab) 60 Try.f60 2 [.r, .r, .r, .l, .r, .b] (nn 2 (⟨(.box false), [iL v0, .d .fro (.sl (.pair (.sl (.int .i64)) (.int .i64))) v1], false, false, false, 0, 0⟩ :: nn 3 (vc (.d .deep (.sl (.pair (.int .i64) (.sl (.pair (.sl (.int .i64)) (.int .i64))))) v2) :: nn 14 (vc (.d .fro (.sl (.sl (.int .i64))) v3) :: vc (iL v4) :: vc (iL v5) :: nn 18 ([])))))
noncomputable def impl_PartTables.l5 (v0 : Int) (v1 : List (List Int × Int)) (v2 : List (Int × List (List Int × Int))) (v3 : List (List Int)) (v4 : Int) (v5 : Int) : Option ((List (Int × List (List Int × Int))) × Bool) := tOf impl_PartTables.mk (impl_PartTables.q5 v0 v1 v2 v3 v4 v5)
noncomputable def impl_PartTables.t {γ : Type} (ret : ((List (Int × List (List Int × Int))) × Bool) → Option γ) (lp5 : Int → (List (List Int × Int)) → (List (Int × List (List Int × Int))) → (List (List Int)) → Int → Int → Option γ) (v0 : Int) (v1 : List (List Int × Int)) (v2 : List (List Int)) : Option γ :=
 (impl_GoodTable (v0) (v1)).bind fun (r0 : Bool) =>
 bif !r0 then
  ret ([], Bool.false)
 else
  (impl_GoodParts (v2) (v0)).bind fun (r1 : Bool) =>
  bif !r1 then
   ret ([], Bool.false)
  else
   lp5 (v0) (v1) ([]) (v2) ((↑v2.length : Int)) ((0 : Int))
noncomputable def impl_PartTables.t5 {γ : Type} (ret : ((List (Int × List (List Int × Int))) × Bool) → Option γ) (lp5 : Int → (List (List Int × Int)) → (List (Int × List (List Int × Int))) → (List (List Int)) → Int → Int → Option γ) (v0 : Int) (v1 : List (List Int × Int)) (v2 : List (Int × List (List Int × Int))) (v3 : List (List Int)) (v4 : Int) (v5 : Int) : Option γ :=
 bif decide (v5 < v4) then
  bif decide ((0 : Int) ≤ v5) then
   bif decide (v5.toNat < v3.length) then
    (impl_ProjectTable (v0) (v1) (v3.getD v5.toNat [])).bind fun (r2 : Int × (List (List Int × Int)) × Bool) =>
    bif !r2.snd.snd then
     ret ([], Bool.false)
    else
     (xi0n (r2.fst) (r2.snd.fst)).bind fun (r3 : Int × (List (List Int × Int))) =>
     bif decide (v2.length + [(r3.fst, r3.snd)].length ≤ (4294967296 : Nat)) then
      lp5 (v0) (v1) (v2 ++ [(r3.fst, r3.snd)]) (v3) (v4) (IntKind.i64.wrap (v5 + (1 : Int)))
     else
      none
   else
    none
  else
   none
 else
  ret (v2, Bool.true)
theorem impl_PartTables.k (v0 : Int) (v1 : List (List Int × Int)) (v2 : List (List Int)) : topL E (callT E tab) 60 Try.f60 (impl_PartTables.c v0 v1 v2) = impl_PartTables.t (fun b => some (impl_PartTables.mk b)) impl_PartTables.q5 v0 v1 v2 := by kernel_rfl
theorem impl_PartTables.k5 (v0 : Int) (v1 : List (List Int × Int)) (v2 : List (Int × List (List Int × Int))) (v3 : List (List Int)) (v4 : Int) (v5 : Int) : roundL E (callT E tab) 60 Try.f60 2 [.r, .r, .r, .l, .r, .b] (nn 2 (⟨(.box false), [iL v0, .d .fro (.sl (.pair (.sl (.int .i64)) (.int .i64))) v1], false, false, false, 0, 0⟩ :: nn 3 (vc (.d .deep (.sl (.pair (.int .i64) (.sl (.pair (.sl (.int .i64)) (.int .i64))))) v2) :: nn 14 (vc (.d .fro (.sl (.sl (.int .i64))) v3) :: vc (iL v4) :: vc (iL v5) :: nn 18 ([]))))) = impl_PartTables.t5 (fun b => some (impl_PartTables.mk b)) impl_PartTables.q5 v0 v1 v2 v3 v4 v5 := by kernel_rfl
theorem impl_PartTables.eq (v0 : Int) (v1 : List (List Int × Int)) (v2 : List (List Int)) {b : (List (Int × List (List Int × Int))) × Bool} (h : impl_PartTables.t some impl_PartTables.l5 v0 v1 v2 = some b) : impl_PartTables v0 v1 v2 = some b := tOf_intro impl_PartTables.un (fun _ => by kernel_rfl) (vlim_fn (callT_le E tab) rfl rfl rfl ((impl_PartTables.k v0 v1 v2).trans ((by unfold impl_PartTables.t; repeat' first | exact Sub.ret | exact Sub.none | exact Sub.loop | apply Sub.cond | (apply Sub.bind; intro _) : Sub impl_PartTables.mk _ _) b h)))
theorem impl_PartTables.eq5 (v0 : Int) (v1 : List (List Int × Int)) (v2 : List (Int × List (List Int × Int))) (v3 : List (List Int)) (v4 : Int) (v5 : Int) {b : (List (Int × List (List Int × Int))) × Bool} (h : impl_PartTables.t5 some impl_PartTables.l5 v0 v1 v2 v3 v4 v5 = some b) : impl_PartTables.l5 v0 v1 v2 v3 v4 v5 = some b := tOf_intro impl_PartTables.un (fun _ => by kernel_rfl) (loopAtL_step ((impl_PartTables.k5 v0 v1 v2 v3 v4 v5).trans ((by unfold impl_PartTables.t5; repeat' first | exact Sub.ret | exact Sub.none | exact Sub.loop | apply Sub.cond | (apply Sub.bind; intro _) : Sub impl_PartTables.mk _ _) b h)))
noncomputable def impl_GoodParts.q5 (v0 : Int) (v1 : Int) (v2 : List (List Int)) (v3 : Int) (v4 : Int) : Option R := loopAtL E (callT E tab) 131 Try.f131 2 [.r, .r, .r, .l, .r, .b] (nn 1 (vc (iL v0) :: nn 3 (vc (iL v1) :: nn 11 (vc (.d .fro (.sl (.sl (.int .i64))) v2) :: vc (iL v3) :: vc (iL v4) :: nn 16 ([])))))
noncomputable def impl_GoodParts.l5 (v0 : Int) (v1 : Int) (v2 : List (List Int)) (v3 : Int) (v4 : Int) : Option (Bool) := tOf impl_GoodParts.mk (impl_GoodParts.q5 v0 v1 v2 v3 v4)
noncomputable def impl_GoodParts.t {γ : Type} (ret : (Bool) → Option γ) (lp5 : Int → Int → (List (List Int)) → Int → Int → Option γ) (v0 : List (List Int)) (v1 : Int) : Option γ :=
 (impl_within (v1) ((1 : Int)) ((6 : Int))).bind fun (r0 : Bool) =>
 bif !r0 then
  ret (Bool.false)
 else
  (impl_within ((↑v0.length : Int)) ((1 : Int)) ((8 : Int))).bind fun (r1 : Bool) =>
  bif !r1 then
   ret (Bool.false)
  else
   lp5 (v1) ((0 : Int)) (v0) ((↑v0.length : Int)) ((0 : Int))
noncomputable def impl_GoodParts.t5 {γ : Type} (ret : (Bool) → Option γ) (lp5 : Int → Int → (List (List Int)) → Int → Int → Option γ) (v0 : Int) (v1 : Int) (v2 : List (List Int)) (v3 : Int) (v4 : Int) : Option γ :=
 bif decide (v4 < v3) then
  bif decide ((0 : Int) ≤ v4) then
   bif decide (v4.toNat < v2.length) then
    (impl_isPart (v2.getD v4.toNat []) (v0)).bind fun (r2 : Bool) =>
    bif !r2 then
     ret (Bool.false)
    else
     (impl_setOf (v2.getD v4.toNat [])).bind fun (r3 : Int) =>
     lp5 (v0) (IntKind.i64.wrap (↑(BitVec.ofInt IntKind.i64.bits v1 ||| BitVec.ofInt IntKind.i64.bits r3).toNat : Int)) (v2) (v3) (IntKind.i64.wrap (v4 + (1 : Int)))
   else
    none
  else
   none
 else
  (impl_whole (v0)).bind fun (r4 : Int) =>
  ret (v1 == r4)
theorem impl_GoodParts.k (v0 : List (List Int)) (v1 : Int) : topL E (callT E tab) 131 Try.f131 (impl_GoodParts.c v0 v1) = impl_GoodParts.t (fun b => some (impl_GoodParts.mk b)) impl_GoodParts.q5 v0 v1 := by kernel_rfl
theorem impl_GoodParts.k5 (v0 : Int) (v1 : Int) (v2 : List (List Int)) (v3 : Int) (v4 : Int) : roundL E (callT E tab) 131 Try.f131 2 [.r, .r, .r, .l, .r, .b] (nn 1 (vc (iL v0) :: nn 3 (vc (iL v1) :: nn 11 (vc (.d .fro (.sl (.sl (.int .i64))) v2) :: vc (iL v3) :: vc (iL v4) :: nn 16 ([]))))) = impl_GoodParts.t5 (fun b => some (impl_GoodParts.mk b)) impl_GoodParts.q5 v0 v1 v2 v3 v4 := by kernel_rfl
theorem impl_GoodParts.eq (v0 : List (List Int)) (v1 : Int) {b : Bool} (h : impl_GoodParts.t some impl_GoodParts.l5 v0 v1 = some b) : impl_GoodParts v0 v1 = some b := tOf_intro impl_GoodParts.un (fun _ => by kernel_rfl) (vlim_fn (callT_le E tab) rfl rfl rfl ((impl_GoodParts.k v0 v1).trans ((by unfold impl_GoodParts.t; repeat' first | exact Sub.ret | exact Sub.none | exact Sub.loop | apply Sub.cond | (apply Sub.bind; intro _) : Sub impl_GoodParts.mk _ _) b h)))
theorem impl_GoodParts.eq5 (v0 : Int) (v1 : Int) (v2 : List (List Int)) (v3 : Int) (v4 : Int) {b : Bool} (h : impl_GoodParts.t5 some impl_GoodParts.l5 v0 v1 v2 v3 v4 = some b) : impl_GoodParts.l5 v0 v1 v2 v3 v4 = some b := tOf_intro impl_GoodParts.un (fun _ => by kernel_rfl) (loopAtL_step ((impl_GoodParts.k5 v0 v1 v2 v3 v4).trans ((by unfold impl_GoodParts.t5; repeat' first | exact Sub.ret | exact Sub.none | exact Sub.loop | apply Sub.cond | (apply Sub.bind; intro _) : Sub impl_GoodParts.mk _ _) b h)))
noncomputable def impl_isPart.t {γ : Type} (ret : (Bool) → Option γ) (v0 : List Int) (v1 : Int) : Option γ :=
 bif decide ((↑v0.length : Int) > (0 : Int)) then
  (impl_areRising (v0) (v1)).bind fun (r0 : Bool) =>
  ret (r0)
 else
  ret (Bool.false)
theorem impl_isPart.k (v0 : List Int) (v1 : Int) : topL E (callT E tab) 192 Try.f192 (impl_isPart.c v0 v1) = impl_isPart.t (fun b => some (impl_isPart.mk b)) v0 v1 := by kernel_rfl
theorem impl_isPart.eq (v0 : List Int) (v1 : Int) {b : Bool} (h : impl_isPart.t some v0 v1 = some b) : impl_isPart v0 v1 = some b := tOf_intro impl_isPart.un (fun _ => by kernel_rfl) (vlim_fn (callT_le E tab) rfl rfl rfl ((impl_isPart.k v0 v1).trans ((by unfold impl_isPart.t; repeat' first | exact Sub.ret | exact Sub.none | exact Sub.loop | apply Sub.cond | (apply Sub.bind; intro _) : Sub impl_isPart.mk _ _) b h)))
noncomputable def impl_areRising.q2 (v0 : List Int) (v1 : Int) (v2 : List Int) (v3 : Int) (v4 : Int) : Option R := loopAtL E (callT E tab) 208 Try.f208 2 [.r, .l, .r, .b] (vc (.d .fro (.sl (.int .i64)) v0) :: vc (iL v1) :: nn 5 (vc (.d .fro (.sl (.int .i64)) v2) :: vc (iL v3) :: vc (iL v4) :: nn 22 ([])))
noncomputable def impl_areRising.l2 (v0 : List Int) (v1 : Int) (v2 : List Int) (v3 : Int) (v4 : Int) : Option (Bool) := tOf impl_areRising.mk (impl_areRising.q2 v0 v1 v2 v3 v4)
noncomputable def impl_areRising.t {γ : Type} (ret : (Bool) → Option γ) (lp2 : (List Int) → Int → (List Int) → Int → Int → Option γ) (v0 : List Int) (v1 : Int) : Option γ :=
 lp2 (v0) (v1) (v0) ((↑v0.length : Int)) ((0 : Int))
noncomputable def impl_areRising.t2 {γ : Type} (ret : (Bool) → Option γ) (lp2 : (List Int) → Int → (List Int) → Int → Int → Option γ) (v0 : List Int) (v1 : Int) (v2 : List Int) (v3 : Int) (v4 : Int) : Option γ :=
 bif decide (v4 < v3) then
  bif decide ((0 : Int) ≤ v4) then
   bif decide (v4.toNat < v2.length) then
    (impl_isPlace (v2.getD v4.toNat (0 : Int)) (v1)).bind fun (r0 : Bool) =>
    bif !r0 then
     ret (Bool.false)
    else
     bif decide (v4 > (0 : Int)) then
      bif decide ((0 : Int) ≤ IntKind.i64.wrap (v4 - (1 : Int))) then
       bif decide ((IntKind.i64.wrap (v4 - (1 : Int))).toNat < v0.length) then
        bif decide (v2.getD v4.toNat (0 : Int) ≤ v0.getD (IntKind.i64.wrap (v4 - (1 : Int))).toNat (0 : Int)) then
         ret (Bool.false)
        else
         lp2 (v0) (v1) (v2) (v3) (IntKind.i64.wrap (v4 + (1 : Int)))
       else
        none
      else
       none
     else
      lp2 (v0) (v1) (v2) (v3) (IntKind.i64.wrap (v4 + (1 : Int)))
   else
    none
  else
   none
 else
  ret (Bool.true)
theorem impl_areRising.k (v0 : List Int) (v1 : Int) : topL E (callT E tab) 208 Try.f208 (impl_areRising.c v0 v1) = impl_areRising.t (fun b => some (impl_areRising.mk b)) impl_areRising.q2 v0 v1 := by kernel_rfl
theorem impl_areRising.k2 (v0 : List Int) (v1 : Int) (v2 : List Int) (v3 : Int) (v4 : Int) : roundL E (callT E tab) 208 Try.f208 2 [.r, .l, .r, .b] (vc (.d .fro (.sl (.int .i64)) v0) :: vc (iL v1) :: nn 5 (vc (.d .fro (.sl (.int .i64)) v2) :: vc (iL v3) :: vc (iL v4) :: nn 22 ([]))) = impl_areRising.t2 (fun b => some (impl_areRising.mk b)) impl_areRising.q2 v0 v1 v2 v3 v4 := by kernel_rfl
theorem impl_areRising.eq (v0 : List Int) (v1 : Int) {b : Bool} (h : impl_areRising.t some impl_areRising.l2 v0 v1 = some b) : impl_areRising v0 v1 = some b := tOf_intro impl_areRising.un (fun _ => by kernel_rfl) (vlim_fn (callT_le E tab) rfl rfl rfl ((impl_areRising.k v0 v1).trans ((by unfold impl_areRising.t; repeat' first | exact Sub.ret | exact Sub.none | exact Sub.loop | apply Sub.cond | (apply Sub.bind; intro _) : Sub impl_areRising.mk _ _) b h)))
theorem impl_areRising.eq2 (v0 : List Int) (v1 : Int) (v2 : List Int) (v3 : Int) (v4 : Int) {b : Bool} (h : impl_areRising.t2 some impl_areRising.l2 v0 v1 v2 v3 v4 = some b) : impl_areRising.l2 v0 v1 v2 v3 v4 = some b := tOf_intro impl_areRising.un (fun _ => by kernel_rfl) (loopAtL_step ((impl_areRising.k2 v0 v1 v2 v3 v4).trans ((by unfold impl_areRising.t2; repeat' first | exact Sub.ret | exact Sub.none | exact Sub.loop | apply Sub.cond | (apply Sub.bind; intro _) : Sub impl_areRising.mk _ _) b h)))
noncomputable def impl_setOf.q3 (v0 : Int) (v1 : List Int) (v2 : Int) (v3 : Int) : Option R := loopAtL E (callT E tab) 193 Try.f193 1 [.r, .r, .l, .r, .b] (nn 3 (vc (iL v0) :: nn 2 (vc (.d .fro (.sl (.int .i64)) v1) :: vc (iL v2) :: vc (iL v3) :: nn 9 ([]))))
noncomputable def impl_setOf.l3 (v0 : Int) (v1 : List Int) (v2 : Int) (v3 : Int) : Option (Int) := tOf impl_setOf.mk (impl_setOf.q3 v0 v1 v2 v3)
noncomputable def impl_setOf.t {γ : Type} (ret : (Int) → Option γ) (lp3 : Int → (List Int) → Int → Int → Option γ) (v0 : List Int) : Option γ :=
 lp3 ((0 : Int)) (v0) ((↑v0.length : Int)) ((0 : Int))
noncomputable def impl_setOf.t3 {γ : Type} (ret : (Int) → Option γ) (lp3 : Int → (List Int) → Int → Int → Option γ) (v0 : Int) (v1 : List Int) (v2 : Int) (v3 : Int) : Option γ :=
 bif decide (v3 < v2) then
  bif decide ((0 : Int) ≤ v3) then
   bif decide (v3.toNat < v1.length) then
    bif decide ((0 : Int) ≤ v1.getD v3.toNat (0 : Int)) then
     lp3 (IntKind.i64.wrap   (↑(BitVec.ofInt IntKind.i64.bits v0 |||           BitVec.ofInt IntKind.i64.bits             (IntKind.i64.wrap               ((1 : Int) * (2 : Int) ^ Min.min (v1.getD v3.toNat (0 : Int)).toNat IntKind.i64.bits))).toNat :     Int)) (v1) (v2) (IntKind.i64.wrap (v3 + (1 : Int)))
    else
     none
   else
    none
  else
   none
 else
  ret (v0)
theorem impl_setOf.k (v0 : List Int) : topL E (callT E tab) 193 Try.f193 (impl_setOf.c v0) = impl_setOf.t (fun b => some (impl_setOf.mk b)) impl_setOf.q3 v0 := by kernel_rfl
theorem impl_setOf.k3 (v0 : Int) (v1 : List Int) (v2 : Int) (v3 : Int) : roundL E (callT E tab) 193 Try.f193 1 [.r, .r, .l, .r, .b] (nn 3 (vc (iL v0) :: nn 2 (vc (.d .fro (.sl (.int .i64)) v1) :: vc (iL v2) :: vc (iL v3) :: nn 9 ([])))) = impl_setOf.t3 (fun b => some (impl_setOf.mk b)) impl_setOf.q3 v0 v1 v2 v3 := by kernel_rfl
theorem impl_setOf.eq (v0 : List Int) {b : Int} (h : impl_setOf.t some impl_setOf.l3 v0 = some b) : impl_setOf v0 = some b := tOf_intro impl_setOf.un (fun _ => by kernel_rfl) (vlim_fn (callT_le E tab) rfl rfl rfl ((impl_setOf.k v0).trans ((by unfold impl_setOf.t; repeat' first | exact Sub.ret | exact Sub.none | exact Sub.loop | apply Sub.cond | (apply Sub.bind; intro _) : Sub impl_setOf.mk _ _) b h)))
theorem impl_setOf.eq3 (v0 : Int) (v1 : List Int) (v2 : Int) (v3 : Int) {b : Int} (h : impl_setOf.t3 some impl_setOf.l3 v0 v1 v2 v3 = some b) : impl_setOf.l3 v0 v1 v2 v3 = some b := tOf_intro impl_setOf.un (fun _ => by kernel_rfl) (loopAtL_step ((impl_setOf.k3 v0 v1 v2 v3).trans ((by unfold impl_setOf.t3; repeat' first | exact Sub.ret | exact Sub.none | exact Sub.loop | apply Sub.cond | (apply Sub.bind; intro _) : Sub impl_setOf.mk _ _) b h)))
noncomputable def impl_whole.t {γ : Type} (ret : (Int) → Option γ) (v0 : Int) : Option γ :=
 bif decide ((0 : Int) ≤ v0) then
  ret (IntKind.i64.wrap (IntKind.i64.wrap ((1 : Int) * (2 : Int) ^ Min.min v0.toNat IntKind.i64.bits) - (1 : Int)))
 else
  none
theorem impl_whole.k (v0 : Int) : topL E (callT E tab) 194 Try.f194 (impl_whole.c v0) = impl_whole.t (fun b => some (impl_whole.mk b)) v0 := by kernel_rfl
theorem impl_whole.eq (v0 : Int) {b : Int} (h : impl_whole.t some v0 = some b) : impl_whole v0 = some b := tOf_intro impl_whole.un (fun _ => by kernel_rfl) (vlim_fn (callT_le E tab) rfl rfl rfl ((impl_whole.k v0).trans ((by unfold impl_whole.t; repeat' first | exact Sub.ret | exact Sub.none | exact Sub.loop | apply Sub.cond | (apply Sub.bind; intro _) : Sub impl_whole.mk _ _) b h)))
noncomputable def impl_ProjectTable.t {γ : Type} (ret : (Int × (List (List Int × Int)) × Bool) → Option γ) (v0 : Int) (v1 : List (List Int × Int)) (v2 : List Int) : Option γ :=
 (impl_GoodTable (v0) (v1)).bind fun (r0 : Bool) =>
 bif !r0 then
  ret ((0 : Int), [], Bool.false)
 else
  (impl_areColumns (v2) (v0)).bind fun (r1 : Bool) =>
  bif !r1 then
   ret ((0 : Int), [], Bool.false)
  else
   (xi0l (v0) (v1) (v2)).bind fun (r2 : Int × (List (List Int × Int))) =>
   (xi0o (r2.fst) (r2.snd)).bind fun (r3 : Int × (List (List Int × Int)) × Bool) =>
   ret (r3.fst, r3.snd.fst, r3.snd.snd)
theorem impl_ProjectTable.k (v0 : Int) (v1 : List (List Int × Int)) (v2 : List Int) : topL E (callT E tab) 132 Try.f132 (impl_ProjectTable.c v0 v1 v2) = impl_ProjectTable.t (fun b => some (impl_ProjectTable.mk b)) v0 v1 v2 := by kernel_rfl
theorem impl_ProjectTable.eq (v0 : Int) (v1 : List (List Int × Int)) (v2 : List Int) {b : Int × (List (List Int × Int)) × Bool} (h : impl_ProjectTable.t some v0 v1 v2 = some b) : impl_ProjectTable v0 v1 v2 = some b := tOf_intro impl_ProjectTable.un (fun _ => by kernel_rfl) (vlim_fn (callT_le E tab) rfl rfl rfl ((impl_ProjectTable.k v0 v1 v2).trans ((by unfold impl_ProjectTable.t; repeat' first | exact Sub.ret | exact Sub.none | exact Sub.loop | apply Sub.cond | (apply Sub.bind; intro _) : Sub impl_ProjectTable.mk _ _) b h)))
noncomputable def impl_areColumns.t {γ : Type} (ret : (Bool) → Option γ) (v0 : List Int) (v1 : Int) : Option γ :=
 bif decide ((↑v0.length : Int) ≤ (6 : Int)) then
  (xi0e (v0) (v1)).bind fun (r0 : Bool) =>
  ret (r0)
 else
  ret (Bool.false)
theorem impl_areColumns.k (v0 : List Int) (v1 : Int) : topL E (callT E tab) 195 Try.f195 (impl_areColumns.c v0 v1) = impl_areColumns.t (fun b => some (impl_areColumns.mk b)) v0 v1 := by kernel_rfl
theorem impl_areColumns.eq (v0 : List Int) (v1 : Int) {b : Bool} (h : impl_areColumns.t some v0 v1 = some b) : impl_areColumns v0 v1 = some b := tOf_intro impl_areColumns.un (fun _ => by kernel_rfl) (vlim_fn (callT_le E tab) rfl rfl rfl ((impl_areColumns.k v0 v1).trans ((by unfold impl_areColumns.t; repeat' first | exact Sub.ret | exact Sub.none | exact Sub.loop | apply Sub.cond | (apply Sub.bind; intro _) : Sub impl_areColumns.mk _ _) b h)))
noncomputable def xi0e.t {γ : Type} (ret : (Bool) → Option γ) (v0 : List Int) (v1 : Int) : Option γ :=
 (xs01 (v0) (v1)).bind fun (r0 : Bool) =>
 ret (!r0)
theorem xi0e.k (v0 : List Int) (v1 : Int) : topL E (callT E tab) 161 Try.f161 (xi0e.c v0 v1) = xi0e.t (fun b => some (xi0e.mk b)) v0 v1 := by kernel_rfl
theorem xi0e.eq (v0 : List Int) (v1 : Int) {b : Bool} (h : xi0e.t some v0 v1 = some b) : xi0e v0 v1 = some b := tOf_intro xi0e.un (fun _ => by kernel_rfl) (vlim_fn (callT_le E tab) rfl rfl rfl ((xi0e.k v0 v1).trans ((by unfold xi0e.t; repeat' first | exact Sub.ret | exact Sub.none | exact Sub.loop | apply Sub.cond | (apply Sub.bind; intro _) : Sub xi0e.mk _ _) b h)))
noncomputable def xs01.t {γ : Type} (ret : (Bool) → Option γ) (v0 : List Int) (v1 : Int) : Option γ :=
 (xs02 (v0) (v1)).bind fun (r0 : Int) =>
 ret (decide (r0 ≥ (0 : Int)))
theorem xs01.k (v0 : List Int) (v1 : Int) : topL E (callT E tab) 205 Try.f205 (xs01.c v0 v1) = xs01.t (fun b => some (xs01.mk b)) v0 v1 := by kernel_rfl
theorem xs01.eq (v0 : List Int) (v1 : Int) {b : Bool} (h : xs01.t some v0 v1 = some b) : xs01 v0 v1 = some b := tOf_intro xs01.un (fun _ => by kernel_rfl) (vlim_fn (callT_le E tab) rfl rfl rfl ((xs01.k v0 v1).trans ((by unfold xs01.t; repeat' first | exact Sub.ret | exact Sub.none | exact Sub.loop | apply Sub.cond | (apply Sub.bind; intro _) : Sub xs01.mk _ _) b h)))
noncomputable def xs02.q2 (v0 : List Int) (v1 : Int) (v2 : Int) (v3 : Int) : Option R := loopAtL E (callT E tab) 228 Try.f228 2 [.r, .l, .r, .b] (vc (.d .fro (.sl (.int .i64)) v0) :: vc (.fn 206 [.rp [.fn 222 [.rp [iL v1] 0]] 0]) :: nn 5 (vc (iL v2) :: vc (iL v3) :: nn 10 ([])))
noncomputable def xs02.l2 (v0 : List Int) (v1 : Int) (v2 : Int) (v3 : Int) : Option (Int) := tOf xs02.mk (xs02.q2 v0 v1 v2 v3)
noncomputable def xs02.t {γ : Type} (ret : (Int) → Option γ) (lp2 : (List Int) → Int → Int → Int → Option γ) (v0 : List Int) (v1 : Int) : Option γ :=
 lp2 (v0) (v1) ((↑v0.length : Int)) ((0 : Int))
noncomputable def xs02.t2 {γ : Type} (ret : (Int) → Option γ) (lp2 : (List Int) → Int → Int → Int → Option γ) (v0 : List Int) (v1 : Int) (v2 : Int) (v3 : Int) : Option γ :=
 bif decide (v3 < v2) then
  bif decide ((0 : Int) ≤ v3) then
   bif decide (v3.toNat < v0.length) then
    (xi0d (v0.getD v3.toNat (0 : Int)) (v1)).bind fun (r0 : Bool) =>
    bif r0 then
     ret (v3)
    else
     lp2 (v0) (v1) (v2) (IntKind.i64.wrap (v3 + (1 : Int)))
   else
    none
  else
   none
 else
  ret ((-1 : Int))
theorem xs02.k (v0 : List Int) (v1 : Int) : topL E (callT E tab) 228 Try.f228 (xs02.c v0 v1) = xs02.t (fun b => some (xs02.mk b)) xs02.q2 v0 v1 := by kernel_rfl
theorem xs02.k2 (v0 : List Int) (v1 : Int) (v2 : Int) (v3 : Int) : roundL E (callT E tab) 228 Try.f228 2 [.r, .l, .r, .b] (vc (.d .fro (.sl (.int .i64)) v0) :: vc (.fn 206 [.rp [.fn 222 [.rp [iL v1] 0]] 0]) :: nn 5 (vc (iL v2) :: vc (iL v3) :: nn 10 ([]))) = xs02.t2 (fun b => some (xs02.mk b)) xs02.q2 v0 v1 v2 v3 := by kernel_rfl
theorem xs02.eq (v0 : List Int) (v1 : Int) {b : Int} (h : xs02.t some xs02.l2 v0 v1 = some b) : xs02 v0 v1 = some b := tOf_intro xs02.un (fun _ => by kernel_rfl) (vlim_fn (callT_le E tab) rfl rfl rfl ((xs02.k v0 v1).trans ((by unfold xs02.t; repeat' first | exact Sub.ret | exact Sub.none | exact Sub.loop | apply Sub.cond | (apply Sub.bind; intro _) : Sub xs02.mk _ _) b h)))
theorem xs02.eq2 (v0 : List Int) (v1 : Int) (v2 : Int) (v3 : Int) {b : Int} (h : xs02.t2 some xs02.l2 v0 v1 v2 v3 = some b) : xs02.l2 v0 v1 v2 v3 = some b := tOf_intro xs02.un (fun _ => by kernel_rfl) (loopAtL_step ((xs02.k2 v0 v1 v2 v3).trans ((by unfold xs02.t2; repeat' first | exact Sub.ret | exact Sub.none | exact Sub.loop | apply Sub.cond | (apply Sub.bind; intro _) : Sub xs02.mk _ _) b h)))
noncomputable def xi0d.t {γ : Type} (ret : (Bool) → Option γ) (v0 : Int) (v1 : Int) : Option γ :=
 (impl_areColumns_1 (v0) (v1)).bind fun (r0 : Bool) =>
 ret (!r0)
theorem xi0d.k (v0 : Int) (v1 : Int) : topL E (callT E tab) 206 Try.f206 (xi0d.c v0 v1) = xi0d.t (fun b => some (xi0d.mk b)) v0 v1 := by kernel_rfl
theorem xi0d.eq (v0 : Int) (v1 : Int) {b : Bool} (h : xi0d.t some v0 v1 = some b) : xi0d v0 v1 = some b := tOf_intro xi0d.un (fun _ => by kernel_rfl) (vlim_fn (callT_le E tab) rfl rfl rfl ((xi0d.k v0 v1).trans ((by unfold xi0d.t; repeat' first | exact Sub.ret | exact Sub.none | exact Sub.loop | apply Sub.cond | (apply Sub.bind; intro _) : Sub xi0d.mk _ _) b h)))
noncomputable def impl_areColumns_1.t {γ : Type} (ret : (Bool) → Option γ) (v0 : Int) (v1 : Int) : Option γ :=
 (impl_isPlace (v0) (v1)).bind fun (r0 : Bool) =>
 ret (r0)
theorem impl_areColumns_1.k (v0 : Int) (v1 : Int) : topL E (callT E tab) 222 Try.f222 (impl_areColumns_1.c v0 v1) = impl_areColumns_1.t (fun b => some (impl_areColumns_1.mk b)) v0 v1 := by kernel_rfl
theorem impl_areColumns_1.eq (v0 : Int) (v1 : Int) {b : Bool} (h : impl_areColumns_1.t some v0 v1 = some b) : impl_areColumns_1 v0 v1 = some b := tOf_intro impl_areColumns_1.un (fun _ => by kernel_rfl) (vlim_fn (callT_le E tab) rfl rfl rfl ((impl_areColumns_1.k v0 v1).trans ((by unfold impl_areColumns_1.t; repeat' first | exact Sub.ret | exact Sub.none | exact Sub.loop | apply Sub.cond | (apply Sub.bind; intro _) : Sub impl_areColumns_1.mk _ _) b h)))
noncomputable def xi0l.q3 (v0 : List Int) (v1 : Int) (v2 : List (List Int × Int)) (v3 : List (List Int × Int)) (v4 : List (List Int × Int)) (v5 : Int) (v6 : Int) : Option R := loopAtL E (callT E tab) 196 Try.f196 2 [.r, .r, .l, .r, .b] (nn 1 (vc (.d .fro (.sl (.int .i64)) v0) :: nn 2 (⟨(.box false), [iL v1, .d .deep (.sl (.pair (.sl (.int .i64)) (.int .i64))) v2], false, false, false, 0, 0⟩ :: vc (.d .deep (.sl (.pair (.sl (.int .i64)) (.int .i64))) v3) :: nn 3 (vc (.d .fro (.sl (.pair (.sl (.int .i64)) (.int .i64))) v4) :: vc (iL v5) :: vc (iL v6) :: nn 19 ([])))))
noncomputable def xi0l.l3 (v0 : List Int) (v1 : Int) (v2 : List (List Int × Int)) (v3 : List (List Int × Int)) (v4 : List (List Int × Int)) (v5 : Int) (v6 : Int) : Option (Int × (List (List Int × Int))) := tOf xi0l.mk (xi0l.q3 v0 v1 v2 v3 v4 v5 v6)
noncomputable def xi0l.t {γ : Type} (ret : (Int × (List (List Int × Int))) → Option γ) (lp3 : (List Int) → Int → (List (List Int × Int)) → (List (List Int × Int)) → (List (List Int × Int)) → Int → Int → Option γ) (v0 : Int) (v1 : List (List Int × Int)) (v2 : List Int) : Option γ :=
 lp3 (v2) ((0 : Int)) ([]) ([]) (v1) ((↑v1.length : Int)) ((0 : Int))
noncomputable def xi0l.t3 {γ : Type} (ret : (Int × (List (List Int × Int))) → Option γ) (lp3 : (List Int) → Int → (List (List Int × Int)) → (List (List Int × Int)) → (List (List Int × Int)) → Int → Int → Option γ) (v0 : List Int) (v1 : Int) (v2 : List (List Int × Int)) (v3 : List (List Int × Int)) (v4 : List (List Int × Int)) (v5 : Int) (v6 : Int) : Option γ :=
 bif decide (v6 < v5) then
  bif decide ((0 : Int) ≤ v6) then
   bif decide (v6.toNat < v4.length) then
    (impl_Row_picked ((v4.getD v6.toNat ([], (0 : Int))).fst) (v0)).bind fun (r0 : (List Int)) =>
    bif decide (v3.length + [(r0, (v4.getD v6.toNat ([], (0 : Int))).snd)].length ≤ (4294967296 : Nat)) then
     lp3 (v0) (v1) (v2) (v3 ++ [(r0, (v4.getD v6.toNat ([], (0 : Int))).snd)]) (v4) (v5) (IntKind.i64.wrap (v6 + (1 : Int)))
    else
     none
   else
    none
  else
   none
 else
  (impl_summed ((↑v0.length : Int)) ([v3])).bind fun (r1 : Int × (List (List Int × Int))) =>
  ret (r1.fst, r1.snd)
theorem xi0l.k (v0 : Int) (v1 : List (List Int × Int)) (v2 : List Int) : topL E (callT E tab) 196 Try.f196 (xi0l.c v0 v1 v2) = xi0l.t (fun b => some (xi0l.mk b)) xi0l.q3 v0 v1 v2 := by kernel_rfl
theorem xi0l.k3 (v0 : List Int) (v1 : Int) (v2 : List (List Int × Int)) (v3 : List (List Int × Int)) (v4 : List (List Int × Int)) (v5 : Int) (v6 : Int) : roundL E (callT E tab) 196 Try.f196 2 [.r, .r, .l, .r, .b] (nn 1 (vc (.d .fro (.sl (.int .i64)) v0) :: nn 2 (⟨(.box false), [iL v1, .d .deep (.sl (.pair (.sl (.int .i64)) (.int .i64))) v2], false, false, false, 0, 0⟩ :: vc (.d .deep (.sl (.pair (.sl (.int .i64)) (.int .i64))) v3) :: nn 3 (vc (.d .fro (.sl (.pair (.sl (.int .i64)) (.int .i64))) v4) :: vc (iL v5) :: vc (iL v6) :: nn 19 ([]))))) = xi0l.t3 (fun b => some (xi0l.mk b)) xi0l.q3 v0 v1 v2 v3 v4 v5 v6 := by kernel_rfl
theorem xi0l.eq (v0 : Int) (v1 : List (List Int × Int)) (v2 : List Int) {b : Int × (List (List Int × Int))} (h : xi0l.t some xi0l.l3 v0 v1 v2 = some b) : xi0l v0 v1 v2 = some b := tOf_intro xi0l.un (fun _ => by kernel_rfl) (vlim_fn (callT_le E tab) rfl rfl rfl ((xi0l.k v0 v1 v2).trans ((by unfold xi0l.t; repeat' first | exact Sub.ret | exact Sub.none | exact Sub.loop | apply Sub.cond | (apply Sub.bind; intro _) : Sub xi0l.mk _ _) b h)))
theorem xi0l.eq3 (v0 : List Int) (v1 : Int) (v2 : List (List Int × Int)) (v3 : List (List Int × Int)) (v4 : List (List Int × Int)) (v5 : Int) (v6 : Int) {b : Int × (List (List Int × Int))} (h : xi0l.t3 some xi0l.l3 v0 v1 v2 v3 v4 v5 v6 = some b) : xi0l.l3 v0 v1 v2 v3 v4 v5 v6 = some b := tOf_intro xi0l.un (fun _ => by kernel_rfl) (loopAtL_step ((xi0l.k3 v0 v1 v2 v3 v4 v5 v6).trans ((by unfold xi0l.t3; repeat' first | exact Sub.ret | exact Sub.none | exact Sub.loop | apply Sub.cond | (apply Sub.bind; intro _) : Sub xi0l.mk _ _) b h)))
noncomputable def impl_Row_picked.q3 (v0 : List Int) (v1 : List Int) (v2 : List Int) (v3 : List Int) (v4 : Int) (v5 : Int) : Option R := loopAtL E (callT E tab) 210 Try.f210 2 [.r, .r, .l, .r, .b] (nn 2 (⟨(.box false), [.d .fro (.sl (.int .i64)) v0], false, false, false, 0, 0⟩ :: nn 1 (⟨(.box false), [.d .deep (.sl (.int .i64)) v1], false, false, false, 0, 0⟩ :: ⟨(.box false), [.d .deep (.sl (.int .i64)) v2], false, false, false, 0, 0⟩ :: nn 2 (vc (.d .fro (.sl (.int .i64)) v3) :: vc (iL v4) :: vc (iL v5) :: nn 15 ([])))))
noncomputable def impl_Row_picked.l3 (v0 : List Int) (v1 : List Int) (v2 : List Int) (v3 : List Int) (v4 : Int) (v5 : Int) : Option ((List Int)) := tOf impl_Row_picked.mk (impl_Row_picked.q3 v0 v1 v2 v3 v4 v5)
noncomputable def impl_Row_picked.t {γ : Type} (ret : ((List Int)) → Option γ) (lp3 : (List Int) → (List Int) → (List Int) → (List Int) → Int → Int → Option γ) (v0 : List Int) (v1 : List Int) : Option γ :=
 lp3 (v0) ([]) ([]) (v1) ((↑v1.length : Int)) ((0 : Int))
noncomputable def impl_Row_picked.t3 {γ : Type} (ret : ((List Int)) → Option γ) (lp3 : (List Int) → (List Int) → (List Int) → (List Int) → Int → Int → Option γ) (v0 : List Int) (v1 : List Int) (v2 : List Int) (v3 : List Int) (v4 : Int) (v5 : Int) : Option γ :=
 bif decide (v5 < v4) then
  bif decide ((0 : Int) ≤ v5) then
   bif decide (v5.toNat < v3.length) then
    bif decide ((0 : Int) ≤ v3.getD v5.toNat (0 : Int)) then
     bif decide ((v3.getD v5.toNat (0 : Int)).toNat < v0.length) then
      bif decide (v2.length + [v0.getD (v3.getD v5.toNat (0 : Int)).toNat (0 : Int)].length ≤ (4294967296 : Nat)) then
       lp3 (v0) (v1) (v2 ++ [v0.getD (v3.getD v5.toNat (0 : Int)).toNat (0 : Int)]) (v3) (v4) (IntKind.i64.wrap (v5 + (1 : Int)))
      else
       none
     else
      none
    else
     none
   else
    none
  else
   none
 else
  ret (v2)
theorem impl_Row_picked.k (v0 : List Int) (v1 : List Int) : topL E (callT E tab) 210 Try.f210 (impl_Row_picked.c v0 v1) = impl_Row_picked.t (fun b => some (impl_Row_picked.mk b)) impl_Row_picked.q3 v0 v1 := by kernel_rfl
theorem impl_Row_picked.k3 (v0 : List Int) (v1 : List Int) (v2 : List Int) (v3 : List Int) (v4 : Int) (v5 : Int) : roundL E (callT E tab) 210 Try.f210 2 [.r, .r, .l, .r, .b] (nn 2 (⟨(.box false), [.d .fro (.sl (.int .i64)) v0], false, false, false, 0, 0⟩ :: nn 1 (⟨(.box false), [.d .deep (.sl (.int .i64)) v1], false, false, false, 0, 0⟩ :: ⟨(.box false), [.d .deep (.sl (.int .i64)) v2], false, false, false, 0, 0⟩ :: nn 2 (vc (.d .fro (.sl (.int .i64)) v3) :: vc (iL v4) :: vc (iL v5) :: nn 15 ([]))))) = impl_Row_picked.t3 (fun b => some (impl_Row_picked.mk b)) impl_Row_picked.q3 v0 v1 v2 v3 v4 v5 := by kernel_rfl
theorem impl_Row_picked.eq (v0 : List Int) (v1 : List Int) {b : (List Int)} (h : impl_Row_picked.t some impl_Row_picked.l3 v0 v1 = some b) : impl_Row_picked v0 v1 = some b := tOf_intro impl_Row_picked.un (fun _ => by kernel_rfl) (vlim_fn (callT_le E tab) rfl rfl rfl ((impl_Row_picked.k v0 v1).trans ((by unfold impl_Row_picked.t; repeat' first | exact Sub.ret | exact Sub.none | exact Sub.loop | apply Sub.cond | (apply Sub.bind; intro _) : Sub impl_Row_picked.mk _ _) b h)))
theorem impl_Row_picked.eq3 (v0 : List Int) (v1 : List Int) (v2 : List Int) (v3 : List Int) (v4 : Int) (v5 : Int) {b : (List Int)} (h : impl_Row_picked.t3 some impl_Row_picked.l3 v0 v1 v2 v3 v4 v5 = some b) : impl_Row_picked.l3 v0 v1 v2 v3 v4 v5 = some b := tOf_intro impl_Row_picked.un (fun _ => by kernel_rfl) (loopAtL_step ((impl_Row_picked.k3 v0 v1 v2 v3 v4 v5).trans ((by unfold impl_Row_picked.t3; repeat' first | exact Sub.ret | exact Sub.none | exact Sub.loop | apply Sub.cond | (apply Sub.bind; intro _) : Sub impl_Row_picked.mk _ _) b h)))
end GoV
