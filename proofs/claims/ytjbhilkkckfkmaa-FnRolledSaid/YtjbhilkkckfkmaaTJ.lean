/- A part of the proof of FnRolled: an interpreter of the model over plain data, its soundness, and what it makes of the functions that the statement reaches. Conditions: none beyond what the given statement itself says. -/
import Derived.Test.YtjbhilkkckfkmaaTI
set_option linter.unusedVariables false
set_option linter.unusedSimpArgs false
set_option linter.unnecessarySimpa false
set_option linter.unusedSectionVars false
/- Equations of the program's functions (printed by wip/tools/emit.py). -/
namespace GoV
open Go Go.Proofs
set_option maxRecDepth 100000

def xi26.s5 (v0 : Zc) (v1 : Zc) (v2 : Int) (v3 : Int) : List Cell := nn 4 (vc (.d .sha (.sl (.pair (.sl (.int .i64)) (.pair (.int .i64) (.int .i64)))) v0) :: vc (.d .deep (.sl (.pair (.sl (.int .i64)) (.pair (.int .i64) (.int .i64)))) v1) :: nn 7 (vc (.lent ⟨4, 0, none⟩ none) :: vc (iL v2) :: vc (iL v3) :: nn 54 ([])))
noncomputable def xi26.q5 := fun v0 v1 v2 v3 => loopAtL E (callT E tab) 40 Try.f40 1 [.r, .r, .r, .r, .l, .r, .b] (xi26.s5 v0 v1 v2 v3)
noncomputable def xi26.l5 := fun v0 v1 v2 v3 => tOf xi26.mk (xi26.q5 v0 v1 v2 v3)
noncomputable def xi26.t {γ : Type} (ret : (Zc × Bool) → Option γ) (lp5 : Zc → Zc → Int → Int → Option γ) (v0 : List Zc) : Option γ :=
 (xs0k (v0)).bind fun (r0 : Zc) =>
 (xs03 (r0)).bind fun (r1 : Zc) =>
 lp5 (r1) ([]) ((↑r1.length : Int)) ((0 : Int))
noncomputable def xi26.t5 {γ : Type} (ret : (Zc × Bool) → Option γ) (lp5 : Zc → Zc → Int → Int → Option γ) (v0 : Zc) (v1 : Zc) (v2 : Int) (v3 : Int) : Option γ :=
 bif decide (v3 < v2) then
  bif decide ((0 : Int) ≤ v3) then
   bif decide (v3.toNat < v0.length) then
    bif decide (v3.toNat < v0.length) then
     bif decide (IntKind.i64.wrap ((↑v1.length : Int) - (1 : Int)) ≥ (0 : Int)) then
      bif decide ((0 : Int) ≤ IntKind.i64.wrap ((↑v1.length : Int) - (1 : Int))) then
       bif decide ((IntKind.i64.wrap ((↑v1.length : Int) - (1 : Int))).toNat < v1.length) then
        bif decide ((IntKind.i64.wrap ((↑v1.length : Int) - (1 : Int))).toNat < v1.length) then
         bif decide ((IntKind.i64.wrap ((↑v1.length : Int) - (1 : Int))).toNat < v1.length) then
          (xi1b ((v1.getD (IntKind.i64.wrap ((↑v1.length : Int) - (1 : Int))).toNat ([], (0 : Int), (0 : Int))).fst) ((v0.getD v3.toNat ([], (0 : Int), (0 : Int))).fst)).bind fun (r2 : Int) =>
          bif r2 == (0 : Int) then
           bif decide ((0 : Int) ≤ IntKind.i64.wrap ((↑v1.length : Int) - (1 : Int))) then
            bif decide ((IntKind.i64.wrap ((↑v1.length : Int) - (1 : Int))).toNat < v1.length) then
             bif decide ((IntKind.i64.wrap ((↑v1.length : Int) - (1 : Int))).toNat < v1.length) then
              bif decide ((0 : Int) ≤ IntKind.i64.wrap ((↑v1.length : Int) - (1 : Int))) then
               bif decide ((IntKind.i64.wrap ((↑v1.length : Int) - (1 : Int))).toNat < v1.length) then
                bif decide ((IntKind.i64.wrap ((↑v1.length : Int) - (1 : Int))).toNat < v1.length) then
                 bif decide ((0 : Int) ≤ IntKind.i64.wrap ((↑v1.length : Int) - (1 : Int))) then
                  bif decide   ((IntKind.i64.wrap ((↑v1.length : Int) - (1 : Int))).toNat <     (v1.set (IntKind.i64.wrap ((↑v1.length : Int) - (1 : Int))).toNat         ((v1.getD (IntKind.i64.wrap ((↑v1.length : Int) - (1 : Int))).toNat ([], (0 : Int), (0 : Int))).fst,           IntKind.i64.wrap             ((v1.getD (IntKind.i64.wrap ((↑v1.length : Int) - (1 : Int))).toNat ([], (0 : Int), (0 : Int))).snd.fst +               (v0.getD v3.toNat ([], (0 : Int), (0 : Int))).snd.fst),           (v1.getD (IntKind.i64.wrap ((↑v1.length : Int) - (1 : Int))).toNat                 ([], (0 : Int), (0 : Int))).snd.snd)).length) then
                   bif decide   ((IntKind.i64.wrap ((↑v1.length : Int) - (1 : Int))).toNat <     (v1.set (IntKind.i64.wrap ((↑v1.length : Int) - (1 : Int))).toNat         ((v1.getD (IntKind.i64.wrap ((↑v1.length : Int) - (1 : Int))).toNat ([], (0 : Int), (0 : Int))).fst,           IntKind.i64.wrap             ((v1.getD (IntKind.i64.wrap ((↑v1.length : Int) - (1 : Int))).toNat ([], (0 : Int), (0 : Int))).snd.fst +               (v0.getD v3.toNat ([], (0 : Int), (0 : Int))).snd.fst),           (v1.getD (IntKind.i64.wrap ((↑v1.length : Int) - (1 : Int))).toNat                 ([], (0 : Int), (0 : Int))).snd.snd)).length) then
                    bif decide ((0 : Int) ≤ IntKind.i64.wrap ((↑v1.length : Int) - (1 : Int))) then
                     bif decide   ((IntKind.i64.wrap ((↑v1.length : Int) - (1 : Int))).toNat <     (v1.set (IntKind.i64.wrap ((↑v1.length : Int) - (1 : Int))).toNat         ((v1.getD (IntKind.i64.wrap ((↑v1.length : Int) - (1 : Int))).toNat ([], (0 : Int), (0 : Int))).fst,           IntKind.i64.wrap             ((v1.getD (IntKind.i64.wrap ((↑v1.length : Int) - (1 : Int))).toNat ([], (0 : Int), (0 : Int))).snd.fst +               (v0.getD v3.toNat ([], (0 : Int), (0 : Int))).snd.fst),           (v1.getD (IntKind.i64.wrap ((↑v1.length : Int) - (1 : Int))).toNat                 ([], (0 : Int), (0 : Int))).snd.snd)).length) then
                      bif decide   ((IntKind.i64.wrap ((↑v1.length : Int) - (1 : Int))).toNat <     (v1.set (IntKind.i64.wrap ((↑v1.length : Int) - (1 : Int))).toNat         ((v1.getD (IntKind.i64.wrap ((↑v1.length : Int) - (1 : Int))).toNat ([], (0 : Int), (0 : Int))).fst,           IntKind.i64.wrap             ((v1.getD (IntKind.i64.wrap ((↑v1.length : Int) - (1 : Int))).toNat ([], (0 : Int), (0 : Int))).snd.fst +               (v0.getD v3.toNat ([], (0 : Int), (0 : Int))).snd.fst),           (v1.getD (IntKind.i64.wrap ((↑v1.length : Int) - (1 : Int))).toNat                 ([], (0 : Int), (0 : Int))).snd.snd)).length) then
                       lp5 (v0) ((v1.set (IntKind.i64.wrap ((↑v1.length : Int) - (1 : Int))).toNat       ((v1.getD (IntKind.i64.wrap ((↑v1.length : Int) - (1 : Int))).toNat ([], (0 : Int), (0 : Int))).fst,         IntKind.i64.wrap           ((v1.getD (IntKind.i64.wrap ((↑v1.length : Int) - (1 : Int))).toNat ([], (0 : Int), (0 : Int))).snd.fst +             (v0.getD v3.toNat ([], (0 : Int), (0 : Int))).snd.fst),         (v1.getD (IntKind.i64.wrap ((↑v1.length : Int) - (1 : Int))).toNat ([], (0 : Int), (0 : Int))).snd.snd)).set   (IntKind.i64.wrap ((↑v1.length : Int) - (1 : Int))).toNat   (((v1.set (IntKind.i64.wrap ((↑v1.length : Int) - (1 : Int))).toNat             ((v1.getD (IntKind.i64.wrap ((↑v1.length : Int) - (1 : Int))).toNat ([], (0 : Int), (0 : Int))).fst,               IntKind.i64.wrap                 ((v1.getD (IntKind.i64.wrap ((↑v1.length : Int) - (1 : Int))).toNat                         ([], (0 : Int), (0 : Int))).snd.fst +                   (v0.getD v3.toNat ([], (0 : Int), (0 : Int))).snd.fst),               (v1.getD (IntKind.i64.wrap ((↑v1.length : Int) - (1 : Int))).toNat                     ([], (0 : Int), (0 : Int))).snd.snd)).getD         (IntKind.i64.wrap ((↑v1.length : Int) - (1 : Int))).toNat ([], (0 : Int), (0 : Int))).fst,     ((v1.set (IntKind.i64.wrap ((↑v1.length : Int) - (1 : Int))).toNat               ((v1.getD (IntKind.i64.wrap ((↑v1.length : Int) - (1 : Int))).toNat ([], (0 : Int), (0 : Int))).fst,                 IntKind.i64.wrap                   ((v1.getD (IntKind.i64.wrap ((↑v1.length : Int) - (1 : Int))).toNat                           ([], (0 : Int), (0 : Int))).snd.fst +                     (v0.getD v3.toNat ([], (0 : Int), (0 : Int))).snd.fst),                 (v1.getD (IntKind.i64.wrap ((↑v1.length : Int) - (1 : Int))).toNat                       ([], (0 : Int), (0 : Int))).snd.snd)).getD           (IntKind.i64.wrap ((↑v1.length : Int) - (1 : Int))).toNat ([], (0 : Int), (0 : Int))).snd.fst,     IntKind.i64.wrap       (((v1.set (IntKind.i64.wrap ((↑v1.length : Int) - (1 : Int))).toNat                   ((v1.getD (IntKind.i64.wrap ((↑v1.length : Int) - (1 : Int))).toNat                         ([], (0 : Int), (0 : Int))).fst,                     IntKind.i64.wrap                       ((v1.getD (IntKind.i64.wrap ((↑v1.length : Int) - (1 : Int))).toNat                               ([], (0 : Int), (0 : Int))).snd.fst +                         (v0.getD v3.toNat ([], (0 : Int), (0 : Int))).snd.fst),                     (v1.getD (IntKind.i64.wrap ((↑v1.length : Int) - (1 : Int))).toNat                           ([], (0 : Int), (0 : Int))).snd.snd)).getD               (IntKind.i64.wrap ((↑v1.length : Int) - (1 : Int))).toNat ([], (0 : Int), (0 : Int))).snd.snd +         (v0.getD v3.toNat ([], (0 : Int), (0 : Int))).snd.snd))) (v2) (IntKind.i64.wrap (v3 + (1 : Int)))
                      else
                       none
                     else
                      none
                    else
                     none
                   else
                    none
                  else
                   none
                 else
                  none
                else
                 none
               else
                none
              else
               none
             else
              none
            else
             none
           else
            none
          else
           (xi25 ((v0.getD v3.toNat ([], (0 : Int), (0 : Int))).fst)).bind fun (r3 : (List Int)) =>
           bif decide   (v1.length +       [(r3, (v0.getD v3.toNat ([], (0 : Int), (0 : Int))).snd.fst,             (v0.getD v3.toNat ([], (0 : Int), (0 : Int))).snd.snd)].length ≤     (4294967296 : Nat)) then
            lp5 (v0) (v1 ++   [(r3, (v0.getD v3.toNat ([], (0 : Int), (0 : Int))).snd.fst, (v0.getD v3.toNat ([], (0 : Int), (0 : Int))).snd.snd)]) (v2) (IntKind.i64.wrap (v3 + (1 : Int)))
           else
            none
         else
          none
        else
         none
       else
        none
      else
       none
     else
      (xi25 ((v0.getD v3.toNat ([], (0 : Int), (0 : Int))).fst)).bind fun (r4 : (List Int)) =>
      bif decide   (v1.length +       [(r4, (v0.getD v3.toNat ([], (0 : Int), (0 : Int))).snd.fst,             (v0.getD v3.toNat ([], (0 : Int), (0 : Int))).snd.snd)].length ≤     (4294967296 : Nat)) then
       lp5 (v0) (v1 ++   [(r4, (v0.getD v3.toNat ([], (0 : Int), (0 : Int))).snd.fst, (v0.getD v3.toNat ([], (0 : Int), (0 : Int))).snd.snd)]) (v2) (IntKind.i64.wrap (v3 + (1 : Int)))
      else
       none
    else
     none
   else
    none
  else
   none
 else
  (xs06 (v1)).bind fun (r5 : Zc) =>
  (xi1d (r5)).bind fun (r6 : Bool) =>
  bif !r6 then
   ret ([], Bool.false)
  else
   ret (r5, Bool.true)
theorem xi26.k (v0) : topL E (callT E tab) 40 Try.f40 (xi26.c v0) = xi26.t (fun b => some (xi26.mk b)) xi26.q5 v0 := by kernel_rfl
theorem xi26.k5 (v0 v1 v2 v3) : roundL E (callT E tab) 40 Try.f40 1 [.r, .r, .r, .r, .l, .r, .b] (xi26.s5 v0 v1 v2 v3) = xi26.t5 (fun b => some (xi26.mk b)) xi26.q5 v0 v1 v2 v3 := by kernel_rfl
theorem xi26.eq (v0) {b} (h : xi26.t some xi26.l5 v0 = some b) : xi26 v0 = some b := tOf_intro xi26.un (fun _ => by kernel_rfl) (vlim_fn (callT_le E tab) rfl rfl rfl ((xi26.k v0).trans ((by unfold xi26.t; repeat' first | exact Sub.ret | exact Sub.none | exact Sub.loop | apply Sub.cond | (apply Sub.bind; intro _) : Sub xi26.mk _ _) b h)))
theorem xi26.eq5 (v0 v1 v2 v3) {b} (h : xi26.t5 some xi26.l5 v0 v1 v2 v3 = some b) : xi26.l5 v0 v1 v2 v3 = some b := tOf_intro xi26.un (fun _ => by kernel_rfl) (loopAtL_step ((xi26.k5 v0 v1 v2 v3).trans ((by unfold xi26.t5; repeat' first | exact Sub.ret | exact Sub.none | exact Sub.loop | apply Sub.cond | (apply Sub.bind; intro _) : Sub xi26.mk _ _) b h)))
def xs0k.s11 (v0 : Zc) (v1 : List Zc) (v2 : Int) (v3 : Int) : List Cell := nn 6 (vc (.d .sha (.sl (.pair (.sl (.int .i64)) (.pair (.int .i64) (.int .i64)))) v0) :: nn 18 (vc (.d .fro (.sl (.sl (.pair (.sl (.int .i64)) (.pair (.int .i64) (.int .i64))))) v1) :: vc (iL v2) :: vc (iL v3) :: nn 8 ([])))
noncomputable def xs0k.q11 := fun v0 v1 v2 v3 => loopAtL E (callT E tab) 74 Try.f74 1 [.r, .r, .r, .r, .l, .r, .b] (xs0k.s11 v0 v1 v2 v3)
noncomputable def xs0k.l11 := fun v0 v1 v2 v3 => tOf xs0k.mk (xs0k.q11 v0 v1 v2 v3)
def xs0k.s3 (v0 : List Zc) (v1 : Int) (v2 : List Zc) (v3 : Int) (v4 : Int) : List Cell := vc (.d .fro (.sl (.sl (.pair (.sl (.int .i64)) (.pair (.int .i64) (.int .i64))))) v0) :: nn 2 (vc (iL v1) :: nn 5 (vc (.d .fro (.sl (.sl (.pair (.sl (.int .i64)) (.pair (.int .i64) (.int .i64))))) v2) :: vc (iL v3) :: vc (iL v4) :: nn 24 ([])))
noncomputable def xs0k.q3 := fun v0 v1 v2 v3 v4 => loopAtL E (callT E tab) 74 Try.f74 1 [.r, .r, .l, .r, .b] (xs0k.s3 v0 v1 v2 v3 v4)
noncomputable def xs0k.l3 := fun v0 v1 v2 v3 v4 => tOf xs0k.mk (xs0k.q3 v0 v1 v2 v3 v4)
noncomputable def xs0k.t {γ : Type} (ret : (Zc) → Option γ) (lp11 : Zc → (List Zc) → Int → Int → Option γ) (lp3 : (List Zc) → Int → (List Zc) → Int → Int → Option γ) (v0 : List Zc) : Option γ :=
 lp3 (v0) ((0 : Int)) (v0) ((↑v0.length : Int)) ((0 : Int))
noncomputable def xs0k.t11 {γ : Type} (ret : (Zc) → Option γ) (lp11 : Zc → (List Zc) → Int → Int → Option γ) (lp3 : (List Zc) → Int → (List Zc) → Int → Int → Option γ) (v0 : Zc) (v1 : List Zc) (v2 : Int) (v3 : Int) : Option γ :=
 bif decide (v3 < v2) then
  bif decide ((0 : Int) ≤ v3) then
   bif decide (v3.toNat < v1.length) then
    bif decide (v0.length + (v1.getD v3.toNat []).length ≤ (4294967296 : Nat)) then
     lp11 (v0 ++ v1.getD v3.toNat []) (v1) (v2) (IntKind.i64.wrap (v3 + (1 : Int)))
    else
     none
   else
    none
  else
   none
 else
  ret (v0)
noncomputable def xs0k.t3 {γ : Type} (ret : (Zc) → Option γ) (lp11 : Zc → (List Zc) → Int → Int → Option γ) (lp3 : (List Zc) → Int → (List Zc) → Int → Int → Option γ) (v0 : List Zc) (v1 : Int) (v2 : List Zc) (v3 : Int) (v4 : Int) : Option γ :=
 bif decide (v4 < v3) then
  bif decide ((0 : Int) ≤ v4) then
   bif decide (v4.toNat < v2.length) then
    bif decide (IntKind.i64.wrap (v1 + (↑(v2.getD v4.toNat []).length : Int)) < (0 : Int)) then
     none
    else
     lp3 (v0) (IntKind.i64.wrap (v1 + (↑(v2.getD v4.toNat []).length : Int))) (v2) (v3) (IntKind.i64.wrap (v4 + (1 : Int)))
   else
    none
  else
   none
 else
  (xs0i (v1)).bind fun (r0 : Zc) =>
  lp11 (r0) (v0) ((↑v0.length : Int)) ((0 : Int))
theorem xs0k.k (v0) : topL E (callT E tab) 74 Try.f74 (xs0k.c v0) = xs0k.t (fun b => some (xs0k.mk b)) xs0k.q11 xs0k.q3 v0 := by kernel_rfl
theorem xs0k.k11 (v0 v1 v2 v3) : roundL E (callT E tab) 74 Try.f74 1 [.r, .r, .r, .r, .l, .r, .b] (xs0k.s11 v0 v1 v2 v3) = xs0k.t11 (fun b => some (xs0k.mk b)) xs0k.q11 xs0k.q3 v0 v1 v2 v3 := by kernel_rfl
theorem xs0k.k3 (v0 v1 v2 v3 v4) : roundL E (callT E tab) 74 Try.f74 1 [.r, .r, .l, .r, .b] (xs0k.s3 v0 v1 v2 v3 v4) = xs0k.t3 (fun b => some (xs0k.mk b)) xs0k.q11 xs0k.q3 v0 v1 v2 v3 v4 := by kernel_rfl
theorem xs0k.eq (v0) {b} (h : xs0k.t some xs0k.l11 xs0k.l3 v0 = some b) : xs0k v0 = some b := tOf_intro xs0k.un (fun _ => by kernel_rfl) (vlim_fn (callT_le E tab) rfl rfl rfl ((xs0k.k v0).trans ((by unfold xs0k.t; repeat' first | exact Sub.ret | exact Sub.none | exact Sub.loop | apply Sub.cond | (apply Sub.bind; intro _) : Sub xs0k.mk _ _) b h)))
theorem xs0k.eq11 (v0 v1 v2 v3) {b} (h : xs0k.t11 some xs0k.l11 xs0k.l3 v0 v1 v2 v3 = some b) : xs0k.l11 v0 v1 v2 v3 = some b := tOf_intro xs0k.un (fun _ => by kernel_rfl) (loopAtL_step ((xs0k.k11 v0 v1 v2 v3).trans ((by unfold xs0k.t11; repeat' first | exact Sub.ret | exact Sub.none | exact Sub.loop | apply Sub.cond | (apply Sub.bind; intro _) : Sub xs0k.mk _ _) b h)))
theorem xs0k.eq3 (v0 v1 v2 v3 v4) {b} (h : xs0k.t3 some xs0k.l11 xs0k.l3 v0 v1 v2 v3 v4 = some b) : xs0k.l3 v0 v1 v2 v3 v4 = some b := tOf_intro xs0k.un (fun _ => by kernel_rfl) (loopAtL_step ((xs0k.k3 v0 v1 v2 v3 v4).trans ((by unfold xs0k.t3; repeat' first | exact Sub.ret | exact Sub.none | exact Sub.loop | apply Sub.cond | (apply Sub.bind; intro _) : Sub xs0k.mk _ _) b h)))
noncomputable def xs0i.t {γ : Type} (ret : (Zc) → Option γ) (v0 : Int) : Option γ :=
 bif decide (v0 < (0 : Int)) then
  none
 else
  bif decide (IntKind.i64.wrap (v0 - IntKind.i64.wrap ((0 : Int) - (0 : Int))) > (0 : Int)) then
   bif decide ((1 : Int) ≤ IntKind.i64.wrap (v0 - IntKind.i64.wrap ((0 : Int) - (0 : Int)))) then
    bif decide (IntKind.i64.wrap (v0 - IntKind.i64.wrap ((0 : Int) - (0 : Int))) ≤ (↑(4294967296 : Nat) : Int)) then
     ret (List.take ((0 : Int) - Option.none.getD (0 : Int)).toNat   (List.drop (Option.none.getD (0 : Int)).toNat     (List.replicate (IntKind.i64.wrap (v0 - IntKind.i64.wrap ((0 : Int) - (0 : Int)))).toNat       ([], (0 : Int), (0 : Int)))))
    else
     none
   else
    none
  else
   ret ([])
theorem xs0i.k (v0) : topL E (callT E tab) 104 Try.f104 (xs0i.c v0) = xs0i.t (fun b => some (xs0i.mk b)) v0 := by kernel_rfl
theorem xs0i.eq (v0) {b} (h : xs0i.t some v0 = some b) : xs0i v0 = some b := tOf_intro xs0i.un (fun _ => by kernel_rfl) (vlim_fn (callT_le E tab) rfl rfl rfl ((xs0i.k v0).trans ((by unfold xs0i.t; repeat' first | exact Sub.ret | exact Sub.none | exact Sub.loop | apply Sub.cond | (apply Sub.bind; intro _) : Sub xs0i.mk _ _) b h)))
noncomputable def xs03.t {γ : Type} (ret : (Zc) → Option γ) (v0 : Zc) : Option γ :=
 (xs0f (v0) ((↑v0.length : Int))).bind fun (r0 : Zc) =>
 ret (r0)
theorem xs03.k (v0) : topL E (callT E tab) 75 Try.f75 (xs03.c v0) = xs03.t (fun b => some (xs03.mk b)) v0 := by kernel_rfl
theorem xs03.eq (v0) {b} (h : xs03.t some v0 = some b) : xs03 v0 = some b := tOf_intro xs03.un (fun _ => by kernel_rfl) (vlim_fn (callT_le E tab) rfl rfl rfl ((xs03.k v0).trans ((by unfold xs03.t; repeat' first | exact Sub.ret | exact Sub.none | exact Sub.loop | apply Sub.cond | (apply Sub.bind; intro _) : Sub xs03.mk _ _) b h)))
def xs0f.s9 (v0 : Zc) (v1 : Int) (v2 : Int) (v3 : Int) (v4 : Int) : List Cell := ⟨(.val .one), [.d .sha (.sl (.pair (.sl (.int .i64)) (.pair (.int .i64) (.int .i64)))) v0], true, false, false, 0, 0⟩ :: vc (iL v1) :: vc (.fn 76 []) :: nn 3 (vc (iL v2) :: vc (iL v3) :: vc (iL v4) :: nn 54 ([]))
noncomputable def xs0f.q9 := fun v0 v1 v2 v3 v4 => loopAtL E (callT E tab) 105 Try.f105 3 [.r, .r, .r, .r, .b, .o, .r, .b, .r, .l, .b] (xs0f.s9 v0 v1 v2 v3 v4)
noncomputable def xs0f.l9 := fun v0 v1 v2 v3 v4 => tOf xs0f.mk (xs0f.q9 v0 v1 v2 v3 v4)
def xs0f.s7 (v0 : Zc) (v1 : Int) (v2 : Int) : List Cell := ⟨(.val .one), [.d .sha (.sl (.pair (.sl (.int .i64)) (.pair (.int .i64) (.int .i64)))) v0], true, false, false, 0, 0⟩ :: vc (iL v1) :: vc (.fn 76 []) :: nn 3 (vc (iL v2) :: nn 56 ([]))
noncomputable def xs0f.q7 := fun v0 v1 v2 => loopAtL E (callT E tab) 105 Try.f105 3 [.r, .r, .r, .r, .b] (xs0f.s7 v0 v1 v2)
noncomputable def xs0f.l7 := fun v0 v1 v2 => tOf xs0f.mk (xs0f.q7 v0 v1 v2)
def xs0f.s2 (v0 : Zc) (v1 : Int) (v2 : Int) (v3 : Int) (v4 : Int) : List Cell := ⟨(.val .one), [.d .sha (.sl (.pair (.sl (.int .i64)) (.pair (.int .i64) (.int .i64)))) v0], true, false, false, 0, 0⟩ :: vc (iL v1) :: vc (.fn 76 []) :: nn 3 (vc (iL v2) :: vc (iL v3) :: vc (iL v4) :: nn 54 ([]))
noncomputable def xs0f.q2 := fun v0 v1 v2 v3 v4 => loopAtL E (callT E tab) 105 Try.f105 3 [.r, .r, .l, .b] (xs0f.s2 v0 v1 v2 v3 v4)
noncomputable def xs0f.l2 := fun v0 v1 v2 v3 v4 => tOf xs0f.mk (xs0f.q2 v0 v1 v2 v3 v4)
noncomputable def xs0f.t {γ : Type} (ret : (Zc) → Option γ) (lp9 : Zc → Int → Int → Int → Int → Option γ) (lp7 : Zc → Int → Int → Option γ) (lp2 : Zc → Int → Int → Int → Int → Option γ) (v0 : Zc) (v1 : Int) : Option γ :=
 lp2 (v0) (v1) ((20 : Int)) ((0 : Int)) ((20 : Int))
noncomputable def xs0f.t9 {γ : Type} (ret : (Zc) → Option γ) (lp9 : Zc → Int → Int → Int → Int → Option γ) (lp7 : Zc → Int → Int → Option γ) (lp2 : Zc → Int → Int → Int → Int → Option γ) (v0 : Zc) (v1 : Int) (v2 : Int) (v3 : Int) (v4 : Int) : Option γ :=
 bif decide (v4 ≤ v1) then
  (xs0d (v0) (v3) (IntKind.i64.wrap (v3 + v2)) (v4)).bind fun (r2 : Zc) =>
  lp9 (r2) (v1) (v2) (v4) (IntKind.i64.wrap (v4 + IntKind.i64.wrap ((2 : Int) * v2)))
 else
  bif decide (IntKind.i64.wrap (v3 + v2) < v1) then
   (xs0d (v0) (v3) (IntKind.i64.wrap (v3 + v2)) (v1)).bind fun (r3 : Zc) =>
   lp7 (r3) (v1) (IntKind.i64.wrap (v2 * (2 : Int)))
  else
   lp7 (v0) (v1) (IntKind.i64.wrap (v2 * (2 : Int)))
noncomputable def xs0f.t7 {γ : Type} (ret : (Zc) → Option γ) (lp9 : Zc → Int → Int → Int → Int → Option γ) (lp7 : Zc → Int → Int → Option γ) (lp2 : Zc → Int → Int → Int → Int → Option γ) (v0 : Zc) (v1 : Int) (v2 : Int) : Option γ :=
 bif decide (v2 < v1) then
  lp9 (v0) (v1) (v2) ((0 : Int)) (IntKind.i64.wrap ((2 : Int) * v2))
 else
  ret (v0)
noncomputable def xs0f.t2 {γ : Type} (ret : (Zc) → Option γ) (lp9 : Zc → Int → Int → Int → Int → Option γ) (lp7 : Zc → Int → Int → Option γ) (lp2 : Zc → Int → Int → Int → Int → Option γ) (v0 : Zc) (v1 : Int) (v2 : Int) (v3 : Int) (v4 : Int) : Option γ :=
 bif decide (v4 ≤ v1) then
  (xs08 (v0) (v3) (v4)).bind fun (r0 : Zc) =>
  lp2 (r0) (v1) (v2) (v4) (IntKind.i64.wrap (v4 + v2))
 else
  (xs08 (v0) (v3) (v1)).bind fun (r1 : Zc) =>
  lp7 (r1) (v1) (v2)
theorem xs0f.k (v0 v1) : topL E (callT E tab) 105 Try.f105 (xs0f.c v0 v1) = xs0f.t (fun b => some (xs0f.mk b)) xs0f.q9 xs0f.q7 xs0f.q2 v0 v1 := by kernel_rfl
theorem xs0f.k9 (v0 v1 v2 v3 v4) : roundL E (callT E tab) 105 Try.f105 3 [.r, .r, .r, .r, .b, .o, .r, .b, .r, .l, .b] (xs0f.s9 v0 v1 v2 v3 v4) = xs0f.t9 (fun b => some (xs0f.mk b)) xs0f.q9 xs0f.q7 xs0f.q2 v0 v1 v2 v3 v4 := by kernel_rfl
theorem xs0f.k7 (v0 v1 v2) : roundL E (callT E tab) 105 Try.f105 3 [.r, .r, .r, .r, .b] (xs0f.s7 v0 v1 v2) = xs0f.t7 (fun b => some (xs0f.mk b)) xs0f.q9 xs0f.q7 xs0f.q2 v0 v1 v2 := by kernel_rfl
theorem xs0f.k2 (v0 v1 v2 v3 v4) : roundL E (callT E tab) 105 Try.f105 3 [.r, .r, .l, .b] (xs0f.s2 v0 v1 v2 v3 v4) = xs0f.t2 (fun b => some (xs0f.mk b)) xs0f.q9 xs0f.q7 xs0f.q2 v0 v1 v2 v3 v4 := by kernel_rfl
theorem xs0f.eq (v0 v1) {b} (h : xs0f.t some xs0f.l9 xs0f.l7 xs0f.l2 v0 v1 = some b) : xs0f v0 v1 = some b := tOf_intro xs0f.un (fun _ => by kernel_rfl) (vlim_fn (callT_le E tab) rfl rfl rfl ((xs0f.k v0 v1).trans ((by unfold xs0f.t; repeat' first | exact Sub.ret | exact Sub.none | exact Sub.loop | apply Sub.cond | (apply Sub.bind; intro _) : Sub xs0f.mk _ _) b h)))
theorem xs0f.eq9 (v0 v1 v2 v3 v4) {b} (h : xs0f.t9 some xs0f.l9 xs0f.l7 xs0f.l2 v0 v1 v2 v3 v4 = some b) : xs0f.l9 v0 v1 v2 v3 v4 = some b := tOf_intro xs0f.un (fun _ => by kernel_rfl) (loopAtL_step ((xs0f.k9 v0 v1 v2 v3 v4).trans ((by unfold xs0f.t9; repeat' first | exact Sub.ret | exact Sub.none | exact Sub.loop | apply Sub.cond | (apply Sub.bind; intro _) : Sub xs0f.mk _ _) b h)))
theorem xs0f.eq7 (v0 v1 v2) {b} (h : xs0f.t7 some xs0f.l9 xs0f.l7 xs0f.l2 v0 v1 v2 = some b) : xs0f.l7 v0 v1 v2 = some b := tOf_intro xs0f.un (fun _ => by kernel_rfl) (loopAtL_step ((xs0f.k7 v0 v1 v2).trans ((by unfold xs0f.t7; repeat' first | exact Sub.ret | exact Sub.none | exact Sub.loop | apply Sub.cond | (apply Sub.bind; intro _) : Sub xs0f.mk _ _) b h)))
theorem xs0f.eq2 (v0 v1 v2 v3 v4) {b} (h : xs0f.t2 some xs0f.l9 xs0f.l7 xs0f.l2 v0 v1 v2 v3 v4 = some b) : xs0f.l2 v0 v1 v2 v3 v4 = some b := tOf_intro xs0f.un (fun _ => by kernel_rfl) (loopAtL_step ((xs0f.k2 v0 v1 v2 v3 v4).trans ((by unfold xs0f.t2; repeat' first | exact Sub.ret | exact Sub.none | exact Sub.loop | apply Sub.cond | (apply Sub.bind; intro _) : Sub xs0f.mk _ _) b h)))
def xs08.s4 (v0 : Zc) (v1 : Int) (v2 : Int) (v3 : Int) (v4 : Int) : List Cell := ⟨(.val .one), [.d .sha (.sl (.pair (.sl (.int .i64)) (.pair (.int .i64) (.int .i64)))) v0], true, false, false, 0, 0⟩ :: vc (iL v1) :: vc (iL v2) :: vc (.fn 76 []) :: nn 4 (vc (iL v3) :: vc (iL v4) :: nn 43 ([]))
noncomputable def xs08.q4 := fun v0 v1 v2 v3 v4 => loopAtL E (callT E tab) 116 Try.f116 4 [.r, .b, .o, .r, .l, .b, .r, .b] (xs08.s4 v0 v1 v2 v3 v4)
noncomputable def xs08.l4 := fun v0 v1 v2 v3 v4 => tOf xs08.mk (xs08.q4 v0 v1 v2 v3 v4)
def xs08.s1 (v0 : Zc) (v1 : Int) (v2 : Int) (v3 : Int) : List Cell := ⟨(.val .one), [.d .sha (.sl (.pair (.sl (.int .i64)) (.pair (.int .i64) (.int .i64)))) v0], true, false, false, 0, 0⟩ :: vc (iL v1) :: vc (iL v2) :: vc (.fn 76 []) :: nn 4 (vc (iL v3) :: nn 44 ([]))
noncomputable def xs08.q1 := fun v0 v1 v2 v3 => loopAtL E (callT E tab) 116 Try.f116 4 [.r, .b] (xs08.s1 v0 v1 v2 v3)
noncomputable def xs08.l1 := fun v0 v1 v2 v3 => tOf xs08.mk (xs08.q1 v0 v1 v2 v3)
noncomputable def xs08.t {γ : Type} (ret : (Zc) → Option γ) (lp4 : Zc → Int → Int → Int → Int → Option γ) (lp1 : Zc → Int → Int → Int → Option γ) (v0 : Zc) (v1 : Int) (v2 : Int) : Option γ :=
 lp1 (v0) (v1) (v2) (IntKind.i64.wrap (v1 + (1 : Int)))
noncomputable def xs08.t4 {γ : Type} (ret : (Zc) → Option γ) (lp4 : Zc → Int → Int → Int → Int → Option γ) (lp1 : Zc → Int → Int → Int → Option γ) (v0 : Zc) (v1 : Int) (v2 : Int) (v3 : Int) (v4 : Int) : Option γ :=
 bif decide (v4 > v1) then
  bif decide ((0 : Int) ≤ v4) then
   bif decide (v4.toNat < v0.length) then
    bif decide (v4.toNat < v0.length) then
     bif decide ((0 : Int) ≤ IntKind.i64.wrap (v4 - (1 : Int))) then
      bif decide ((IntKind.i64.wrap (v4 - (1 : Int))).toNat < v0.length) then
       bif decide ((IntKind.i64.wrap (v4 - (1 : Int))).toNat < v0.length) then
        (xi1n ((v0.getD v4.toNat ([], (0 : Int), (0 : Int))).fst) ((v0.getD v4.toNat ([], (0 : Int), (0 : Int))).snd.fst) ((v0.getD v4.toNat ([], (0 : Int), (0 : Int))).snd.snd) ((v0.getD (IntKind.i64.wrap (v4 - (1 : Int))).toNat ([], (0 : Int), (0 : Int))).fst) ((v0.getD (IntKind.i64.wrap (v4 - (1 : Int))).toNat ([], (0 : Int), (0 : Int))).snd.fst) ((v0.getD (IntKind.i64.wrap (v4 - (1 : Int))).toNat ([], (0 : Int), (0 : Int))).snd.snd)).bind fun (r0 : Int) =>
        bif decide (r0 < (0 : Int)) then
         bif decide ((0 : Int) ≤ IntKind.i64.wrap (v4 - (1 : Int))) then
          bif decide ((IntKind.i64.wrap (v4 - (1 : Int))).toNat < v0.length) then
           bif decide ((IntKind.i64.wrap (v4 - (1 : Int))).toNat < v0.length) then
            bif decide ((0 : Int) ≤ v4) then
             bif decide (v4.toNat < v0.length) then
              bif decide (v4.toNat < v0.length) then
               bif decide ((0 : Int) ≤ v4) then
                bif decide (v4.toNat < v0.length) then
                 bif decide (v4.toNat < v0.length) then
                  bif decide ((0 : Int) ≤ IntKind.i64.wrap (v4 - (1 : Int))) then
                   bif decide   ((IntKind.i64.wrap (v4 - (1 : Int))).toNat <     (v0.set v4.toNat         ((v0.getD (IntKind.i64.wrap (v4 - (1 : Int))).toNat ([], (0 : Int), (0 : Int))).fst,           (v0.getD (IntKind.i64.wrap (v4 - (1 : Int))).toNat ([], (0 : Int), (0 : Int))).snd.fst,           (v0.getD (IntKind.i64.wrap (v4 - (1 : Int))).toNat ([], (0 : Int), (0 : Int))).snd.snd)).length) then
                    bif decide   ((IntKind.i64.wrap (v4 - (1 : Int))).toNat <     (v0.set v4.toNat         ((v0.getD (IntKind.i64.wrap (v4 - (1 : Int))).toNat ([], (0 : Int), (0 : Int))).fst,           (v0.getD (IntKind.i64.wrap (v4 - (1 : Int))).toNat ([], (0 : Int), (0 : Int))).snd.fst,           (v0.getD (IntKind.i64.wrap (v4 - (1 : Int))).toNat ([], (0 : Int), (0 : Int))).snd.snd)).length) then
                     lp4 ((v0.set v4.toNat       ((v0.getD (IntKind.i64.wrap (v4 - (1 : Int))).toNat ([], (0 : Int), (0 : Int))).fst,         (v0.getD (IntKind.i64.wrap (v4 - (1 : Int))).toNat ([], (0 : Int), (0 : Int))).snd.fst,         (v0.getD (IntKind.i64.wrap (v4 - (1 : Int))).toNat ([], (0 : Int), (0 : Int))).snd.snd)).set   (IntKind.i64.wrap (v4 - (1 : Int))).toNat   ((v0.getD v4.toNat ([], (0 : Int), (0 : Int))).fst, (v0.getD v4.toNat ([], (0 : Int), (0 : Int))).snd.fst,     (v0.getD v4.toNat ([], (0 : Int), (0 : Int))).snd.snd)) (v1) (v2) (v3) (IntKind.i64.wrap (v4 - (1 : Int)))
                    else
                     none
                   else
                    none
                  else
                   none
                 else
                  none
                else
                 none
               else
                none
              else
               none
             else
              none
            else
             none
           else
            none
          else
           none
         else
          none
        else
         lp1 (v0) (v1) (v2) (IntKind.i64.wrap (v3 + (1 : Int)))
       else
        none
      else
       none
     else
      none
    else
     none
   else
    none
  else
   none
 else
  lp1 (v0) (v1) (v2) (IntKind.i64.wrap (v3 + (1 : Int)))
noncomputable def xs08.t1 {γ : Type} (ret : (Zc) → Option γ) (lp4 : Zc → Int → Int → Int → Int → Option γ) (lp1 : Zc → Int → Int → Int → Option γ) (v0 : Zc) (v1 : Int) (v2 : Int) (v3 : Int) : Option γ :=
 bif decide (v3 < v2) then
  lp4 (v0) (v1) (v2) (v3) (v3)
 else
  ret (v0)
theorem xs08.k (v0 v1 v2) : topL E (callT E tab) 116 Try.f116 (xs08.c v0 v1 v2) = xs08.t (fun b => some (xs08.mk b)) xs08.q4 xs08.q1 v0 v1 v2 := by kernel_rfl
theorem xs08.k4 (v0 v1 v2 v3 v4) : roundL E (callT E tab) 116 Try.f116 4 [.r, .b, .o, .r, .l, .b, .r, .b] (xs08.s4 v0 v1 v2 v3 v4) = xs08.t4 (fun b => some (xs08.mk b)) xs08.q4 xs08.q1 v0 v1 v2 v3 v4 := by kernel_rfl
theorem xs08.k1 (v0 v1 v2 v3) : roundL E (callT E tab) 116 Try.f116 4 [.r, .b] (xs08.s1 v0 v1 v2 v3) = xs08.t1 (fun b => some (xs08.mk b)) xs08.q4 xs08.q1 v0 v1 v2 v3 := by kernel_rfl
theorem xs08.eq (v0 v1 v2) {b} (h : xs08.t some xs08.l4 xs08.l1 v0 v1 v2 = some b) : xs08 v0 v1 v2 = some b := tOf_intro xs08.un (fun _ => by kernel_rfl) (vlim_fn (callT_le E tab) rfl rfl rfl ((xs08.k v0 v1 v2).trans ((by unfold xs08.t; repeat' first | exact Sub.ret | exact Sub.none | exact Sub.loop | apply Sub.cond | (apply Sub.bind; intro _) : Sub xs08.mk _ _) b h)))
theorem xs08.eq4 (v0 v1 v2 v3 v4) {b} (h : xs08.t4 some xs08.l4 xs08.l1 v0 v1 v2 v3 v4 = some b) : xs08.l4 v0 v1 v2 v3 v4 = some b := tOf_intro xs08.un (fun _ => by kernel_rfl) (loopAtL_step ((xs08.k4 v0 v1 v2 v3 v4).trans ((by unfold xs08.t4; repeat' first | exact Sub.ret | exact Sub.none | exact Sub.loop | apply Sub.cond | (apply Sub.bind; intro _) : Sub xs08.mk _ _) b h)))
theorem xs08.eq1 (v0 v1 v2 v3) {b} (h : xs08.t1 some xs08.l4 xs08.l1 v0 v1 v2 v3 = some b) : xs08.l1 v0 v1 v2 v3 = some b := tOf_intro xs08.un (fun _ => by kernel_rfl) (loopAtL_step ((xs08.k1 v0 v1 v2 v3).trans ((by unfold xs08.t1; repeat' first | exact Sub.ret | exact Sub.none | exact Sub.loop | apply Sub.cond | (apply Sub.bind; intro _) : Sub xs08.mk _ _) b h)))
noncomputable def xi1n.t {γ : Type} (ret : (Int) → Option γ) (v0 : List Int) (v1 : Int) (v2 : Int) (v3 : List Int) (v4 : Int) (v5 : Int) : Option γ :=
 (xi1b (v0) (v3)).bind fun (r0 : Int) =>
 ret (r0)
theorem xi1n.k (v0 v1 v2 v3 v4 v5) : topL E (callT E tab) 76 Try.f76 (xi1n.c v0 v1 v2 v3 v4 v5) = xi1n.t (fun b => some (xi1n.mk b)) v0 v1 v2 v3 v4 v5 := by kernel_rfl
theorem xi1n.eq (v0 v1 v2 v3 v4 v5) {b} (h : xi1n.t some v0 v1 v2 v3 v4 v5 = some b) : xi1n v0 v1 v2 v3 v4 v5 = some b := tOf_intro xi1n.un (fun _ => by kernel_rfl) (vlim_fn (callT_le E tab) rfl rfl rfl ((xi1n.k v0 v1 v2 v3 v4 v5).trans ((by unfold xi1n.t; repeat' first | exact Sub.ret | exact Sub.none | exact Sub.loop | apply Sub.cond | (apply Sub.bind; intro _) : Sub xi1n.mk _ _) b h)))
def xs0d.s9 (v0 : Zc) (v1 : Int) (v2 : Int) : List Cell := ⟨(.val .one), [.d .sha (.sl (.pair (.sl (.int .i64)) (.pair (.int .i64) (.int .i64)))) v0], true, false, false, 0, 0⟩ :: nn 9 (vc (iL v1) :: nn 2 (vc (iL v2) :: nn 206 ([])))
noncomputable def xs0d.q9 := fun v0 v1 v2 => loopAtL E (callT E tab) 117 Try.f117 5 [.l, .r, .l, .r, .r, .r, .l, .r, .b] (xs0d.s9 v0 v1 v2)
noncomputable def xs0d.l9 := fun v0 v1 v2 => tOf xs0d.mk (xs0d.q9 v0 v1 v2)
def xs0d.s3 (v0 : Zc) (v1 : Int) (v2 : Int) (v3 : Int) : List Cell := ⟨(.val .one), [.d .sha (.sl (.pair (.sl (.int .i64)) (.pair (.int .i64) (.int .i64)))) v0], true, false, false, 0, 0⟩ :: vc (iL v1) :: nn 2 (vc (.fn 76 []) :: nn 5 (vc (iL v2) :: vc (iL v3) :: nn 208 ([])))
noncomputable def xs0d.q3 := fun v0 v1 v2 v3 => loopAtL E (callT E tab) 117 Try.f117 5 [.l, .r, .l, .r, .r, .l, .b] (xs0d.s3 v0 v1 v2 v3)
noncomputable def xs0d.l3 := fun v0 v1 v2 v3 => tOf xs0d.mk (xs0d.q3 v0 v1 v2 v3)
def xs0d.s21 (v0 : Zc) (v1 : Int) (v2 : Int) : List Cell := ⟨(.val .one), [.d .sha (.sl (.pair (.sl (.int .i64)) (.pair (.int .i64) (.int .i64)))) v0], true, false, false, 0, 0⟩ :: nn 13 (vc (iL v1) :: nn 2 (vc (iL v2) :: nn 202 ([])))
noncomputable def xs0d.q21 := fun v0 v1 v2 => loopAtL E (callT E tab) 117 Try.f117 5 [.r, .l, .r, .l, .r, .r, .r, .l, .r, .b] (xs0d.s21 v0 v1 v2)
noncomputable def xs0d.l21 := fun v0 v1 v2 => tOf xs0d.mk (xs0d.q21 v0 v1 v2)
def xs0d.s15 (v0 : Zc) (v1 : Int) (v2 : Int) (v3 : Int) : List Cell := ⟨(.val .one), [.d .sha (.sl (.pair (.sl (.int .i64)) (.pair (.int .i64) (.int .i64)))) v0], true, false, false, 0, 0⟩ :: nn 1 (vc (iL v1) :: nn 1 (vc (.fn 76 []) :: nn 9 (vc (iL v2) :: vc (iL v3) :: nn 204 ([]))))
noncomputable def xs0d.q15 := fun v0 v1 v2 v3 => loopAtL E (callT E tab) 117 Try.f117 5 [.r, .l, .r, .l, .r, .r, .l, .b] (xs0d.s15 v0 v1 v2 v3)
noncomputable def xs0d.l15 := fun v0 v1 v2 v3 => tOf xs0d.mk (xs0d.q15 v0 v1 v2 v3)
def xs0d.s33 (v0 : Zc) (v1 : Int) (v2 : Int) (v3 : Int) (v4 : Int) (v5 : Int) (v6 : Int) (v7 : Int) (v8 : Int) : List Cell := ⟨(.val .one), [.d .sha (.sl (.pair (.sl (.int .i64)) (.pair (.int .i64) (.int .i64)))) v0], true, false, false, 0, 0⟩ :: vc (iL v1) :: vc (iL v2) :: vc (iL v3) :: vc (.fn 76 []) :: nn 13 (vc (iL v4) :: vc (iL v5) :: vc (iL v6) :: vc (iL v7) :: vc (iL v8) :: nn 197 ([]))
noncomputable def xs0d.q33 := fun v0 v1 v2 v3 v4 v5 v6 v7 v8 => loopAtL E (callT E tab) 117 Try.f117 5 [.r, .r, .r, .r, .r, .r, .r, .l, .b] (xs0d.s33 v0 v1 v2 v3 v4 v5 v6 v7 v8)
noncomputable def xs0d.l33 := fun v0 v1 v2 v3 v4 v5 v6 v7 v8 => tOf xs0d.mk (xs0d.q33 v0 v1 v2 v3 v4 v5 v6 v7 v8)
noncomputable def xs0d.t {γ : Type} (ret : (Zc) → Option γ) (lp9 : Zc → Int → Int → Option γ) (lp3 : Zc → Int → Int → Int → Option γ) (lp21 : Zc → Int → Int → Option γ) (lp15 : Zc → Int → Int → Int → Option γ) (lp33 : Zc → Int → Int → Int → Int → Int → Int → Int → Int → Option γ) (v0 : Zc) (v1 : Int) (v2 : Int) (v3 : Int) : Option γ :=
 bif IntKind.i64.wrap (v2 - v1) == (1 : Int) then
  lp3 (v0) (v1) (v2) (v3)
 else
  bif IntKind.i64.wrap (v3 - v2) == (1 : Int) then
   lp15 (v0) (v2) (v1) (v2)
  else
   bif decide   (v2 >     IntKind.i64.wrap       ((IntKind.u64.wrap (IntKind.i64.wrap (v1 + v3))).fdiv         ((2 : Int) ^ Min.min (Int.toNat (1 : Int)) IntKind.u64.bits))) then
    lp33 (v0) (v1) (v2) (v3) (IntKind.i64.wrap   ((IntKind.u64.wrap (IntKind.i64.wrap (v1 + v3))).fdiv     ((2 : Int) ^ Min.min (Int.toNat (1 : Int)) IntKind.u64.bits))) (IntKind.i64.wrap   (IntKind.i64.wrap       ((IntKind.u64.wrap (IntKind.i64.wrap (v1 + v3))).fdiv         ((2 : Int) ^ Min.min (Int.toNat (1 : Int)) IntKind.u64.bits)) +     v2)) (IntKind.i64.wrap   (IntKind.i64.wrap       (IntKind.i64.wrap           ((IntKind.u64.wrap (IntKind.i64.wrap (v1 + v3))).fdiv             ((2 : Int) ^ Min.min (Int.toNat (1 : Int)) IntKind.u64.bits)) +         v2) -     v3)) (IntKind.i64.wrap   ((IntKind.u64.wrap (IntKind.i64.wrap (v1 + v3))).fdiv     ((2 : Int) ^ Min.min (Int.toNat (1 : Int)) IntKind.u64.bits))) (IntKind.i64.wrap   (IntKind.i64.wrap       (IntKind.i64.wrap           ((IntKind.u64.wrap (IntKind.i64.wrap (v1 + v3))).fdiv             ((2 : Int) ^ Min.min (Int.toNat (1 : Int)) IntKind.u64.bits)) +         v2) -     (1 : Int)))
   else
    lp33 (v0) (v1) (v2) (v3) (IntKind.i64.wrap   ((IntKind.u64.wrap (IntKind.i64.wrap (v1 + v3))).fdiv     ((2 : Int) ^ Min.min (Int.toNat (1 : Int)) IntKind.u64.bits))) (IntKind.i64.wrap   (IntKind.i64.wrap       ((IntKind.u64.wrap (IntKind.i64.wrap (v1 + v3))).fdiv         ((2 : Int) ^ Min.min (Int.toNat (1 : Int)) IntKind.u64.bits)) +     v2)) (v1) (v2) (IntKind.i64.wrap   (IntKind.i64.wrap       (IntKind.i64.wrap           ((IntKind.u64.wrap (IntKind.i64.wrap (v1 + v3))).fdiv             ((2 : Int) ^ Min.min (Int.toNat (1 : Int)) IntKind.u64.bits)) +         v2) -     (1 : Int)))
noncomputable def xs0d.t9 {γ : Type} (ret : (Zc) → Option γ) (lp9 : Zc → Int → Int → Option γ) (lp3 : Zc → Int → Int → Int → Option γ) (lp21 : Zc → Int → Int → Option γ) (lp15 : Zc → Int → Int → Int → Option γ) (lp33 : Zc → Int → Int → Int → Int → Int → Int → Int → Int → Option γ) (v0 : Zc) (v1 : Int) (v2 : Int) : Option γ :=
 bif decide (v2 < IntKind.i64.wrap (v1 - (1 : Int))) then
  bif decide ((0 : Int) ≤ IntKind.i64.wrap (v2 + (1 : Int))) then
   bif decide ((IntKind.i64.wrap (v2 + (1 : Int))).toNat < v0.length) then
    bif decide ((IntKind.i64.wrap (v2 + (1 : Int))).toNat < v0.length) then
     bif decide ((0 : Int) ≤ v2) then
      bif decide (v2.toNat < v0.length) then
       bif decide (v2.toNat < v0.length) then
        bif decide ((0 : Int) ≤ v2) then
         bif decide (v2.toNat < v0.length) then
          bif decide (v2.toNat < v0.length) then
           bif decide ((0 : Int) ≤ IntKind.i64.wrap (v2 + (1 : Int))) then
            bif decide   ((IntKind.i64.wrap (v2 + (1 : Int))).toNat <     (v0.set v2.toNat         ((v0.getD (IntKind.i64.wrap (v2 + (1 : Int))).toNat ([], (0 : Int), (0 : Int))).fst,           (v0.getD (IntKind.i64.wrap (v2 + (1 : Int))).toNat ([], (0 : Int), (0 : Int))).snd.fst,           (v0.getD (IntKind.i64.wrap (v2 + (1 : Int))).toNat ([], (0 : Int), (0 : Int))).snd.snd)).length) then
             bif decide   ((IntKind.i64.wrap (v2 + (1 : Int))).toNat <     (v0.set v2.toNat         ((v0.getD (IntKind.i64.wrap (v2 + (1 : Int))).toNat ([], (0 : Int), (0 : Int))).fst,           (v0.getD (IntKind.i64.wrap (v2 + (1 : Int))).toNat ([], (0 : Int), (0 : Int))).snd.fst,           (v0.getD (IntKind.i64.wrap (v2 + (1 : Int))).toNat ([], (0 : Int), (0 : Int))).snd.snd)).length) then
              lp9 ((v0.set v2.toNat       ((v0.getD (IntKind.i64.wrap (v2 + (1 : Int))).toNat ([], (0 : Int), (0 : Int))).fst,         (v0.getD (IntKind.i64.wrap (v2 + (1 : Int))).toNat ([], (0 : Int), (0 : Int))).snd.fst,         (v0.getD (IntKind.i64.wrap (v2 + (1 : Int))).toNat ([], (0 : Int), (0 : Int))).snd.snd)).set   (IntKind.i64.wrap (v2 + (1 : Int))).toNat   ((v0.getD v2.toNat ([], (0 : Int), (0 : Int))).fst, (v0.getD v2.toNat ([], (0 : Int), (0 : Int))).snd.fst,     (v0.getD v2.toNat ([], (0 : Int), (0 : Int))).snd.snd)) (v1) (IntKind.i64.wrap (v2 + (1 : Int)))
             else
              none
            else
             none
           else
            none
          else
           none
         else
          none
        else
         none
       else
        none
      else
       none
     else
      none
    else
     none
   else
    none
  else
   none
 else
  ret (v0)
noncomputable def xs0d.t3 {γ : Type} (ret : (Zc) → Option γ) (lp9 : Zc → Int → Int → Option γ) (lp3 : Zc → Int → Int → Int → Option γ) (lp21 : Zc → Int → Int → Option γ) (lp15 : Zc → Int → Int → Int → Option γ) (lp33 : Zc → Int → Int → Int → Int → Int → Int → Int → Int → Option γ) (v0 : Zc) (v1 : Int) (v2 : Int) (v3 : Int) : Option γ :=
 bif decide (v2 < v3) then
  bif decide   ((0 : Int) ≤     IntKind.i64.wrap       ((IntKind.u64.wrap (IntKind.i64.wrap (v2 + v3))).fdiv         ((2 : Int) ^ Min.min (Int.toNat (1 : Int)) IntKind.u64.bits))) then
   bif decide   ((IntKind.i64.wrap         ((IntKind.u64.wrap (IntKind.i64.wrap (v2 + v3))).fdiv           ((2 : Int) ^ Min.min (Int.toNat (1 : Int)) IntKind.u64.bits))).toNat <     v0.length) then
    bif decide   ((IntKind.i64.wrap         ((IntKind.u64.wrap (IntKind.i64.wrap (v2 + v3))).fdiv           ((2 : Int) ^ Min.min (Int.toNat (1 : Int)) IntKind.u64.bits))).toNat <     v0.length) then
     bif decide ((0 : Int) ≤ v1) then
      bif decide (v1.toNat < v0.length) then
       bif decide (v1.toNat < v0.length) then
        (xi1n ((v0.getD     (IntKind.i64.wrap         ((IntKind.u64.wrap (IntKind.i64.wrap (v2 + v3))).fdiv           ((2 : Int) ^ Min.min (Int.toNat (1 : Int)) IntKind.u64.bits))).toNat     ([], (0 : Int), (0 : Int))).fst) ((v0.getD       (IntKind.i64.wrap           ((IntKind.u64.wrap (IntKind.i64.wrap (v2 + v3))).fdiv             ((2 : Int) ^ Min.min (Int.toNat (1 : Int)) IntKind.u64.bits))).toNat       ([], (0 : Int), (0 : Int))).snd.fst) ((v0.getD       (IntKind.i64.wrap           ((IntKind.u64.wrap (IntKind.i64.wrap (v2 + v3))).fdiv             ((2 : Int) ^ Min.min (Int.toNat (1 : Int)) IntKind.u64.bits))).toNat       ([], (0 : Int), (0 : Int))).snd.snd) ((v0.getD v1.toNat ([], (0 : Int), (0 : Int))).fst) ((v0.getD v1.toNat ([], (0 : Int), (0 : Int))).snd.fst) ((v0.getD v1.toNat ([], (0 : Int), (0 : Int))).snd.snd)).bind fun (r0 : Int) =>
        bif decide (r0 < (0 : Int)) then
         lp3 (v0) (v1) (IntKind.i64.wrap   (IntKind.i64.wrap       ((IntKind.u64.wrap (IntKind.i64.wrap (v2 + v3))).fdiv         ((2 : Int) ^ Min.min (Int.toNat (1 : Int)) IntKind.u64.bits)) +     (1 : Int))) (v3)
        else
         lp3 (v0) (v1) (v2) (IntKind.i64.wrap   ((IntKind.u64.wrap (IntKind.i64.wrap (v2 + v3))).fdiv     ((2 : Int) ^ Min.min (Int.toNat (1 : Int)) IntKind.u64.bits)))
       else
        none
      else
       none
     else
      none
    else
     none
   else
    none
  else
   none
 else
  lp9 (v0) (v2) (v1)
noncomputable def xs0d.t21 {γ : Type} (ret : (Zc) → Option γ) (lp9 : Zc → Int → Int → Option γ) (lp3 : Zc → Int → Int → Int → Option γ) (lp21 : Zc → Int → Int → Option γ) (lp15 : Zc → Int → Int → Int → Option γ) (lp33 : Zc → Int → Int → Int → Int → Int → Int → Int → Int → Option γ) (v0 : Zc) (v1 : Int) (v2 : Int) : Option γ :=
 bif decide (v2 > v1) then
  bif decide ((0 : Int) ≤ IntKind.i64.wrap (v2 - (1 : Int))) then
   bif decide ((IntKind.i64.wrap (v2 - (1 : Int))).toNat < v0.length) then
    bif decide ((IntKind.i64.wrap (v2 - (1 : Int))).toNat < v0.length) then
     bif decide ((0 : Int) ≤ v2) then
      bif decide (v2.toNat < v0.length) then
       bif decide (v2.toNat < v0.length) then
        bif decide ((0 : Int) ≤ v2) then
         bif decide (v2.toNat < v0.length) then
          bif decide (v2.toNat < v0.length) then
           bif decide ((0 : Int) ≤ IntKind.i64.wrap (v2 - (1 : Int))) then
            bif decide   ((IntKind.i64.wrap (v2 - (1 : Int))).toNat <     (v0.set v2.toNat         ((v0.getD (IntKind.i64.wrap (v2 - (1 : Int))).toNat ([], (0 : Int), (0 : Int))).fst,           (v0.getD (IntKind.i64.wrap (v2 - (1 : Int))).toNat ([], (0 : Int), (0 : Int))).snd.fst,           (v0.getD (IntKind.i64.wrap (v2 - (1 : Int))).toNat ([], (0 : Int), (0 : Int))).snd.snd)).length) then
             bif decide   ((IntKind.i64.wrap (v2 - (1 : Int))).toNat <     (v0.set v2.toNat         ((v0.getD (IntKind.i64.wrap (v2 - (1 : Int))).toNat ([], (0 : Int), (0 : Int))).fst,           (v0.getD (IntKind.i64.wrap (v2 - (1 : Int))).toNat ([], (0 : Int), (0 : Int))).snd.fst,           (v0.getD (IntKind.i64.wrap (v2 - (1 : Int))).toNat ([], (0 : Int), (0 : Int))).snd.snd)).length) then
              lp21 ((v0.set v2.toNat       ((v0.getD (IntKind.i64.wrap (v2 - (1 : Int))).toNat ([], (0 : Int), (0 : Int))).fst,         (v0.getD (IntKind.i64.wrap (v2 - (1 : Int))).toNat ([], (0 : Int), (0 : Int))).snd.fst,         (v0.getD (IntKind.i64.wrap (v2 - (1 : Int))).toNat ([], (0 : Int), (0 : Int))).snd.snd)).set   (IntKind.i64.wrap (v2 - (1 : Int))).toNat   ((v0.getD v2.toNat ([], (0 : Int), (0 : Int))).fst, (v0.getD v2.toNat ([], (0 : Int), (0 : Int))).snd.fst,     (v0.getD v2.toNat ([], (0 : Int), (0 : Int))).snd.snd)) (v1) (IntKind.i64.wrap (v2 - (1 : Int)))
             else
              none
            else
             none
           else
            none
          else
           none
         else
          none
        else
         none
       else
        none
      else
       none
     else
      none
    else
     none
   else
    none
  else
   none
 else
  ret (v0)
noncomputable def xs0d.t15 {γ : Type} (ret : (Zc) → Option γ) (lp9 : Zc → Int → Int → Option γ) (lp3 : Zc → Int → Int → Int → Option γ) (lp21 : Zc → Int → Int → Option γ) (lp15 : Zc → Int → Int → Int → Option γ) (lp33 : Zc → Int → Int → Int → Int → Int → Int → Int → Int → Option γ) (v0 : Zc) (v1 : Int) (v2 : Int) (v3 : Int) : Option γ :=
 bif decide (v2 < v3) then
  bif decide ((0 : Int) ≤ v1) then
   bif decide (v1.toNat < v0.length) then
    bif decide (v1.toNat < v0.length) then
     bif decide   ((0 : Int) ≤     IntKind.i64.wrap       ((IntKind.u64.wrap (IntKind.i64.wrap (v2 + v3))).fdiv         ((2 : Int) ^ Min.min (Int.toNat (1 : Int)) IntKind.u64.bits))) then
      bif decide   ((IntKind.i64.wrap         ((IntKind.u64.wrap (IntKind.i64.wrap (v2 + v3))).fdiv           ((2 : Int) ^ Min.min (Int.toNat (1 : Int)) IntKind.u64.bits))).toNat <     v0.length) then
       bif decide   ((IntKind.i64.wrap         ((IntKind.u64.wrap (IntKind.i64.wrap (v2 + v3))).fdiv           ((2 : Int) ^ Min.min (Int.toNat (1 : Int)) IntKind.u64.bits))).toNat <     v0.length) then
        (xi1n ((v0.getD v1.toNat ([], (0 : Int), (0 : Int))).fst) ((v0.getD v1.toNat ([], (0 : Int), (0 : Int))).snd.fst) ((v0.getD v1.toNat ([], (0 : Int), (0 : Int))).snd.snd) ((v0.getD     (IntKind.i64.wrap         ((IntKind.u64.wrap (IntKind.i64.wrap (v2 + v3))).fdiv           ((2 : Int) ^ Min.min (Int.toNat (1 : Int)) IntKind.u64.bits))).toNat     ([], (0 : Int), (0 : Int))).fst) ((v0.getD       (IntKind.i64.wrap           ((IntKind.u64.wrap (IntKind.i64.wrap (v2 + v3))).fdiv             ((2 : Int) ^ Min.min (Int.toNat (1 : Int)) IntKind.u64.bits))).toNat       ([], (0 : Int), (0 : Int))).snd.fst) ((v0.getD       (IntKind.i64.wrap           ((IntKind.u64.wrap (IntKind.i64.wrap (v2 + v3))).fdiv             ((2 : Int) ^ Min.min (Int.toNat (1 : Int)) IntKind.u64.bits))).toNat       ([], (0 : Int), (0 : Int))).snd.snd)).bind fun (r1 : Int) =>
        bif !decide (r1 < (0 : Int)) then
         lp15 (v0) (v1) (IntKind.i64.wrap   (IntKind.i64.wrap       ((IntKind.u64.wrap (IntKind.i64.wrap (v2 + v3))).fdiv         ((2 : Int) ^ Min.min (Int.toNat (1 : Int)) IntKind.u64.bits)) +     (1 : Int))) (v3)
        else
         lp15 (v0) (v1) (v2) (IntKind.i64.wrap   ((IntKind.u64.wrap (IntKind.i64.wrap (v2 + v3))).fdiv     ((2 : Int) ^ Min.min (Int.toNat (1 : Int)) IntKind.u64.bits)))
       else
        none
      else
       none
     else
      none
    else
     none
   else
    none
  else
   none
 else
  lp21 (v0) (v2) (v1)
noncomputable def xs0d.t33 {γ : Type} (ret : (Zc) → Option γ) (lp9 : Zc → Int → Int → Option γ) (lp3 : Zc → Int → Int → Int → Option γ) (lp21 : Zc → Int → Int → Option γ) (lp15 : Zc → Int → Int → Int → Option γ) (lp33 : Zc → Int → Int → Int → Int → Int → Int → Int → Int → Option γ) (v0 : Zc) (v1 : Int) (v2 : Int) (v3 : Int) (v4 : Int) (v5 : Int) (v6 : Int) (v7 : Int) (v8 : Int) : Option γ :=
 bif decide (v6 < v7) then
  bif decide   ((0 : Int) ≤     IntKind.i64.wrap       (v8 -         IntKind.i64.wrap           ((IntKind.u64.wrap (IntKind.i64.wrap (v6 + v7))).fdiv             ((2 : Int) ^ Min.min (Int.toNat (1 : Int)) IntKind.u64.bits)))) then
   bif decide   ((IntKind.i64.wrap         (v8 -           IntKind.i64.wrap             ((IntKind.u64.wrap (IntKind.i64.wrap (v6 + v7))).fdiv               ((2 : Int) ^ Min.min (Int.toNat (1 : Int)) IntKind.u64.bits)))).toNat <     v0.length) then
    bif decide   ((IntKind.i64.wrap         (v8 -           IntKind.i64.wrap             ((IntKind.u64.wrap (IntKind.i64.wrap (v6 + v7))).fdiv               ((2 : Int) ^ Min.min (Int.toNat (1 : Int)) IntKind.u64.bits)))).toNat <     v0.length) then
     bif decide   ((0 : Int) ≤     IntKind.i64.wrap       ((IntKind.u64.wrap (IntKind.i64.wrap (v6 + v7))).fdiv         ((2 : Int) ^ Min.min (Int.toNat (1 : Int)) IntKind.u64.bits))) then
      bif decide   ((IntKind.i64.wrap         ((IntKind.u64.wrap (IntKind.i64.wrap (v6 + v7))).fdiv           ((2 : Int) ^ Min.min (Int.toNat (1 : Int)) IntKind.u64.bits))).toNat <     v0.length) then
       bif decide   ((IntKind.i64.wrap         ((IntKind.u64.wrap (IntKind.i64.wrap (v6 + v7))).fdiv           ((2 : Int) ^ Min.min (Int.toNat (1 : Int)) IntKind.u64.bits))).toNat <     v0.length) then
        (xi1n ((v0.getD     (IntKind.i64.wrap         (v8 -           IntKind.i64.wrap             ((IntKind.u64.wrap (IntKind.i64.wrap (v6 + v7))).fdiv               ((2 : Int) ^ Min.min (Int.toNat (1 : Int)) IntKind.u64.bits)))).toNat     ([], (0 : Int), (0 : Int))).fst) ((v0.getD       (IntKind.i64.wrap           (v8 -             IntKind.i64.wrap               ((IntKind.u64.wrap (IntKind.i64.wrap (v6 + v7))).fdiv                 ((2 : Int) ^ Min.min (Int.toNat (1 : Int)) IntKind.u64.bits)))).toNat       ([], (0 : Int), (0 : Int))).snd.fst) ((v0.getD       (IntKind.i64.wrap           (v8 -             IntKind.i64.wrap               ((IntKind.u64.wrap (IntKind.i64.wrap (v6 + v7))).fdiv                 ((2 : Int) ^ Min.min (Int.toNat (1 : Int)) IntKind.u64.bits)))).toNat       ([], (0 : Int), (0 : Int))).snd.snd) ((v0.getD     (IntKind.i64.wrap         ((IntKind.u64.wrap (IntKind.i64.wrap (v6 + v7))).fdiv           ((2 : Int) ^ Min.min (Int.toNat (1 : Int)) IntKind.u64.bits))).toNat     ([], (0 : Int), (0 : Int))).fst) ((v0.getD       (IntKind.i64.wrap           ((IntKind.u64.wrap (IntKind.i64.wrap (v6 + v7))).fdiv             ((2 : Int) ^ Min.min (Int.toNat (1 : Int)) IntKind.u64.bits))).toNat       ([], (0 : Int), (0 : Int))).snd.fst) ((v0.getD       (IntKind.i64.wrap           ((IntKind.u64.wrap (IntKind.i64.wrap (v6 + v7))).fdiv             ((2 : Int) ^ Min.min (Int.toNat (1 : Int)) IntKind.u64.bits))).toNat       ([], (0 : Int), (0 : Int))).snd.snd)).bind fun (r2 : Int) =>
        bif !decide (r2 < (0 : Int)) then
         lp33 (v0) (v1) (v2) (v3) (v4) (v5) (IntKind.i64.wrap   (IntKind.i64.wrap       ((IntKind.u64.wrap (IntKind.i64.wrap (v6 + v7))).fdiv         ((2 : Int) ^ Min.min (Int.toNat (1 : Int)) IntKind.u64.bits)) +     (1 : Int))) (v7) (v8)
        else
         lp33 (v0) (v1) (v2) (v3) (v4) (v5) (v6) (IntKind.i64.wrap   ((IntKind.u64.wrap (IntKind.i64.wrap (v6 + v7))).fdiv     ((2 : Int) ^ Min.min (Int.toNat (1 : Int)) IntKind.u64.bits))) (v8)
       else
        none
      else
       none
     else
      none
    else
     none
   else
    none
  else
   none
 else
  bif decide (v6 < v2) then
   bif decide (v2 < IntKind.i64.wrap (v5 - v6)) then
    (xs0e (v0) (v6) (v2) (IntKind.i64.wrap (v5 - v6))).bind fun (r3 : Zc) =>
    bif decide (v1 < v6) then
     bif decide (v6 < v4) then
      (xs0d (r3) (v1) (v6) (v4)).bind fun (r4 : Zc) =>
      bif decide (v4 < IntKind.i64.wrap (v5 - v6)) then
       bif decide (IntKind.i64.wrap (v5 - v6) < v3) then
        (xs0d (r4) (v4) (IntKind.i64.wrap (v5 - v6)) (v3)).bind fun (r5 : Zc) =>
        ret (r5)
       else
        ret (r4)
      else
       ret (r4)
     else
      bif decide (v4 < IntKind.i64.wrap (v5 - v6)) then
       bif decide (IntKind.i64.wrap (v5 - v6) < v3) then
        (xs0d (r3) (v4) (IntKind.i64.wrap (v5 - v6)) (v3)).bind fun (r6 : Zc) =>
        ret (r6)
       else
        ret (r3)
      else
       ret (r3)
    else
     bif decide (v4 < IntKind.i64.wrap (v5 - v6)) then
      bif decide (IntKind.i64.wrap (v5 - v6) < v3) then
       (xs0d (r3) (v4) (IntKind.i64.wrap (v5 - v6)) (v3)).bind fun (r7 : Zc) =>
       ret (r7)
      else
       ret (r3)
     else
      ret (r3)
   else
    bif decide (v1 < v6) then
     bif decide (v6 < v4) then
      (xs0d (v0) (v1) (v6) (v4)).bind fun (r8 : Zc) =>
      bif decide (v4 < IntKind.i64.wrap (v5 - v6)) then
       bif decide (IntKind.i64.wrap (v5 - v6) < v3) then
        (xs0d (r8) (v4) (IntKind.i64.wrap (v5 - v6)) (v3)).bind fun (r9 : Zc) =>
        ret (r9)
       else
        ret (r8)
      else
       ret (r8)
     else
      bif decide (v4 < IntKind.i64.wrap (v5 - v6)) then
       bif decide (IntKind.i64.wrap (v5 - v6) < v3) then
        (xs0d (v0) (v4) (IntKind.i64.wrap (v5 - v6)) (v3)).bind fun (r10 : Zc) =>
        ret (r10)
       else
        ret (v0)
      else
       ret (v0)
    else
     bif decide (v4 < IntKind.i64.wrap (v5 - v6)) then
      bif decide (IntKind.i64.wrap (v5 - v6) < v3) then
       (xs0d (v0) (v4) (IntKind.i64.wrap (v5 - v6)) (v3)).bind fun (r11 : Zc) =>
       ret (r11)
      else
       ret (v0)
     else
      ret (v0)
  else
   bif decide (v1 < v6) then
    bif decide (v6 < v4) then
     (xs0d (v0) (v1) (v6) (v4)).bind fun (r12 : Zc) =>
     bif decide (v4 < IntKind.i64.wrap (v5 - v6)) then
      bif decide (IntKind.i64.wrap (v5 - v6) < v3) then
       (xs0d (r12) (v4) (IntKind.i64.wrap (v5 - v6)) (v3)).bind fun (r13 : Zc) =>
       ret (r13)
      else
       ret (r12)
     else
      ret (r12)
    else
     bif decide (v4 < IntKind.i64.wrap (v5 - v6)) then
      bif decide (IntKind.i64.wrap (v5 - v6) < v3) then
       (xs0d (v0) (v4) (IntKind.i64.wrap (v5 - v6)) (v3)).bind fun (r14 : Zc) =>
       ret (r14)
      else
       ret (v0)
     else
      ret (v0)
   else
    bif decide (v4 < IntKind.i64.wrap (v5 - v6)) then
     bif decide (IntKind.i64.wrap (v5 - v6) < v3) then
      (xs0d (v0) (v4) (IntKind.i64.wrap (v5 - v6)) (v3)).bind fun (r15 : Zc) =>
      ret (r15)
     else
      ret (v0)
    else
     ret (v0)
theorem xs0d.k (v0 v1 v2 v3) : topL E (callT E tab) 117 Try.f117 (xs0d.c v0 v1 v2 v3) = xs0d.t (fun b => some (xs0d.mk b)) xs0d.q9 xs0d.q3 xs0d.q21 xs0d.q15 xs0d.q33 v0 v1 v2 v3 := by kernel_rfl
theorem xs0d.k9 (v0 v1 v2) : roundL E (callT E tab) 117 Try.f117 5 [.l, .r, .l, .r, .r, .r, .l, .r, .b] (xs0d.s9 v0 v1 v2) = xs0d.t9 (fun b => some (xs0d.mk b)) xs0d.q9 xs0d.q3 xs0d.q21 xs0d.q15 xs0d.q33 v0 v1 v2 := by kernel_rfl
theorem xs0d.k3 (v0 v1 v2 v3) : roundL E (callT E tab) 117 Try.f117 5 [.l, .r, .l, .r, .r, .l, .b] (xs0d.s3 v0 v1 v2 v3) = xs0d.t3 (fun b => some (xs0d.mk b)) xs0d.q9 xs0d.q3 xs0d.q21 xs0d.q15 xs0d.q33 v0 v1 v2 v3 := by kernel_rfl
theorem xs0d.k21 (v0 v1 v2) : roundL E (callT E tab) 117 Try.f117 5 [.r, .l, .r, .l, .r, .r, .r, .l, .r, .b] (xs0d.s21 v0 v1 v2) = xs0d.t21 (fun b => some (xs0d.mk b)) xs0d.q9 xs0d.q3 xs0d.q21 xs0d.q15 xs0d.q33 v0 v1 v2 := by kernel_rfl
theorem xs0d.k15 (v0 v1 v2 v3) : roundL E (callT E tab) 117 Try.f117 5 [.r, .l, .r, .l, .r, .r, .l, .b] (xs0d.s15 v0 v1 v2 v3) = xs0d.t15 (fun b => some (xs0d.mk b)) xs0d.q9 xs0d.q3 xs0d.q21 xs0d.q15 xs0d.q33 v0 v1 v2 v3 := by kernel_rfl
theorem xs0d.k33 (v0 v1 v2 v3 v4 v5 v6 v7 v8) : roundL E (callT E tab) 117 Try.f117 5 [.r, .r, .r, .r, .r, .r, .r, .l, .b] (xs0d.s33 v0 v1 v2 v3 v4 v5 v6 v7 v8) = xs0d.t33 (fun b => some (xs0d.mk b)) xs0d.q9 xs0d.q3 xs0d.q21 xs0d.q15 xs0d.q33 v0 v1 v2 v3 v4 v5 v6 v7 v8 := by kernel_rfl
theorem xs0d.eq (v0 v1 v2 v3) {b} (h : xs0d.t some xs0d.l9 xs0d.l3 xs0d.l21 xs0d.l15 xs0d.l33 v0 v1 v2 v3 = some b) : xs0d v0 v1 v2 v3 = some b := tOf_intro xs0d.un (fun _ => by kernel_rfl) (vlim_fn (callT_le E tab) rfl rfl rfl ((xs0d.k v0 v1 v2 v3).trans ((by unfold xs0d.t; repeat' first | exact Sub.ret | exact Sub.none | exact Sub.loop | apply Sub.cond | (apply Sub.bind; intro _) : Sub xs0d.mk _ _) b h)))
theorem xs0d.eq9 (v0 v1 v2) {b} (h : xs0d.t9 some xs0d.l9 xs0d.l3 xs0d.l21 xs0d.l15 xs0d.l33 v0 v1 v2 = some b) : xs0d.l9 v0 v1 v2 = some b := tOf_intro xs0d.un (fun _ => by kernel_rfl) (loopAtL_step ((xs0d.k9 v0 v1 v2).trans ((by unfold xs0d.t9; repeat' first | exact Sub.ret | exact Sub.none | exact Sub.loop | apply Sub.cond | (apply Sub.bind; intro _) : Sub xs0d.mk _ _) b h)))
theorem xs0d.eq3 (v0 v1 v2 v3) {b} (h : xs0d.t3 some xs0d.l9 xs0d.l3 xs0d.l21 xs0d.l15 xs0d.l33 v0 v1 v2 v3 = some b) : xs0d.l3 v0 v1 v2 v3 = some b := tOf_intro xs0d.un (fun _ => by kernel_rfl) (loopAtL_step ((xs0d.k3 v0 v1 v2 v3).trans ((by unfold xs0d.t3; repeat' first | exact Sub.ret | exact Sub.none | exact Sub.loop | apply Sub.cond | (apply Sub.bind; intro _) : Sub xs0d.mk _ _) b h)))
theorem xs0d.eq21 (v0 v1 v2) {b} (h : xs0d.t21 some xs0d.l9 xs0d.l3 xs0d.l21 xs0d.l15 xs0d.l33 v0 v1 v2 = some b) : xs0d.l21 v0 v1 v2 = some b := tOf_intro xs0d.un (fun _ => by kernel_rfl) (loopAtL_step ((xs0d.k21 v0 v1 v2).trans ((by unfold xs0d.t21; repeat' first | exact Sub.ret | exact Sub.none | exact Sub.loop | apply Sub.cond | (apply Sub.bind; intro _) : Sub xs0d.mk _ _) b h)))
theorem xs0d.eq15 (v0 v1 v2 v3) {b} (h : xs0d.t15 some xs0d.l9 xs0d.l3 xs0d.l21 xs0d.l15 xs0d.l33 v0 v1 v2 v3 = some b) : xs0d.l15 v0 v1 v2 v3 = some b := tOf_intro xs0d.un (fun _ => by kernel_rfl) (loopAtL_step ((xs0d.k15 v0 v1 v2 v3).trans ((by unfold xs0d.t15; repeat' first | exact Sub.ret | exact Sub.none | exact Sub.loop | apply Sub.cond | (apply Sub.bind; intro _) : Sub xs0d.mk _ _) b h)))
theorem xs0d.eq33 (v0 v1 v2 v3 v4 v5 v6 v7 v8) {b} (h : xs0d.t33 some xs0d.l9 xs0d.l3 xs0d.l21 xs0d.l15 xs0d.l33 v0 v1 v2 v3 v4 v5 v6 v7 v8 = some b) : xs0d.l33 v0 v1 v2 v3 v4 v5 v6 v7 v8 = some b := tOf_intro xs0d.un (fun _ => by kernel_rfl) (loopAtL_step ((xs0d.k33 v0 v1 v2 v3 v4 v5 v6 v7 v8).trans ((by unfold xs0d.t33; repeat' first | exact Sub.ret | exact Sub.none | exact Sub.loop | apply Sub.cond | (apply Sub.bind; intro _) : Sub xs0d.mk _ _) b h)))
def xs0e.s2 (v0 : Zc) (v1 : Int) (v2 : Int) (v3 : Int) : List Cell := ⟨(.val .one), [.d .sha (.sl (.pair (.sl (.int .i64)) (.pair (.int .i64) (.int .i64)))) v0], true, false, false, 0, 0⟩ :: nn 1 (vc (iL v1) :: nn 1 (vc (.fn 76 []) :: nn 5 (vc (iL v2) :: vc (iL v3) :: nn 46 ([]))))
noncomputable def xs0e.q2 := fun v0 v1 v2 v3 => loopAtL E (callT E tab) 122 Try.f122 5 [.r, .r, .l, .b] (xs0e.s2 v0 v1 v2 v3)
noncomputable def xs0e.l2 := fun v0 v1 v2 v3 => tOf xs0e.mk (xs0e.q2 v0 v1 v2 v3)
noncomputable def xs0e.t {γ : Type} (ret : (Zc) → Option γ) (lp2 : Zc → Int → Int → Int → Option γ) (v0 : Zc) (v1 : Int) (v2 : Int) (v3 : Int) : Option γ :=
 lp2 (v0) (v2) (IntKind.i64.wrap (v2 - v1)) (IntKind.i64.wrap (v3 - v2))
noncomputable def xs0e.t2 {γ : Type} (ret : (Zc) → Option γ) (lp2 : Zc → Int → Int → Int → Option γ) (v0 : Zc) (v1 : Int) (v2 : Int) (v3 : Int) : Option γ :=
 bif v2 != v3 then
  bif decide (v2 > v3) then
   (xs0c (v0) (IntKind.i64.wrap (v1 - v2)) (v1) (v3)).bind fun (r0 : Zc) =>
   lp2 (r0) (v1) (IntKind.i64.wrap (v2 - v3)) (v3)
  else
   (xs0c (v0) (IntKind.i64.wrap (v1 - v2)) (IntKind.i64.wrap (IntKind.i64.wrap (v1 + v3) - v2)) (v2)).bind fun (r1 : Zc) =>
   lp2 (r1) (v1) (v2) (IntKind.i64.wrap (v3 - v2))
 else
  (xs0c (v0) (IntKind.i64.wrap (v1 - v2)) (v1) (v2)).bind fun (r2 : Zc) =>
  ret (r2)
theorem xs0e.k (v0 v1 v2 v3) : topL E (callT E tab) 122 Try.f122 (xs0e.c v0 v1 v2 v3) = xs0e.t (fun b => some (xs0e.mk b)) xs0e.q2 v0 v1 v2 v3 := by kernel_rfl
theorem xs0e.k2 (v0 v1 v2 v3) : roundL E (callT E tab) 122 Try.f122 5 [.r, .r, .l, .b] (xs0e.s2 v0 v1 v2 v3) = xs0e.t2 (fun b => some (xs0e.mk b)) xs0e.q2 v0 v1 v2 v3 := by kernel_rfl
theorem xs0e.eq (v0 v1 v2 v3) {b} (h : xs0e.t some xs0e.l2 v0 v1 v2 v3 = some b) : xs0e v0 v1 v2 v3 = some b := tOf_intro xs0e.un (fun _ => by kernel_rfl) (vlim_fn (callT_le E tab) rfl rfl rfl ((xs0e.k v0 v1 v2 v3).trans ((by unfold xs0e.t; repeat' first | exact Sub.ret | exact Sub.none | exact Sub.loop | apply Sub.cond | (apply Sub.bind; intro _) : Sub xs0e.mk _ _) b h)))
theorem xs0e.eq2 (v0 v1 v2 v3) {b} (h : xs0e.t2 some xs0e.l2 v0 v1 v2 v3 = some b) : xs0e.l2 v0 v1 v2 v3 = some b := tOf_intro xs0e.un (fun _ => by kernel_rfl) (loopAtL_step ((xs0e.k2 v0 v1 v2 v3).trans ((by unfold xs0e.t2; repeat' first | exact Sub.ret | exact Sub.none | exact Sub.loop | apply Sub.cond | (apply Sub.bind; intro _) : Sub xs0e.mk _ _) b h)))
def xs0c.s1 (v0 : Zc) (v1 : Int) (v2 : Int) (v3 : Int) (v4 : Int) : List Cell := ⟨(.val .one), [.d .sha (.sl (.pair (.sl (.int .i64)) (.pair (.int .i64) (.int .i64)))) v0], true, false, false, 0, 0⟩ :: vc (iL v1) :: vc (iL v2) :: vc (iL v3) :: nn 6 (vc (iL v4) :: nn 27 ([]))
noncomputable def xs0c.q1 := fun v0 v1 v2 v3 v4 => loopAtL E (callT E tab) 123 Try.f123 5 [.r, .b] (xs0c.s1 v0 v1 v2 v3 v4)
noncomputable def xs0c.l1 := fun v0 v1 v2 v3 v4 => tOf xs0c.mk (xs0c.q1 v0 v1 v2 v3 v4)
noncomputable def xs0c.t {γ : Type} (ret : (Zc) → Option γ) (lp1 : Zc → Int → Int → Int → Int → Option γ) (v0 : Zc) (v1 : Int) (v2 : Int) (v3 : Int) : Option γ :=
 lp1 (v0) (v1) (v2) (v3) ((0 : Int))
noncomputable def xs0c.t1 {γ : Type} (ret : (Zc) → Option γ) (lp1 : Zc → Int → Int → Int → Int → Option γ) (v0 : Zc) (v1 : Int) (v2 : Int) (v3 : Int) (v4 : Int) : Option γ :=
 bif decide (v4 < v3) then
  bif decide ((0 : Int) ≤ IntKind.i64.wrap (v2 + v4)) then
   bif decide ((IntKind.i64.wrap (v2 + v4)).toNat < v0.length) then
    bif decide ((IntKind.i64.wrap (v2 + v4)).toNat < v0.length) then
     bif decide ((0 : Int) ≤ IntKind.i64.wrap (v1 + v4)) then
      bif decide ((IntKind.i64.wrap (v1 + v4)).toNat < v0.length) then
       bif decide ((IntKind.i64.wrap (v1 + v4)).toNat < v0.length) then
        bif decide ((0 : Int) ≤ IntKind.i64.wrap (v1 + v4)) then
         bif decide ((IntKind.i64.wrap (v1 + v4)).toNat < v0.length) then
          bif decide ((IntKind.i64.wrap (v1 + v4)).toNat < v0.length) then
           bif decide ((0 : Int) ≤ IntKind.i64.wrap (v2 + v4)) then
            bif decide   ((IntKind.i64.wrap (v2 + v4)).toNat <     (v0.set (IntKind.i64.wrap (v1 + v4)).toNat         ((v0.getD (IntKind.i64.wrap (v2 + v4)).toNat ([], (0 : Int), (0 : Int))).fst,           (v0.getD (IntKind.i64.wrap (v2 + v4)).toNat ([], (0 : Int), (0 : Int))).snd.fst,           (v0.getD (IntKind.i64.wrap (v2 + v4)).toNat ([], (0 : Int), (0 : Int))).snd.snd)).length) then
             bif decide   ((IntKind.i64.wrap (v2 + v4)).toNat <     (v0.set (IntKind.i64.wrap (v1 + v4)).toNat         ((v0.getD (IntKind.i64.wrap (v2 + v4)).toNat ([], (0 : Int), (0 : Int))).fst,           (v0.getD (IntKind.i64.wrap (v2 + v4)).toNat ([], (0 : Int), (0 : Int))).snd.fst,           (v0.getD (IntKind.i64.wrap (v2 + v4)).toNat ([], (0 : Int), (0 : Int))).snd.snd)).length) then
              lp1 ((v0.set (IntKind.i64.wrap (v1 + v4)).toNat       ((v0.getD (IntKind.i64.wrap (v2 + v4)).toNat ([], (0 : Int), (0 : Int))).fst,         (v0.getD (IntKind.i64.wrap (v2 + v4)).toNat ([], (0 : Int), (0 : Int))).snd.fst,         (v0.getD (IntKind.i64.wrap (v2 + v4)).toNat ([], (0 : Int), (0 : Int))).snd.snd)).set   (IntKind.i64.wrap (v2 + v4)).toNat   ((v0.getD (IntKind.i64.wrap (v1 + v4)).toNat ([], (0 : Int), (0 : Int))).fst,     (v0.getD (IntKind.i64.wrap (v1 + v4)).toNat ([], (0 : Int), (0 : Int))).snd.fst,     (v0.getD (IntKind.i64.wrap (v1 + v4)).toNat ([], (0 : Int), (0 : Int))).snd.snd)) (v1) (v2) (v3) (IntKind.i64.wrap (v4 + (1 : Int)))
             else
              none
            else
             none
           else
            none
          else
           none
         else
          none
        else
         none
       else
        none
      else
       none
     else
      none
    else
     none
   else
    none
  else
   none
 else
  ret (v0)
theorem xs0c.k (v0 v1 v2 v3) : topL E (callT E tab) 123 Try.f123 (xs0c.c v0 v1 v2 v3) = xs0c.t (fun b => some (xs0c.mk b)) xs0c.q1 v0 v1 v2 v3 := by kernel_rfl
theorem xs0c.k1 (v0 v1 v2 v3 v4) : roundL E (callT E tab) 123 Try.f123 5 [.r, .b] (xs0c.s1 v0 v1 v2 v3 v4) = xs0c.t1 (fun b => some (xs0c.mk b)) xs0c.q1 v0 v1 v2 v3 v4 := by kernel_rfl
theorem xs0c.eq (v0 v1 v2 v3) {b} (h : xs0c.t some xs0c.l1 v0 v1 v2 v3 = some b) : xs0c v0 v1 v2 v3 = some b := tOf_intro xs0c.un (fun _ => by kernel_rfl) (vlim_fn (callT_le E tab) rfl rfl rfl ((xs0c.k v0 v1 v2 v3).trans ((by unfold xs0c.t; repeat' first | exact Sub.ret | exact Sub.none | exact Sub.loop | apply Sub.cond | (apply Sub.bind; intro _) : Sub xs0c.mk _ _) b h)))
theorem xs0c.eq1 (v0 v1 v2 v3 v4) {b} (h : xs0c.t1 some xs0c.l1 v0 v1 v2 v3 v4 = some b) : xs0c.l1 v0 v1 v2 v3 v4 = some b := tOf_intro xs0c.un (fun _ => by kernel_rfl) (loopAtL_step ((xs0c.k1 v0 v1 v2 v3 v4).trans ((by unfold xs0c.t1; repeat' first | exact Sub.ret | exact Sub.none | exact Sub.loop | apply Sub.cond | (apply Sub.bind; intro _) : Sub xs0c.mk _ _) b h)))
noncomputable def xi25.t {γ : Type} (ret : ((List Int)) → Option γ) (v0 : List Int) : Option γ :=
 (xs0y (v0)).bind fun (r0 : (List Int)) =>
 ret (r0)
theorem xi25.k (v0) : topL E (callT E tab) 77 Try.f77 (xi25.c v0) = xi25.t (fun b => some (xi25.mk b)) v0 := by kernel_rfl
theorem xi25.eq (v0) {b} (h : xi25.t some v0 = some b) : xi25 v0 = some b := tOf_intro xi25.un (fun _ => by kernel_rfl) (vlim_fn (callT_le E tab) rfl rfl rfl ((xi25.k v0).trans ((by unfold xi25.t; repeat' first | exact Sub.ret | exact Sub.none | exact Sub.loop | apply Sub.cond | (apply Sub.bind; intro _) : Sub xi25.mk _ _) b h)))
noncomputable def xs0y.t {γ : Type} (ret : ((List Int)) → Option γ) (v0 : List Int) : Option γ :=
 bif decide (v0.length ≤ (4294967296 : Nat)) then
  ret (v0)
 else
  none
theorem xs0y.k (v0) : extOf 106 (xs0y.c v0) = xs0y.t (fun b => some (xs0y.mk b)) v0 := by kernel_rfl
theorem xs0y.eq (v0) {b} (h : xs0y.t some v0 = some b) : xs0y v0 = some b := tOf_intro xs0y.un (fun _ => by kernel_rfl) (vlim_ext (g := extOf 106) rfl ((xs0y.k v0).trans ((by unfold xs0y.t; repeat' first | exact Sub.ret | exact Sub.none | exact Sub.loop | apply Sub.cond | (apply Sub.bind; intro _) : Sub xs0y.mk _ _) b h)))
def xs06.s1005 (v0 : Nat) (v1 : Nat) (v2 : Zc) (v3 : Int) (v4 : Int) : List Cell := vc (.d (.jnk v0 v1) (.sl (.pair (.sl (.int .i64)) (.pair (.int .i64) (.int .i64)))) v2) :: vc (.fn 79 []) :: nn 3 (vc (iL v3) :: vc (iL v4) :: nn 35 ([]))
noncomputable def xs06.q1005 := fun v0 v1 v2 v3 v4 => loopAtL E (callT E tab) 78 Try.f78 2 [.r, .r, .r, .l, .r, .b] (xs06.s1005 v0 v1 v2 v3 v4)
noncomputable def xs06.l1005 := fun v0 v1 v2 v3 v4 => tOf xs06.mk (xs06.q1005 v0 v1 v2 v3 v4)
def xs06.s5 (v0 : Zc) (v1 : Int) (v2 : Int) : List Cell := vc (.d .deep (.sl (.pair (.sl (.int .i64)) (.pair (.int .i64) (.int .i64)))) v0) :: vc (.fn 79 []) :: nn 3 (vc (iL v1) :: vc (iL v2) :: nn 35 ([]))
noncomputable def xs06.q5 := fun v0 v1 v2 => loopAtL E (callT E tab) 78 Try.f78 2 [.r, .r, .r, .l, .r, .b] (xs06.s5 v0 v1 v2)
noncomputable def xs06.l5 := fun v0 v1 v2 => tOf xs06.mk (xs06.q5 v0 v1 v2)
noncomputable def xs06.t {γ : Type} (ret : (Zc) → Option γ) (lp1005 : Nat → Nat → Zc → Int → Int → Option γ) (lp5 : Zc → Int → Int → Option γ) (v0 : Zc) : Option γ :=
 (xs0b (v0)).bind fun (r0 : Int) =>
 bif r0 == (-1 : Int) then
  ret (v0)
 else
  lp5 (v0) (r0) (IntKind.i64.wrap (r0 + (1 : Int)))
noncomputable def xs06.t1005 {γ : Type} (ret : (Zc) → Option γ) (lp1005 : Nat → Nat → Zc → Int → Int → Option γ) (lp5 : Zc → Int → Int → Option γ) (v0 : Nat) (v1 : Nat) (v2 : Zc) (v3 : Int) (v4 : Int) : Option γ :=
 bif decide (v4 < (↑v2.length : Int)) then
  bif decide ((0 : Int) ≤ v4) then
   bif decide (v4.toNat < v2.length) then
    bif decide (v4.toNat < v2.length) then
     bif decide (v4.toNat < v2.length) then
      bif decide (v4.toNat < v2.length) then
       (xi1o ((v2.getD v4.toNat ([], (0 : Int), (0 : Int))).fst) ((v2.getD v4.toNat ([], (0 : Int), (0 : Int))).snd.fst) ((v2.getD v4.toNat ([], (0 : Int), (0 : Int))).snd.snd)).bind fun (r2 : Bool) =>
       bif !r2 then
        bif decide ((0 : Int) ≤ v3) then
         bif decide (v3.toNat < v2.length) then
          bif decide (v0 = v3.toNat) then
           bif decide (v3.toNat < v4.toNat) then
            bif decide (v1 ≤ v4.toNat) then
             bif decide (v3.toNat < v2.length) then
              bif decide (v4.toNat < v2.length) then
               bif Nat.beq (0 : Nat) (0 : Nat) &&     (Nat.beq (0 : Nat) (0 : Nat) && (Nat.beq (0 : Nat) (0 : Nat) && decide (v4.toNat = v4.toNat))) &&   (decide (IntKind.i64 = IntKind.i64) &&       decide         ((v2.getD v4.toNat ([], (0 : Int), (0 : Int))).snd.fst =           (v2.getD v4.toNat ([], (0 : Int), (0 : Int))).snd.fst) &&     (decide (IntKind.i64 = IntKind.i64) &&         decide           ((v2.getD v4.toNat ([], (0 : Int), (0 : Int))).snd.snd =             (v2.getD v4.toNat ([], (0 : Int), (0 : Int))).snd.snd) &&       Bool.true)) then
                lp1005 (v3.toNat + (1 : Nat)) (v4.toNat + (1 : Nat)) (v2.set v3.toNat (v2.getD v4.toNat ([], (0 : Int), (0 : Int)))) (IntKind.i64.wrap (v3 + (1 : Int))) (IntKind.i64.wrap (v4 + (1 : Int)))
               else
                none
              else
               none
             else
              none
            else
             none
           else
            none
          else
           none
         else
          none
        else
         none
       else
        lp1005 (v0) (v1) (v2) (v3) (IntKind.i64.wrap (v4 + (1 : Int)))
      else
       none
     else
      none
    else
     none
   else
    none
  else
   none
 else
  bif decide ((0 : Int) ≤ (Option.some v3).getD (0 : Int)) then
   bif decide ((Option.some v3).getD (0 : Int) ≤ (↑v2.length : Int)) then
    bif decide (((Option.some v3).getD (0 : Int)).toNat ≤ v0) then
     bif !decide ((List.drop ((Option.some v3).getD (0 : Int)).toNat v2).length = (0 : Nat)) then
      bif decide (Option.none.getD (0 : Int) ≤ v3) then
       bif decide   (v3 ≤     (↑(List.take ((Option.some v3).getD (0 : Int)).toNat v2 ++             List.replicate (v2.length - ((Option.some v3).getD (0 : Int)).toNat) ([], (0 : Int), (0 : Int))).length :       Int)) then
        ret (List.take (v3 - Option.none.getD (0 : Int)).toNat   (List.drop (Option.none.getD (0 : Int)).toNat     (List.take ((Option.some v3).getD (0 : Int)).toNat v2 ++       List.replicate (v2.length - ((Option.some v3).getD (0 : Int)).toNat) ([], (0 : Int), (0 : Int)))))
       else
        none
      else
       none
     else
      none
    else
     none
   else
    none
  else
   none
noncomputable def xs06.t5 {γ : Type} (ret : (Zc) → Option γ) (lp1005 : Nat → Nat → Zc → Int → Int → Option γ) (lp5 : Zc → Int → Int → Option γ) (v0 : Zc) (v1 : Int) (v2 : Int) : Option γ :=
 bif decide (v2 < (↑v0.length : Int)) then
  bif decide ((0 : Int) ≤ v2) then
   bif decide (v2.toNat < v0.length) then
    bif decide (v2.toNat < v0.length) then
     bif decide (v2.toNat < v0.length) then
      bif decide (v2.toNat < v0.length) then
       (xi1o ((v0.getD v2.toNat ([], (0 : Int), (0 : Int))).fst) ((v0.getD v2.toNat ([], (0 : Int), (0 : Int))).snd.fst) ((v0.getD v2.toNat ([], (0 : Int), (0 : Int))).snd.snd)).bind fun (r1 : Bool) =>
       bif !r1 then
        bif decide ((0 : Int) ≤ v1) then
         bif decide (v1.toNat < v0.length) then
          bif decide (v1.toNat = v1.toNat) then
           bif decide (v1.toNat < v2.toNat) then
            bif decide (v1.toNat ≤ v2.toNat) then
             bif decide (v1.toNat < v0.length) then
              bif decide (v2.toNat < v0.length) then
               bif Nat.beq (0 : Nat) (0 : Nat) &&     (Nat.beq (0 : Nat) (0 : Nat) && (Nat.beq (0 : Nat) (0 : Nat) && decide (v2.toNat = v2.toNat))) &&   (decide (IntKind.i64 = IntKind.i64) &&       decide         ((v0.getD v2.toNat ([], (0 : Int), (0 : Int))).snd.fst =           (v0.getD v2.toNat ([], (0 : Int), (0 : Int))).snd.fst) &&     (decide (IntKind.i64 = IntKind.i64) &&         decide           ((v0.getD v2.toNat ([], (0 : Int), (0 : Int))).snd.snd =             (v0.getD v2.toNat ([], (0 : Int), (0 : Int))).snd.snd) &&       Bool.true)) then
                lp1005 (v1.toNat + (1 : Nat)) (v2.toNat + (1 : Nat)) (v0.set v1.toNat (v0.getD v2.toNat ([], (0 : Int), (0 : Int)))) (IntKind.i64.wrap (v1 + (1 : Int))) (IntKind.i64.wrap (v2 + (1 : Int)))
               else
                none
              else
               none
             else
              none
            else
             none
           else
            none
          else
           none
         else
          none
        else
         none
       else
        lp5 (v0) (v1) (IntKind.i64.wrap (v2 + (1 : Int)))
      else
       none
     else
      none
    else
     none
   else
    none
  else
   none
 else
  bif decide ((0 : Int) ≤ (Option.some v1).getD (0 : Int)) then
   bif decide ((Option.some v1).getD (0 : Int) ≤ (↑v0.length : Int)) then
    bif !decide ((List.drop ((Option.some v1).getD (0 : Int)).toNat v0).length = (0 : Nat)) then
     bif decide (Option.none.getD (0 : Int) ≤ v1) then
      bif decide   (v1 ≤     (↑(List.take ((Option.some v1).getD (0 : Int)).toNat v0 ++             List.replicate (v0.length - ((Option.some v1).getD (0 : Int)).toNat) ([], (0 : Int), (0 : Int))).length :       Int)) then
       ret (List.take (v1 - Option.none.getD (0 : Int)).toNat   (List.drop (Option.none.getD (0 : Int)).toNat     (List.take ((Option.some v1).getD (0 : Int)).toNat v0 ++       List.replicate (v0.length - ((Option.some v1).getD (0 : Int)).toNat) ([], (0 : Int), (0 : Int)))))
      else
       none
     else
      none
    else
     none
   else
    none
  else
   none
theorem xs06.k (v0) : topL E (callT E tab) 78 Try.f78 (xs06.c v0) = xs06.t (fun b => some (xs06.mk b)) xs06.q1005 xs06.q5 v0 := by kernel_rfl
theorem xs06.k1005 (v0 v1 v2 v3 v4) : roundL E (callT E tab) 78 Try.f78 2 [.r, .r, .r, .l, .r, .b] (xs06.s1005 v0 v1 v2 v3 v4) = xs06.t1005 (fun b => some (xs06.mk b)) xs06.q1005 xs06.q5 v0 v1 v2 v3 v4 := by kernel_rfl
theorem xs06.k5 (v0 v1 v2) : roundL E (callT E tab) 78 Try.f78 2 [.r, .r, .r, .l, .r, .b] (xs06.s5 v0 v1 v2) = xs06.t5 (fun b => some (xs06.mk b)) xs06.q1005 xs06.q5 v0 v1 v2 := by kernel_rfl
theorem xs06.eq (v0) {b} (h : xs06.t some xs06.l1005 xs06.l5 v0 = some b) : xs06 v0 = some b := tOf_intro xs06.un (fun _ => by kernel_rfl) (vlim_fn (callT_le E tab) rfl rfl rfl ((xs06.k v0).trans ((by unfold xs06.t; repeat' first | exact Sub.ret | exact Sub.none | exact Sub.loop | apply Sub.cond | (apply Sub.bind; intro _) : Sub xs06.mk _ _) b h)))
theorem xs06.eq1005 (v0 v1 v2 v3 v4) {b} (h : xs06.t1005 some xs06.l1005 xs06.l5 v0 v1 v2 v3 v4 = some b) : xs06.l1005 v0 v1 v2 v3 v4 = some b := tOf_intro xs06.un (fun _ => by kernel_rfl) (loopAtL_step ((xs06.k1005 v0 v1 v2 v3 v4).trans ((by unfold xs06.t1005; repeat' first | exact Sub.ret | exact Sub.none | exact Sub.loop | apply Sub.cond | (apply Sub.bind; intro _) : Sub xs06.mk _ _) b h)))
theorem xs06.eq5 (v0 v1 v2) {b} (h : xs06.t5 some xs06.l1005 xs06.l5 v0 v1 v2 = some b) : xs06.l5 v0 v1 v2 = some b := tOf_intro xs06.un (fun _ => by kernel_rfl) (loopAtL_step ((xs06.k5 v0 v1 v2).trans ((by unfold xs06.t5; repeat' first | exact Sub.ret | exact Sub.none | exact Sub.loop | apply Sub.cond | (apply Sub.bind; intro _) : Sub xs06.mk _ _) b h)))
def xs0b.s2 (v0 : Zc) (v1 : Int) (v2 : Int) : List Cell := vc (.d .fro (.sl (.pair (.sl (.int .i64)) (.pair (.int .i64) (.int .i64)))) v0) :: vc (.fn 79 []) :: nn 5 (vc (iL v1) :: vc (iL v2) :: nn 10 ([]))
noncomputable def xs0b.q2 := fun v0 v1 v2 => loopAtL E (callT E tab) 107 Try.f107 2 [.r, .l, .r, .b] (xs0b.s2 v0 v1 v2)
noncomputable def xs0b.l2 := fun v0 v1 v2 => tOf xs0b.mk (xs0b.q2 v0 v1 v2)
noncomputable def xs0b.t {γ : Type} (ret : (Int) → Option γ) (lp2 : Zc → Int → Int → Option γ) (v0 : Zc) : Option γ :=
 lp2 (v0) ((↑v0.length : Int)) ((0 : Int))
noncomputable def xs0b.t2 {γ : Type} (ret : (Int) → Option γ) (lp2 : Zc → Int → Int → Option γ) (v0 : Zc) (v1 : Int) (v2 : Int) : Option γ :=
 bif decide (v2 < v1) then
  bif decide ((0 : Int) ≤ v2) then
   bif decide (v2.toNat < v0.length) then
    (xi1o ((v0.getD v2.toNat ([], (0 : Int), (0 : Int))).fst) ((v0.getD v2.toNat ([], (0 : Int), (0 : Int))).snd.fst) ((v0.getD v2.toNat ([], (0 : Int), (0 : Int))).snd.snd)).bind fun (r0 : Bool) =>
    bif r0 then
     ret (v2)
    else
     lp2 (v0) (v1) (IntKind.i64.wrap (v2 + (1 : Int)))
   else
    none
  else
   none
 else
  ret ((-1 : Int))
theorem xs0b.k (v0) : topL E (callT E tab) 107 Try.f107 (xs0b.c v0) = xs0b.t (fun b => some (xs0b.mk b)) xs0b.q2 v0 := by kernel_rfl
theorem xs0b.k2 (v0 v1 v2) : roundL E (callT E tab) 107 Try.f107 2 [.r, .l, .r, .b] (xs0b.s2 v0 v1 v2) = xs0b.t2 (fun b => some (xs0b.mk b)) xs0b.q2 v0 v1 v2 := by kernel_rfl
theorem xs0b.eq (v0) {b} (h : xs0b.t some xs0b.l2 v0 = some b) : xs0b v0 = some b := tOf_intro xs0b.un (fun _ => by kernel_rfl) (vlim_fn (callT_le E tab) rfl rfl rfl ((xs0b.k v0).trans ((by unfold xs0b.t; repeat' first | exact Sub.ret | exact Sub.none | exact Sub.loop | apply Sub.cond | (apply Sub.bind; intro _) : Sub xs0b.mk _ _) b h)))
theorem xs0b.eq2 (v0 v1 v2) {b} (h : xs0b.t2 some xs0b.l2 v0 v1 v2 = some b) : xs0b.l2 v0 v1 v2 = some b := tOf_intro xs0b.un (fun _ => by kernel_rfl) (loopAtL_step ((xs0b.k2 v0 v1 v2).trans ((by unfold xs0b.t2; repeat' first | exact Sub.ret | exact Sub.none | exact Sub.loop | apply Sub.cond | (apply Sub.bind; intro _) : Sub xs0b.mk _ _) b h)))
noncomputable def xi1o.t {γ : Type} (ret : (Bool) → Option γ) (v0 : List Int) (v1 : Int) (v2 : Int) : Option γ :=
 bif v1 == (0 : Int) then
  ret (v2 == (0 : Int))
 else
  ret (Bool.false)
theorem xi1o.k (v0 v1 v2) : topL E (callT E tab) 79 Try.f79 (xi1o.c v0 v1 v2) = xi1o.t (fun b => some (xi1o.mk b)) v0 v1 v2 := by kernel_rfl
theorem xi1o.eq (v0 v1 v2) {b} (h : xi1o.t some v0 v1 v2 = some b) : xi1o v0 v1 v2 = some b := tOf_intro xi1o.un (fun _ => by kernel_rfl) (vlim_fn (callT_le E tab) rfl rfl rfl ((xi1o.k v0 v1 v2).trans ((by unfold xi1o.t; repeat' first | exact Sub.ret | exact Sub.none | exact Sub.loop | apply Sub.cond | (apply Sub.bind; intro _) : Sub xi1o.mk _ _) b h)))
def xs2e.s14 (v0 : List Int) (v1 : Zc) (v2 : Zc) (v3 : Int) (v4 : Int) : List Cell := nn 1 (vc (.d .fro (.sl (.int .i64)) v0) :: nn 7 (vc (.d .sha (.sl (.pair (.sl (.int .i64)) (.pair (.int .i64) (.int .i64)))) v1) :: nn 38 (vc (.d .fro (.sl (.pair (.sl (.int .i64)) (.pair (.int .i64) (.int .i64)))) v2) :: vc (iL v3) :: vc (iL v4) :: nn 19 ([]))))
noncomputable def xs2e.q14 := fun v0 v1 v2 v3 v4 => loopAtL E (callT E tab) 14 Try.f14 2 [.r, .r, .r, .r, .r, .r, .l, .r, .b] (xs2e.s14 v0 v1 v2 v3 v4)
noncomputable def xs2e.l14 := fun v0 v1 v2 v3 v4 => tOf xs2e.mk (xs2e.q14 v0 v1 v2 v3 v4)
def xs2e.s5 (v0 : Zc) (v1 : List Int) (v2 : Int) (v3 : List Int) (v4 : Int) (v5 : Int) : List Cell := vc (.d .fro (.sl (.pair (.sl (.int .i64)) (.pair (.int .i64) (.int .i64)))) v0) :: vc (.d .fro (.sl (.int .i64)) v1) :: nn 4 (vc (iL v2) :: nn 14 (vc (.d .fro (.sl (.int .i64)) v3) :: vc (iL v4) :: vc (iL v5) :: nn 46 ([])))
noncomputable def xs2e.q5 := fun v0 v1 v2 v3 v4 v5 => loopAtL E (callT E tab) 14 Try.f14 2 [.r, .r, .r, .l, .r, .b] (xs2e.s5 v0 v1 v2 v3 v4 v5)
noncomputable def xs2e.l5 := fun v0 v1 v2 v3 v4 v5 => tOf xs2e.mk (xs2e.q5 v0 v1 v2 v3 v4 v5)
noncomputable def xs2e.t {γ : Type} (ret : (Zc × Bool) → Option γ) (lp14 : (List Int) → Zc → Zc → Int → Int → Option γ) (lp5 : Zc → (List Int) → Int → (List Int) → Int → Int → Option γ) (v0 : Zc) (v1 : List Int) : Option γ :=
 bif decide ((↑v0.length : Int) > (0 : Int)) then
  bif decide (Int.toNat (0 : Int) < v0.length) then
   lp5 (v0) (v1) ((↑(v0.getD (Int.toNat (0 : Int)) ([], (0 : Int), (0 : Int))).fst.length : Int)) (v1) ((↑v1.length : Int)) ((0 : Int))
  else
   none
 else
  lp5 (v0) (v1) ((1073741824 : Int)) (v1) ((↑v1.length : Int)) ((0 : Int))
noncomputable def xs2e.t14 {γ : Type} (ret : (Zc × Bool) → Option γ) (lp14 : (List Int) → Zc → Zc → Int → Int → Option γ) (lp5 : Zc → (List Int) → Int → (List Int) → Int → Int → Option γ) (v0 : List Int) (v1 : Zc) (v2 : Zc) (v3 : Int) (v4 : Int) : Option γ :=
 bif decide (v4 < v3) then
  bif decide ((0 : Int) ≤ v4) then
   bif decide (v4.toNat < v2.length) then
    (xs2f ((v2.getD v4.toNat ([], (0 : Int), (0 : Int))).fst) (v0)).bind fun (r1 : (List Int)) =>
    (xs2k (v1) (r1) ((v2.getD v4.toNat ([], (0 : Int), (0 : Int))).snd.fst) ((v2.getD v4.toNat ([], (0 : Int), (0 : Int))).snd.snd)).bind fun (r2 : Zc) =>
    lp14 (v0) (r2) (v2) (v3) (IntKind.i64.wrap (v4 + (1 : Int)))
   else
    none
  else
   none
 else
  (xs2h (v1)).bind fun (r3 : Zc × Bool) =>
  ret (r3.fst, r3.snd)
noncomputable def xs2e.t5 {γ : Type} (ret : (Zc × Bool) → Option γ) (lp14 : (List Int) → Zc → Zc → Int → Int → Option γ) (lp5 : Zc → (List Int) → Int → (List Int) → Int → Int → Option γ) (v0 : Zc) (v1 : List Int) (v2 : Int) (v3 : List Int) (v4 : Int) (v5 : Int) : Option γ :=
 bif decide (v5 < v4) then
  bif decide ((0 : Int) ≤ v5) then
   bif decide (v5.toNat < v3.length) then
    bif decide (v3.getD v5.toNat (0 : Int) < (0 : Int)) then
     ret ([], Bool.false)
    else
     bif decide ((↑v0.length : Int) > (0 : Int)) then
      bif decide (v3.getD v5.toNat (0 : Int) ≥ v2) then
       ret ([], Bool.false)
      else
       lp5 (v0) (v1) (v2) (v3) (v4) (IntKind.i64.wrap (v5 + (1 : Int)))
     else
      lp5 (v0) (v1) (v2) (v3) (v4) (IntKind.i64.wrap (v5 + (1 : Int)))
   else
    none
  else
   none
 else
  (xs1j (v0)).bind fun (r0 : Bool) =>
  bif !r0 then
   ret ([], Bool.false)
  else
   bif decide ((↑v1.length : Int) > (6 : Int)) then
    ret ([], Bool.false)
   else
    lp14 (v1) ([]) (v0) ((↑v0.length : Int)) ((0 : Int))
theorem xs2e.k (v0 v1) : topL E (callT E tab) 14 Try.f14 (xs2e.c v0 v1) = xs2e.t (fun b => some (xs2e.mk b)) xs2e.q14 xs2e.q5 v0 v1 := by kernel_rfl
theorem xs2e.k14 (v0 v1 v2 v3 v4) : roundL E (callT E tab) 14 Try.f14 2 [.r, .r, .r, .r, .r, .r, .l, .r, .b] (xs2e.s14 v0 v1 v2 v3 v4) = xs2e.t14 (fun b => some (xs2e.mk b)) xs2e.q14 xs2e.q5 v0 v1 v2 v3 v4 := by kernel_rfl
theorem xs2e.k5 (v0 v1 v2 v3 v4 v5) : roundL E (callT E tab) 14 Try.f14 2 [.r, .r, .r, .l, .r, .b] (xs2e.s5 v0 v1 v2 v3 v4 v5) = xs2e.t5 (fun b => some (xs2e.mk b)) xs2e.q14 xs2e.q5 v0 v1 v2 v3 v4 v5 := by kernel_rfl
theorem xs2e.eq (v0 v1) {b} (h : xs2e.t some xs2e.l14 xs2e.l5 v0 v1 = some b) : xs2e v0 v1 = some b := tOf_intro xs2e.un (fun _ => by kernel_rfl) (vlim_fn (callT_le E tab) rfl rfl rfl ((xs2e.k v0 v1).trans ((by unfold xs2e.t; repeat' first | exact Sub.ret | exact Sub.none | exact Sub.loop | apply Sub.cond | (apply Sub.bind; intro _) : Sub xs2e.mk _ _) b h)))
theorem xs2e.eq14 (v0 v1 v2 v3 v4) {b} (h : xs2e.t14 some xs2e.l14 xs2e.l5 v0 v1 v2 v3 v4 = some b) : xs2e.l14 v0 v1 v2 v3 v4 = some b := tOf_intro xs2e.un (fun _ => by kernel_rfl) (loopAtL_step ((xs2e.k14 v0 v1 v2 v3 v4).trans ((by unfold xs2e.t14; repeat' first | exact Sub.ret | exact Sub.none | exact Sub.loop | apply Sub.cond | (apply Sub.bind; intro _) : Sub xs2e.mk _ _) b h)))
theorem xs2e.eq5 (v0 v1 v2 v3 v4 v5) {b} (h : xs2e.t5 some xs2e.l14 xs2e.l5 v0 v1 v2 v3 v4 v5 = some b) : xs2e.l5 v0 v1 v2 v3 v4 v5 = some b := tOf_intro xs2e.un (fun _ => by kernel_rfl) (loopAtL_step ((xs2e.k5 v0 v1 v2 v3 v4 v5).trans ((by unfold xs2e.t5; repeat' first | exact Sub.ret | exact Sub.none | exact Sub.loop | apply Sub.cond | (apply Sub.bind; intro _) : Sub xs2e.mk _ _) b h)))
def xl1g.s4 (v0 : Zc) (v1 : Zc) (v2 : Int) (v3 : Int) : List Cell := vc (.d .fro (.sl (.pair (.sl (.int .i64)) (.pair (.int .i64) (.int .i64)))) v0) :: vc (.d .fro (.sl (.pair (.sl (.int .i64)) (.pair (.int .i64) (.int .i64)))) v1) :: nn 10 (vc (iL v2) :: vc (iL v3) :: nn 41 ([]))
noncomputable def xl1g.q4 := fun v0 v1 v2 v3 => loopAtL E (callT E tab) 26 Try.f26 2 [.r, .r, .l, .r, .b] (xl1g.s4 v0 v1 v2 v3)
noncomputable def xl1g.l4 := fun v0 v1 v2 v3 => tOf xl1g.mk (xl1g.q4 v0 v1 v2 v3)
noncomputable def xl1g.t {γ : Type} (ret : (Bool) → Option γ) (lp4 : Zc → Zc → Int → Int → Option γ) (v0 : Zc) (v1 : Zc) : Option γ :=
 bif (↑v0.length : Int) != (↑v1.length : Int) then
  ret (Bool.false)
 else
  lp4 (v0) (v1) ((↑v0.length : Int)) ((0 : Int))
noncomputable def xl1g.t4 {γ : Type} (ret : (Bool) → Option γ) (lp4 : Zc → Zc → Int → Int → Option γ) (v0 : Zc) (v1 : Zc) (v2 : Int) (v3 : Int) : Option γ :=
 bif decide (v3 < v2) then
  bif decide ((0 : Int) ≤ v3) then
   bif decide (v3.toNat < v0.length) then
    bif decide ((0 : Int) ≤ v3) then
     bif decide (v3.toNat < v1.length) then
      (xl29 ((v0.getD v3.toNat ([], (0 : Int), (0 : Int))).fst) ((v1.getD v3.toNat ([], (0 : Int), (0 : Int))).fst)).bind fun (r0 : Bool) =>
      bif !r0 then
       ret (Bool.false)
      else
       bif decide ((0 : Int) ≤ v3) then
        bif decide (v3.toNat < v0.length) then
         bif decide ((0 : Int) ≤ v3) then
          bif decide (v3.toNat < v1.length) then
           bif (v0.getD v3.toNat ([], (0 : Int), (0 : Int))).snd.fst != (v1.getD v3.toNat ([], (0 : Int), (0 : Int))).snd.fst then
            ret (Bool.false)
           else
            bif decide ((0 : Int) ≤ v3) then
             bif decide (v3.toNat < v0.length) then
              bif decide ((0 : Int) ≤ v3) then
               bif decide (v3.toNat < v1.length) then
                bif (v0.getD v3.toNat ([], (0 : Int), (0 : Int))).snd.snd != (v1.getD v3.toNat ([], (0 : Int), (0 : Int))).snd.snd then
                 ret (Bool.false)
                else
                 lp4 (v0) (v1) (v2) (IntKind.i64.wrap (v3 + (1 : Int)))
               else
                none
              else
               none
             else
              none
            else
             none
          else
           none
         else
          none
        else
         none
       else
        none
     else
      none
    else
     none
   else
    none
  else
   none
 else
  ret (Bool.true)
theorem xl1g.k (v0 v1) : topL E (callT E tab) 26 Try.f26 (xl1g.c v0 v1) = xl1g.t (fun b => some (xl1g.mk b)) xl1g.q4 v0 v1 := by kernel_rfl
theorem xl1g.k4 (v0 v1 v2 v3) : roundL E (callT E tab) 26 Try.f26 2 [.r, .r, .l, .r, .b] (xl1g.s4 v0 v1 v2 v3) = xl1g.t4 (fun b => some (xl1g.mk b)) xl1g.q4 v0 v1 v2 v3 := by kernel_rfl
theorem xl1g.eq (v0 v1) {b} (h : xl1g.t some xl1g.l4 v0 v1 = some b) : xl1g v0 v1 = some b := tOf_intro xl1g.un (fun _ => by kernel_rfl) (vlim_fn (callT_le E tab) rfl rfl rfl ((xl1g.k v0 v1).trans ((by unfold xl1g.t; repeat' first | exact Sub.ret | exact Sub.none | exact Sub.loop | apply Sub.cond | (apply Sub.bind; intro _) : Sub xl1g.mk _ _) b h)))
theorem xl1g.eq4 (v0 v1 v2 v3) {b} (h : xl1g.t4 some xl1g.l4 v0 v1 v2 v3 = some b) : xl1g.l4 v0 v1 v2 v3 = some b := tOf_intro xl1g.un (fun _ => by kernel_rfl) (loopAtL_step ((xl1g.k4 v0 v1 v2 v3).trans ((by unfold xl1g.t4; repeat' first | exact Sub.ret | exact Sub.none | exact Sub.loop | apply Sub.cond | (apply Sub.bind; intro _) : Sub xl1g.mk _ _) b h)))
noncomputable def xl29.t {γ : Type} (ret : (Bool) → Option γ) (v0 : List Int) (v1 : List Int) : Option γ :=
 (xl1z (v0) (v1)).bind fun (r0 : Bool) =>
 ret (r0)
theorem xl29.k (v0 v1) : topL E (callT E tab) 59 Try.f59 (xl29.c v0 v1) = xl29.t (fun b => some (xl29.mk b)) v0 v1 := by kernel_rfl
theorem xl29.eq (v0 v1) {b} (h : xl29.t some v0 v1 = some b) : xl29 v0 v1 = some b := tOf_intro xl29.un (fun _ => by kernel_rfl) (vlim_fn (callT_le E tab) rfl rfl rfl ((xl29.k v0 v1).trans ((by unfold xl29.t; repeat' first | exact Sub.ret | exact Sub.none | exact Sub.loop | apply Sub.cond | (apply Sub.bind; intro _) : Sub xl29.mk _ _) b h)))
def xl1z.s4 (v0 : List Int) (v1 : List Int) (v2 : Int) (v3 : Int) : List Cell := vc (.d .fro (.sl (.int .i64)) v0) :: vc (.d .fro (.sl (.int .i64)) v1) :: nn 10 (vc (iL v2) :: vc (iL v3) :: nn 12 ([]))
noncomputable def xl1z.q4 := fun v0 v1 v2 v3 => loopAtL E (callT E tab) 97 Try.f97 2 [.r, .r, .l, .r, .b] (xl1z.s4 v0 v1 v2 v3)
noncomputable def xl1z.l4 := fun v0 v1 v2 v3 => tOf xl1z.mk (xl1z.q4 v0 v1 v2 v3)
noncomputable def xl1z.t {γ : Type} (ret : (Bool) → Option γ) (lp4 : (List Int) → (List Int) → Int → Int → Option γ) (v0 : List Int) (v1 : List Int) : Option γ :=
 bif (↑v0.length : Int) != (↑v1.length : Int) then
  ret (Bool.false)
 else
  lp4 (v0) (v1) ((↑v0.length : Int)) ((0 : Int))
noncomputable def xl1z.t4 {γ : Type} (ret : (Bool) → Option γ) (lp4 : (List Int) → (List Int) → Int → Int → Option γ) (v0 : List Int) (v1 : List Int) (v2 : Int) (v3 : Int) : Option γ :=
 bif decide (v3 < v2) then
  bif decide ((0 : Int) ≤ v3) then
   bif decide (v3.toNat < v0.length) then
    bif decide ((0 : Int) ≤ v3) then
     bif decide (v3.toNat < v1.length) then
      bif v0.getD v3.toNat (0 : Int) != v1.getD v3.toNat (0 : Int) then
       ret (Bool.false)
      else
       lp4 (v0) (v1) (v2) (IntKind.i64.wrap (v3 + (1 : Int)))
     else
      none
    else
     none
   else
    none
  else
   none
 else
  ret (Bool.true)
theorem xl1z.k (v0 v1) : topL E (callT E tab) 97 Try.f97 (xl1z.c v0 v1) = xl1z.t (fun b => some (xl1z.mk b)) xl1z.q4 v0 v1 := by kernel_rfl
theorem xl1z.k4 (v0 v1 v2 v3) : roundL E (callT E tab) 97 Try.f97 2 [.r, .r, .l, .r, .b] (xl1z.s4 v0 v1 v2 v3) = xl1z.t4 (fun b => some (xl1z.mk b)) xl1z.q4 v0 v1 v2 v3 := by kernel_rfl
theorem xl1z.eq (v0 v1) {b} (h : xl1z.t some xl1z.l4 v0 v1 = some b) : xl1z v0 v1 = some b := tOf_intro xl1z.un (fun _ => by kernel_rfl) (vlim_fn (callT_le E tab) rfl rfl rfl ((xl1z.k v0 v1).trans ((by unfold xl1z.t; repeat' first | exact Sub.ret | exact Sub.none | exact Sub.loop | apply Sub.cond | (apply Sub.bind; intro _) : Sub xl1z.mk _ _) b h)))
theorem xl1z.eq4 (v0 v1 v2 v3) {b} (h : xl1z.t4 some xl1z.l4 v0 v1 v2 v3 = some b) : xl1z.l4 v0 v1 v2 v3 = some b := tOf_intro xl1z.un (fun _ => by kernel_rfl) (loopAtL_step ((xl1z.k4 v0 v1 v2 v3).trans ((by unfold xl1z.t4; repeat' first | exact Sub.ret | exact Sub.none | exact Sub.loop | apply Sub.cond | (apply Sub.bind; intro _) : Sub xl1z.mk _ _) b h)))
def xi1w.s5 (v0 : Int) (v1 : Int) (v2 : Zc) (v3 : Int) (v4 : Int) : List Cell := nn 5 (vc (iL v0) :: vc (iL v1) :: nn 5 (vc (.d .fro (.sl (.pair (.sl (.int .i64)) (.pair (.int .i64) (.int .i64)))) v2) :: vc (iL v3) :: vc (iL v4) :: nn 22 ([])))
noncomputable def xi1w.q5 := fun v0 v1 v2 v3 v4 => loopAtL E (callT E tab) 27 Try.f27 1 [.r, .r, .r, .l, .r, .b] (xi1w.s5 v0 v1 v2 v3 v4)
noncomputable def xi1w.l5 := fun v0 v1 v2 v3 v4 => tOf xi1w.mk (xi1w.q5 v0 v1 v2 v3 v4)
noncomputable def xi1w.t {γ : Type} (ret : (Int × Int × Bool) → Option γ) (lp5 : Int → Int → Zc → Int → Int → Option γ) (v0 : Zc) : Option γ :=
 (xi1d (v0)).bind fun (r0 : Bool) =>
 bif !r0 then
  ret ((0 : Int), (0 : Int), Bool.false)
 else
  lp5 ((0 : Int)) ((0 : Int)) (v0) ((↑v0.length : Int)) ((0 : Int))
noncomputable def xi1w.t5 {γ : Type} (ret : (Int × Int × Bool) → Option γ) (lp5 : Int → Int → Zc → Int → Int → Option γ) (v0 : Int) (v1 : Int) (v2 : Zc) (v3 : Int) (v4 : Int) : Option γ :=
 bif decide (v4 < v3) then
  bif decide ((0 : Int) ≤ v4) then
   bif decide (v4.toNat < v2.length) then
    lp5 (IntKind.i64.wrap (v0 + (v2.getD v4.toNat ([], (0 : Int), (0 : Int))).snd.fst)) (IntKind.i64.wrap (v1 + (v2.getD v4.toNat ([], (0 : Int), (0 : Int))).snd.snd)) (v2) (v3) (IntKind.i64.wrap (v4 + (1 : Int)))
   else
    none
  else
   none
 else
  (xi2i (v0)).bind fun (r1 : Bool) =>
  bif !r1 then
   ret ((0 : Int), (0 : Int), Bool.false)
  else
   (xi2i (v1)).bind fun (r2 : Bool) =>
   bif !r2 then
    ret ((0 : Int), (0 : Int), Bool.false)
   else
    ret (v0, v1, Bool.true)
theorem xi1w.k (v0) : topL E (callT E tab) 27 Try.f27 (xi1w.c v0) = xi1w.t (fun b => some (xi1w.mk b)) xi1w.q5 v0 := by kernel_rfl
theorem xi1w.k5 (v0 v1 v2 v3 v4) : roundL E (callT E tab) 27 Try.f27 1 [.r, .r, .r, .l, .r, .b] (xi1w.s5 v0 v1 v2 v3 v4) = xi1w.t5 (fun b => some (xi1w.mk b)) xi1w.q5 v0 v1 v2 v3 v4 := by kernel_rfl
theorem xi1w.eq (v0) {b} (h : xi1w.t some xi1w.l5 v0 = some b) : xi1w v0 = some b := tOf_intro xi1w.un (fun _ => by kernel_rfl) (vlim_fn (callT_le E tab) rfl rfl rfl ((xi1w.k v0).trans ((by unfold xi1w.t; repeat' first | exact Sub.ret | exact Sub.none | exact Sub.loop | apply Sub.cond | (apply Sub.bind; intro _) : Sub xi1w.mk _ _) b h)))
theorem xi1w.eq5 (v0 v1 v2 v3 v4) {b} (h : xi1w.t5 some xi1w.l5 v0 v1 v2 v3 v4 = some b) : xi1w.l5 v0 v1 v2 v3 v4 = some b := tOf_intro xi1w.un (fun _ => by kernel_rfl) (loopAtL_step ((xi1w.k5 v0 v1 v2 v3 v4).trans ((by unfold xi1w.t5; repeat' first | exact Sub.ret | exact Sub.none | exact Sub.loop | apply Sub.cond | (apply Sub.bind; intro _) : Sub xi1w.mk _ _) b h)))
end GoV

/- Equations of the program's functions (printed by wip/tools/emit.py). -/
namespace GoV
open Go Go.Proofs
set_option maxRecDepth 100000

noncomputable def xs0t.t {γ : Type} (ret : (Zc) → Option γ) (v0 : List Int) : Option γ :=
 (xs11 (v0)).bind fun (r0 : Zc) =>
 ret (r0)
theorem xs0t.k (v0) : topL E (callT E tab) 28 Try.f28 (xs0t.c v0) = xs0t.t (fun b => some (xs0t.mk b)) v0 := by kernel_rfl
theorem xs0t.eq (v0) {b} (h : xs0t.t some v0 = some b) : xs0t v0 = some b := tOf_intro xs0t.un (fun _ => by kernel_rfl) (vlim_fn (callT_le E tab) rfl rfl rfl ((xs0t.k v0).trans ((by unfold xs0t.t; repeat' first | exact Sub.ret | exact Sub.none | exact Sub.loop | apply Sub.cond | (apply Sub.bind; intro _) : Sub xs0t.mk _ _) b h)))
noncomputable def xs11.t {γ : Type} (ret : (Zc) → Option γ) (v0 : List Int) : Option γ :=
 (xs17 (v0) ((0 : Int)) ((0 : Int))).bind fun (r0 : Int × (List Int) × Int × Int) =>
 (xs0w (r0.snd.fst) (r0.snd.snd.fst) (r0.snd.snd.snd) (r0.fst)).bind fun (r1 : Zc × (List Int) × Int × Int) =>
 ret (r1.fst)
theorem xs11.k (v0) : topL E (callT E tab) 61 Try.f61 (xs11.c v0) = xs11.t (fun b => some (xs11.mk b)) v0 := by kernel_rfl
theorem xs11.eq (v0) {b} (h : xs11.t some v0 = some b) : xs11 v0 = some b := tOf_intro xs11.un (fun _ => by kernel_rfl) (vlim_fn (callT_le E tab) rfl rfl rfl ((xs11.k v0).trans ((by unfold xs11.t; repeat' first | exact Sub.ret | exact Sub.none | exact Sub.loop | apply Sub.cond | (apply Sub.bind; intro _) : Sub xs11.mk _ _) b h)))
def xi15.s5 (v0 : Zc) (v1 : Int) (v2 : Zd) (v3 : Int) (v4 : Zd) (v5 : Zc) (v6 : Int) (v7 : Int) : List Cell := vc (.d .fro (.sl (.pair (.sl (.int .i64)) (.pair (.int .i64) (.int .i64)))) v0) :: nn 1 (⟨(.box false), [iL v1, .d .deep (.sl (.pair (.sl (.int .i64)) (.int .i64))) v2], false, false, false, 0, 0⟩ :: nn 1 (⟨(.box false), [iL v3, .d .deep (.sl (.pair (.sl (.int .i64)) (.int .i64))) v4], false, false, false, 0, 0⟩ :: nn 11 (vc (.d .fro (.sl (.pair (.sl (.int .i64)) (.pair (.int .i64) (.int .i64)))) v5) :: vc (iL v6) :: vc (iL v7) :: nn 37 ([]))))
noncomputable def xi15.q5 := fun v0 v1 v2 v3 v4 v5 v6 v7 => loopAtL E (callT E tab) 29 Try.f29 1 [.r, .r, .r, .l, .r, .b] (xi15.s5 v0 v1 v2 v3 v4 v5 v6 v7)
noncomputable def xi15.l5 := fun v0 v1 v2 v3 v4 v5 v6 v7 => tOf xi15.mk (xi15.q5 v0 v1 v2 v3 v4 v5 v6 v7)
noncomputable def xi15.t {γ : Type} (ret : (Int × Zd × Bool) → Option γ) (lp5 : Zc → Int → Zd → Int → Zd → Zc → Int → Int → Option γ) (v0 : Zc) : Option γ :=
 (xi1d (v0)).bind fun (r0 : Bool) =>
 bif !r0 then
  ret ((0 : Int), [], Bool.false)
 else
  (xi1q (v0)).bind fun (r1 : Int) =>
  bif decide (r1 > (4 : Int)) then
   ret ((0 : Int), [], Bool.false)
  else
   lp5 (v0) ((0 : Int)) ([]) ((0 : Int)) ([]) (v0) ((↑v0.length : Int)) ((0 : Int))
noncomputable def xi15.t5 {γ : Type} (ret : (Int × Zd × Bool) → Option γ) (lp5 : Zc → Int → Zd → Int → Zd → Zc → Int → Int → Option γ) (v0 : Zc) (v1 : Int) (v2 : Zd) (v3 : Int) (v4 : Zd) (v5 : Zc) (v6 : Int) (v7 : Int) : Option γ :=
 bif decide (v7 < v6) then
  bif decide ((0 : Int) ≤ v7) then
   bif decide (v7.toNat < v5.length) then
    (xi2c ((v5.getD v7.toNat ([], (0 : Int), (0 : Int))).snd.fst)).bind fun (r2 : Bool) =>
    bif !r2 then
     ret ((0 : Int), [], Bool.false)
    else
     (xi2c ((v5.getD v7.toNat ([], (0 : Int), (0 : Int))).snd.snd)).bind fun (r3 : Bool) =>
     bif !r3 then
      ret ((0 : Int), [], Bool.false)
     else
      (xi1q (v0)).bind fun (r4 : Int) =>
      (xs0v ([(v5.getD v7.toNat ([], (0 : Int), (0 : Int))).fst,   [(v5.getD v7.toNat ([], (0 : Int), (0 : Int))).snd.fst, (v5.getD v7.toNat ([], (0 : Int), (0 : Int))).snd.snd]])).bind fun (r5 : (List Int)) =>
      bif decide (v4.length + [(r5, (1 : Int))].length ≤ (4294967296 : Nat)) then
       lp5 (v0) (v1) (v2) (IntKind.i64.wrap (r4 + (2 : Int))) (v4 ++ [(r5, (1 : Int))]) (v5) (v6) (IntKind.i64.wrap (v7 + (1 : Int)))
      else
       none
   else
    none
  else
   none
 else
  ret (v3, v4, Bool.true)
theorem xi15.k (v0) : topL E (callT E tab) 29 Try.f29 (xi15.c v0) = xi15.t (fun b => some (xi15.mk b)) xi15.q5 v0 := by kernel_rfl
theorem xi15.k5 (v0 v1 v2 v3 v4 v5 v6 v7) : roundL E (callT E tab) 29 Try.f29 1 [.r, .r, .r, .l, .r, .b] (xi15.s5 v0 v1 v2 v3 v4 v5 v6 v7) = xi15.t5 (fun b => some (xi15.mk b)) xi15.q5 v0 v1 v2 v3 v4 v5 v6 v7 := by kernel_rfl
theorem xi15.eq (v0) {b} (h : xi15.t some xi15.l5 v0 = some b) : xi15 v0 = some b := tOf_intro xi15.un (fun _ => by kernel_rfl) (vlim_fn (callT_le E tab) rfl rfl rfl ((xi15.k v0).trans ((by unfold xi15.t; repeat' first | exact Sub.ret | exact Sub.none | exact Sub.loop | apply Sub.cond | (apply Sub.bind; intro _) : Sub xi15.mk _ _) b h)))
theorem xi15.eq5 (v0 v1 v2 v3 v4 v5 v6 v7) {b} (h : xi15.t5 some xi15.l5 v0 v1 v2 v3 v4 v5 v6 v7 = some b) : xi15.l5 v0 v1 v2 v3 v4 v5 v6 v7 = some b := tOf_intro xi15.un (fun _ => by kernel_rfl) (loopAtL_step ((xi15.k5 v0 v1 v2 v3 v4 v5 v6 v7).trans ((by unfold xi15.t5; repeat' first | exact Sub.ret | exact Sub.none | exact Sub.loop | apply Sub.cond | (apply Sub.bind; intro _) : Sub xi15.mk _ _) b h)))
def xs0v.s11 (v0 : List Int) (v1 : List (List Int)) (v2 : Int) (v3 : Int) : List Cell := nn 6 (vc (.d .deep (.sl (.int .i64)) v0) :: nn 18 (vc (.d .fro (.sl (.sl (.int .i64))) v1) :: vc (iL v2) :: vc (iL v3) :: nn 8 ([])))
noncomputable def xs0v.q11 := fun v0 v1 v2 v3 => loopAtL E (callT E tab) 63 Try.f63 1 [.r, .r, .r, .r, .l, .r, .b] (xs0v.s11 v0 v1 v2 v3)
noncomputable def xs0v.l11 := fun v0 v1 v2 v3 => tOf xs0v.mk (xs0v.q11 v0 v1 v2 v3)
def xs0v.s3 (v0 : List (List Int)) (v1 : Int) (v2 : List (List Int)) (v3 : Int) (v4 : Int) : List Cell := vc (.d .fro (.sl (.sl (.int .i64))) v0) :: nn 2 (vc (iL v1) :: nn 5 (vc (.d .fro (.sl (.sl (.int .i64))) v2) :: vc (iL v3) :: vc (iL v4) :: nn 24 ([])))
noncomputable def xs0v.q3 := fun v0 v1 v2 v3 v4 => loopAtL E (callT E tab) 63 Try.f63 1 [.r, .r, .l, .r, .b] (xs0v.s3 v0 v1 v2 v3 v4)
noncomputable def xs0v.l3 := fun v0 v1 v2 v3 v4 => tOf xs0v.mk (xs0v.q3 v0 v1 v2 v3 v4)
noncomputable def xs0v.t {γ : Type} (ret : ((List Int)) → Option γ) (lp11 : (List Int) → (List (List Int)) → Int → Int → Option γ) (lp3 : (List (List Int)) → Int → (List (List Int)) → Int → Int → Option γ) (v0 : List (List Int)) : Option γ :=
 lp3 (v0) ((0 : Int)) (v0) ((↑v0.length : Int)) ((0 : Int))
noncomputable def xs0v.t11 {γ : Type} (ret : ((List Int)) → Option γ) (lp11 : (List Int) → (List (List Int)) → Int → Int → Option γ) (lp3 : (List (List Int)) → Int → (List (List Int)) → Int → Int → Option γ) (v0 : List Int) (v1 : List (List Int)) (v2 : Int) (v3 : Int) : Option γ :=
 bif decide (v3 < v2) then
  bif decide ((0 : Int) ≤ v3) then
   bif decide (v3.toNat < v1.length) then
    bif decide (v0.length + (v1.getD v3.toNat []).length ≤ (4294967296 : Nat)) then
     lp11 (v0 ++ v1.getD v3.toNat []) (v1) (v2) (IntKind.i64.wrap (v3 + (1 : Int)))
    else
     none
   else
    none
  else
   none
 else
  ret (v0)
noncomputable def xs0v.t3 {γ : Type} (ret : ((List Int)) → Option γ) (lp11 : (List Int) → (List (List Int)) → Int → Int → Option γ) (lp3 : (List (List Int)) → Int → (List (List Int)) → Int → Int → Option γ) (v0 : List (List Int)) (v1 : Int) (v2 : List (List Int)) (v3 : Int) (v4 : Int) : Option γ :=
 bif decide (v4 < v3) then
  bif decide ((0 : Int) ≤ v4) then
   bif decide (v4.toNat < v2.length) then
    bif decide (IntKind.i64.wrap (v1 + (↑(v2.getD v4.toNat []).length : Int)) < (0 : Int)) then
     none
    else
     lp3 (v0) (IntKind.i64.wrap (v1 + (↑(v2.getD v4.toNat []).length : Int))) (v2) (v3) (IntKind.i64.wrap (v4 + (1 : Int)))
   else
    none
  else
   none
 else
  (xs0q (v1)).bind fun (r0 : (List Int)) =>
  lp11 (r0) (v0) ((↑v0.length : Int)) ((0 : Int))
theorem xs0v.k (v0) : topL E (callT E tab) 63 Try.f63 (xs0v.c v0) = xs0v.t (fun b => some (xs0v.mk b)) xs0v.q11 xs0v.q3 v0 := by kernel_rfl
theorem xs0v.k11 (v0 v1 v2 v3) : roundL E (callT E tab) 63 Try.f63 1 [.r, .r, .r, .r, .l, .r, .b] (xs0v.s11 v0 v1 v2 v3) = xs0v.t11 (fun b => some (xs0v.mk b)) xs0v.q11 xs0v.q3 v0 v1 v2 v3 := by kernel_rfl
theorem xs0v.k3 (v0 v1 v2 v3 v4) : roundL E (callT E tab) 63 Try.f63 1 [.r, .r, .l, .r, .b] (xs0v.s3 v0 v1 v2 v3 v4) = xs0v.t3 (fun b => some (xs0v.mk b)) xs0v.q11 xs0v.q3 v0 v1 v2 v3 v4 := by kernel_rfl
theorem xs0v.eq (v0) {b} (h : xs0v.t some xs0v.l11 xs0v.l3 v0 = some b) : xs0v v0 = some b := tOf_intro xs0v.un (fun _ => by kernel_rfl) (vlim_fn (callT_le E tab) rfl rfl rfl ((xs0v.k v0).trans ((by unfold xs0v.t; repeat' first | exact Sub.ret | exact Sub.none | exact Sub.loop | apply Sub.cond | (apply Sub.bind; intro _) : Sub xs0v.mk _ _) b h)))
theorem xs0v.eq11 (v0 v1 v2 v3) {b} (h : xs0v.t11 some xs0v.l11 xs0v.l3 v0 v1 v2 v3 = some b) : xs0v.l11 v0 v1 v2 v3 = some b := tOf_intro xs0v.un (fun _ => by kernel_rfl) (loopAtL_step ((xs0v.k11 v0 v1 v2 v3).trans ((by unfold xs0v.t11; repeat' first | exact Sub.ret | exact Sub.none | exact Sub.loop | apply Sub.cond | (apply Sub.bind; intro _) : Sub xs0v.mk _ _) b h)))
theorem xs0v.eq3 (v0 v1 v2 v3 v4) {b} (h : xs0v.t3 some xs0v.l11 xs0v.l3 v0 v1 v2 v3 v4 = some b) : xs0v.l3 v0 v1 v2 v3 v4 = some b := tOf_intro xs0v.un (fun _ => by kernel_rfl) (loopAtL_step ((xs0v.k3 v0 v1 v2 v3 v4).trans ((by unfold xs0v.t3; repeat' first | exact Sub.ret | exact Sub.none | exact Sub.loop | apply Sub.cond | (apply Sub.bind; intro _) : Sub xs0v.mk _ _) b h)))
noncomputable def xs0q.t {γ : Type} (ret : ((List Int)) → Option γ) (v0 : Int) : Option γ :=
 bif decide (v0 < (0 : Int)) then
  none
 else
  bif decide (IntKind.i64.wrap (v0 - IntKind.i64.wrap ((0 : Int) - (0 : Int))) > (0 : Int)) then
   bif decide ((1 : Int) ≤ IntKind.i64.wrap (v0 - IntKind.i64.wrap ((0 : Int) - (0 : Int)))) then
    bif decide (IntKind.i64.wrap (v0 - IntKind.i64.wrap ((0 : Int) - (0 : Int))) ≤ (↑(4294967296 : Nat) : Int)) then
     ret (List.take ((0 : Int) - Option.none.getD (0 : Int)).toNat   (List.drop (Option.none.getD (0 : Int)).toNat     (List.replicate (IntKind.i64.wrap (v0 - IntKind.i64.wrap ((0 : Int) - (0 : Int)))).toNat (0 : Int))))
    else
     none
   else
    none
  else
   ret ([])
theorem xs0q.k (v0) : topL E (callT E tab) 98 Try.f98 (xs0q.c v0) = xs0q.t (fun b => some (xs0q.mk b)) v0 := by kernel_rfl
theorem xs0q.eq (v0) {b} (h : xs0q.t some v0 = some b) : xs0q v0 = some b := tOf_intro xs0q.un (fun _ => by kernel_rfl) (vlim_fn (callT_le E tab) rfl rfl rfl ((xs0q.k v0).trans ((by unfold xs0q.t; repeat' first | exact Sub.ret | exact Sub.none | exact Sub.loop | apply Sub.cond | (apply Sub.bind; intro _) : Sub xs0q.mk _ _) b h)))
def xs16.s5 (v0 : Int) (v1 : Zd) (v2 : Int) (v3 : Zd) (v4 : Zc) (v5 : Int) (v6 : Int) : List Cell := nn 2 (⟨(.box false), [iL v0, .d .deep (.sl (.pair (.sl (.int .i64)) (.int .i64))) v1], false, false, false, 0, 0⟩ :: nn 1 (⟨(.box false), [iL v2, .d .deep (.sl (.pair (.sl (.int .i64)) (.int .i64))) v3], false, false, false, 0, 0⟩ :: nn 8 (vc (.d .fro (.sl (.pair (.sl (.int .i64)) (.pair (.int .i64) (.int .i64)))) v4) :: vc (iL v5) :: vc (iL v6) :: nn 32 ([]))))
noncomputable def xs16.q5 := fun v0 v1 v2 v3 v4 v5 v6 => loopAtL E (callT E tab) 30 Try.f30 1 [.r, .r, .r, .l, .r, .b] (xs16.s5 v0 v1 v2 v3 v4 v5 v6)
noncomputable def xs16.l5 := fun v0 v1 v2 v3 v4 v5 v6 => tOf xs16.mk (xs16.q5 v0 v1 v2 v3 v4 v5 v6)
noncomputable def xs16.t {γ : Type} (ret : (Int × Zd × Bool) → Option γ) (lp5 : Int → Zd → Int → Zd → Zc → Int → Int → Option γ) (v0 : Zc) : Option γ :=
 (xs1j (v0)).bind fun (r0 : Bool) =>
 bif !r0 then
  ret ((0 : Int), [], Bool.false)
 else
  lp5 ((0 : Int)) ([]) ((0 : Int)) ([]) (v0) ((↑v0.length : Int)) ((0 : Int))
noncomputable def xs16.t5 {γ : Type} (ret : (Int × Zd × Bool) → Option γ) (lp5 : Int → Zd → Int → Zd → Zc → Int → Int → Option γ) (v0 : Int) (v1 : Zd) (v2 : Int) (v3 : Zd) (v4 : Zc) (v5 : Int) (v6 : Int) : Option γ :=
 bif decide (v6 < v5) then
  bif decide ((0 : Int) ≤ v6) then
   bif decide (v6.toNat < v4.length) then
    bif decide (([] : List Int).length + (v4.getD v6.toNat ([], (0 : Int), (0 : Int))).fst.length ≤ (4294967296 : Nat)) then
     bif decide   (([] ++ (v4.getD v6.toNat ([], (0 : Int), (0 : Int))).fst).length +       [(v4.getD v6.toNat ([], (0 : Int), (0 : Int))).snd.fst,           (v4.getD v6.toNat ([], (0 : Int), (0 : Int))).snd.snd].length ≤     (4294967296 : Nat)) then
      bif decide   (v3.length +       [([] ++ (v4.getD v6.toNat ([], (0 : Int), (0 : Int))).fst ++               [(v4.getD v6.toNat ([], (0 : Int), (0 : Int))).snd.fst,                 (v4.getD v6.toNat ([], (0 : Int), (0 : Int))).snd.snd],             (1 : Int))].length ≤     (4294967296 : Nat)) then
       lp5 (v0) (v1) ((↑([] ++ (v4.getD v6.toNat ([], (0 : Int), (0 : Int))).fst ++         [(v4.getD v6.toNat ([], (0 : Int), (0 : Int))).snd.fst,           (v4.getD v6.toNat ([], (0 : Int), (0 : Int))).snd.snd]).length :   Int)) (v3 ++   [([] ++ (v4.getD v6.toNat ([], (0 : Int), (0 : Int))).fst ++         [(v4.getD v6.toNat ([], (0 : Int), (0 : Int))).snd.fst, (v4.getD v6.toNat ([], (0 : Int), (0 : Int))).snd.snd],       (1 : Int))]) (v4) (v5) (IntKind.i64.wrap (v6 + (1 : Int)))
      else
       none
     else
      none
    else
     none
   else
    none
  else
   none
 else
  (xs1r (v2) (v3)).bind fun (r1 : Bool) =>
  bif !r1 then
   ret ((0 : Int), [], Bool.false)
  else
   ret (v2, v3, Bool.true)
theorem xs16.k (v0) : topL E (callT E tab) 30 Try.f30 (xs16.c v0) = xs16.t (fun b => some (xs16.mk b)) xs16.q5 v0 := by kernel_rfl
theorem xs16.k5 (v0 v1 v2 v3 v4 v5 v6) : roundL E (callT E tab) 30 Try.f30 1 [.r, .r, .r, .l, .r, .b] (xs16.s5 v0 v1 v2 v3 v4 v5 v6) = xs16.t5 (fun b => some (xs16.mk b)) xs16.q5 v0 v1 v2 v3 v4 v5 v6 := by kernel_rfl
theorem xs16.eq (v0) {b} (h : xs16.t some xs16.l5 v0 = some b) : xs16 v0 = some b := tOf_intro xs16.un (fun _ => by kernel_rfl) (vlim_fn (callT_le E tab) rfl rfl rfl ((xs16.k v0).trans ((by unfold xs16.t; repeat' first | exact Sub.ret | exact Sub.none | exact Sub.loop | apply Sub.cond | (apply Sub.bind; intro _) : Sub xs16.mk _ _) b h)))
theorem xs16.eq5 (v0 v1 v2 v3 v4 v5 v6) {b} (h : xs16.t5 some xs16.l5 v0 v1 v2 v3 v4 v5 v6 = some b) : xs16.l5 v0 v1 v2 v3 v4 v5 v6 = some b := tOf_intro xs16.un (fun _ => by kernel_rfl) (loopAtL_step ((xs16.k5 v0 v1 v2 v3 v4 v5 v6).trans ((by unfold xs16.t5; repeat' first | exact Sub.ret | exact Sub.none | exact Sub.loop | apply Sub.cond | (apply Sub.bind; intro _) : Sub xs16.mk _ _) b h)))
def xl2m.s4 (v0 : Int) (v1 : Zd) (v2 : Int) (v3 : Zd) (v4 : Int) (v5 : Int) : List Cell := nn 2 (⟨(.box false), [iL v0, .d .fro (.sl (.pair (.sl (.int .i64)) (.int .i64))) v1], false, false, false, 0, 0⟩ :: ⟨(.box false), [iL v2, .d .fro (.sl (.pair (.sl (.int .i64)) (.int .i64))) v3], false, false, false, 0, 0⟩ :: nn 18 (vc (iL v4) :: vc (iL v5) :: nn 32 ([])))
noncomputable def xl2m.q4 := fun v0 v1 v2 v3 v4 v5 => loopAtL E (callT E tab) 31 Try.f31 2 [.r, .r, .l, .r, .b] (xl2m.s4 v0 v1 v2 v3 v4 v5)
noncomputable def xl2m.l4 := fun v0 v1 v2 v3 v4 v5 => tOf xl2m.mk (xl2m.q4 v0 v1 v2 v3 v4 v5)
noncomputable def xl2m.t {γ : Type} (ret : (Bool) → Option γ) (lp4 : Int → Zd → Int → Zd → Int → Int → Option γ) (v0 : Int) (v1 : Zd) (v2 : Int) (v3 : Zd) : Option γ :=
 bif v0 != v2 then
  ret (Bool.false)
 else
  bif (↑v1.length : Int) != (↑v3.length : Int) then
   ret (Bool.false)
  else
   lp4 (v0) (v1) (v2) (v3) ((↑v1.length : Int)) ((0 : Int))
noncomputable def xl2m.t4 {γ : Type} (ret : (Bool) → Option γ) (lp4 : Int → Zd → Int → Zd → Int → Int → Option γ) (v0 : Int) (v1 : Zd) (v2 : Int) (v3 : Zd) (v4 : Int) (v5 : Int) : Option γ :=
 bif decide (v5 < v4) then
  bif decide ((0 : Int) ≤ v5) then
   bif decide (v5.toNat < v1.length) then
    bif decide ((0 : Int) ≤ v5) then
     bif decide (v5.toNat < v3.length) then
      (xl29 ((v1.getD v5.toNat ([], (0 : Int))).fst) ((v3.getD v5.toNat ([], (0 : Int))).fst)).bind fun (r0 : Bool) =>
      bif !r0 then
       ret (Bool.false)
      else
       bif decide ((0 : Int) ≤ v5) then
        bif decide (v5.toNat < v1.length) then
         bif decide ((0 : Int) ≤ v5) then
          bif decide (v5.toNat < v3.length) then
           bif (v1.getD v5.toNat ([], (0 : Int))).snd != (v3.getD v5.toNat ([], (0 : Int))).snd then
            ret (Bool.false)
           else
            lp4 (v0) (v1) (v2) (v3) (v4) (IntKind.i64.wrap (v5 + (1 : Int)))
          else
           none
         else
          none
        else
         none
       else
        none
     else
      none
    else
     none
   else
    none
  else
   none
 else
  ret (Bool.true)
theorem xl2m.k (v0 v1 v2 v3) : topL E (callT E tab) 31 Try.f31 (xl2m.c v0 v1 v2 v3) = xl2m.t (fun b => some (xl2m.mk b)) xl2m.q4 v0 v1 v2 v3 := by kernel_rfl
theorem xl2m.k4 (v0 v1 v2 v3 v4 v5) : roundL E (callT E tab) 31 Try.f31 2 [.r, .r, .l, .r, .b] (xl2m.s4 v0 v1 v2 v3 v4 v5) = xl2m.t4 (fun b => some (xl2m.mk b)) xl2m.q4 v0 v1 v2 v3 v4 v5 := by kernel_rfl
theorem xl2m.eq (v0 v1 v2 v3) {b} (h : xl2m.t some xl2m.l4 v0 v1 v2 v3 = some b) : xl2m v0 v1 v2 v3 = some b := tOf_intro xl2m.un (fun _ => by kernel_rfl) (vlim_fn (callT_le E tab) rfl rfl rfl ((xl2m.k v0 v1 v2 v3).trans ((by unfold xl2m.t; repeat' first | exact Sub.ret | exact Sub.none | exact Sub.loop | apply Sub.cond | (apply Sub.bind; intro _) : Sub xl2m.mk _ _) b h)))
theorem xl2m.eq4 (v0 v1 v2 v3 v4 v5) {b} (h : xl2m.t4 some xl2m.l4 v0 v1 v2 v3 v4 v5 = some b) : xl2m.l4 v0 v1 v2 v3 v4 v5 = some b := tOf_intro xl2m.un (fun _ => by kernel_rfl) (loopAtL_step ((xl2m.k4 v0 v1 v2 v3 v4 v5).trans ((by unfold xl2m.t4; repeat' first | exact Sub.ret | exact Sub.none | exact Sub.loop | apply Sub.cond | (apply Sub.bind; intro _) : Sub xl2m.mk _ _) b h)))
noncomputable def xi24.t {γ : Type} (ret : (Bool × Bool) → Option γ) (v0 : Int) (v1 : Zd) : Option γ :=
 (xi1l (v0) (v1)).bind fun (r0 : Bool) =>
 bif !r0 then
  ret (Bool.false, Bool.false)
 else
  (xi0h (v1)).bind fun (r1 : Bool) =>
  ret (r1, Bool.true)
theorem xi24.k (v0 v1) : topL E (callT E tab) 32 Try.f32 (xi24.c v0 v1) = xi24.t (fun b => some (xi24.mk b)) v0 v1 := by kernel_rfl
theorem xi24.eq (v0 v1) {b} (h : xi24.t some v0 v1 = some b) : xi24 v0 v1 = some b := tOf_intro xi24.un (fun _ => by kernel_rfl) (vlim_fn (callT_le E tab) rfl rfl rfl ((xi24.k v0 v1).trans ((by unfold xi24.t; repeat' first | exact Sub.ret | exact Sub.none | exact Sub.loop | apply Sub.cond | (apply Sub.bind; intro _) : Sub xi24.mk _ _) b h)))
def xi1l.s4 (v0 : Int) (v1 : Zd) (v2 : Zd) (v3 : Int) (v4 : Int) : List Cell := nn 1 (⟨(.box false), [iL v0, .d .fro (.sl (.pair (.sl (.int .i64)) (.int .i64))) v1], false, false, false, 0, 0⟩ :: nn 14 (vc (.d .fro (.sl (.pair (.sl (.int .i64)) (.int .i64))) v2) :: vc (iL v3) :: vc (iL v4) :: nn 39 ([])))
noncomputable def xi1l.q4 := fun v0 v1 v2 v3 v4 => loopAtL E (callT E tab) 52 Try.f52 1 [.r, .r, .l, .r, .b] (xi1l.s4 v0 v1 v2 v3 v4)
noncomputable def xi1l.l4 := fun v0 v1 v2 v3 v4 => tOf xi1l.mk (xi1l.q4 v0 v1 v2 v3 v4)
noncomputable def xi1l.t {γ : Type} (ret : (Bool) → Option γ) (lp4 : Int → Zd → Zd → Int → Int → Option γ) (v0 : Int) (v1 : Zd) : Option γ :=
 (xi1p (v0)).bind fun (r0 : Bool) =>
 bif !r0 then
  ret (Bool.false)
 else
  bif decide ((↑v1.length : Int) > (60 : Int)) then
   ret (Bool.false)
  else
   lp4 (v0) (v1) (v1) ((↑v1.length : Int)) ((0 : Int))
noncomputable def xi1l.t4 {γ : Type} (ret : (Bool) → Option γ) (lp4 : Int → Zd → Zd → Int → Int → Option γ) (v0 : Int) (v1 : Zd) (v2 : Zd) (v3 : Int) (v4 : Int) : Option γ :=
 bif decide (v4 < v3) then
  bif decide ((0 : Int) ≤ v4) then
   bif decide (v4.toNat < v2.length) then
    (xi28 ((v2.getD v4.toNat ([], (0 : Int))).fst) (v0)).bind fun (r1 : Bool) =>
    bif !r1 then
     ret (Bool.false)
    else
     (xi1x ((v2.getD v4.toNat ([], (0 : Int))).snd)).bind fun (r2 : Bool) =>
     bif !r2 then
      ret (Bool.false)
     else
      bif (v2.getD v4.toNat ([], (0 : Int))).snd == (0 : Int) then
       ret (Bool.false)
      else
       bif decide (v4 > (0 : Int)) then
        bif decide ((0 : Int) ≤ IntKind.i64.wrap (v4 - (1 : Int))) then
         bif decide ((IntKind.i64.wrap (v4 - (1 : Int))).toNat < v1.length) then
          (xi1b ((v1.getD (IntKind.i64.wrap (v4 - (1 : Int))).toNat ([], (0 : Int))).fst) ((v2.getD v4.toNat ([], (0 : Int))).fst)).bind fun (r3 : Int) =>
          bif decide (r3 ≥ (0 : Int)) then
           ret (Bool.false)
          else
           lp4 (v0) (v1) (v2) (v3) (IntKind.i64.wrap (v4 + (1 : Int)))
         else
          none
        else
         none
       else
        lp4 (v0) (v1) (v2) (v3) (IntKind.i64.wrap (v4 + (1 : Int)))
   else
    none
  else
   none
 else
  ret (Bool.true)
theorem xi1l.k (v0 v1) : topL E (callT E tab) 52 Try.f52 (xi1l.c v0 v1) = xi1l.t (fun b => some (xi1l.mk b)) xi1l.q4 v0 v1 := by kernel_rfl
theorem xi1l.k4 (v0 v1 v2 v3 v4) : roundL E (callT E tab) 52 Try.f52 1 [.r, .r, .l, .r, .b] (xi1l.s4 v0 v1 v2 v3 v4) = xi1l.t4 (fun b => some (xi1l.mk b)) xi1l.q4 v0 v1 v2 v3 v4 := by kernel_rfl
theorem xi1l.eq (v0 v1) {b} (h : xi1l.t some xi1l.l4 v0 v1 = some b) : xi1l v0 v1 = some b := tOf_intro xi1l.un (fun _ => by kernel_rfl) (vlim_fn (callT_le E tab) rfl rfl rfl ((xi1l.k v0 v1).trans ((by unfold xi1l.t; repeat' first | exact Sub.ret | exact Sub.none | exact Sub.loop | apply Sub.cond | (apply Sub.bind; intro _) : Sub xi1l.mk _ _) b h)))
theorem xi1l.eq4 (v0 v1 v2 v3 v4) {b} (h : xi1l.t4 some xi1l.l4 v0 v1 v2 v3 v4 = some b) : xi1l.l4 v0 v1 v2 v3 v4 = some b := tOf_intro xi1l.un (fun _ => by kernel_rfl) (loopAtL_step ((xi1l.k4 v0 v1 v2 v3 v4).trans ((by unfold xi1l.t4; repeat' first | exact Sub.ret | exact Sub.none | exact Sub.loop | apply Sub.cond | (apply Sub.bind; intro _) : Sub xi1l.mk _ _) b h)))
noncomputable def xi1p.t {γ : Type} (ret : (Bool) → Option γ) (v0 : Int) : Option γ :=
 (xi2d (v0) ((0 : Int)) ((6 : Int))).bind fun (r0 : Bool) =>
 ret (r0)
theorem xi1p.k (v0) : topL E (callT E tab) 89 Try.f89 (xi1p.c v0) = xi1p.t (fun b => some (xi1p.mk b)) v0 := by kernel_rfl
theorem xi1p.eq (v0) {b} (h : xi1p.t some v0 = some b) : xi1p v0 = some b := tOf_intro xi1p.un (fun _ => by kernel_rfl) (vlim_fn (callT_le E tab) rfl rfl rfl ((xi1p.k v0).trans ((by unfold xi1p.t; repeat' first | exact Sub.ret | exact Sub.none | exact Sub.loop | apply Sub.cond | (apply Sub.bind; intro _) : Sub xi1p.mk _ _) b h)))
noncomputable def xi1x.t {γ : Type} (ret : (Bool) → Option γ) (v0 : Int) : Option γ :=
 (xi2d (v0) ((-1000000 : Int)) ((1000000 : Int))).bind fun (r0 : Bool) =>
 ret (r0)
theorem xi1x.k (v0) : topL E (callT E tab) 90 Try.f90 (xi1x.c v0) = xi1x.t (fun b => some (xi1x.mk b)) v0 := by kernel_rfl
theorem xi1x.eq (v0) {b} (h : xi1x.t some v0 = some b) : xi1x v0 = some b := tOf_intro xi1x.un (fun _ => by kernel_rfl) (vlim_fn (callT_le E tab) rfl rfl rfl ((xi1x.k v0).trans ((by unfold xi1x.t; repeat' first | exact Sub.ret | exact Sub.none | exact Sub.loop | apply Sub.cond | (apply Sub.bind; intro _) : Sub xi1x.mk _ _) b h)))
noncomputable def xi0h.t {γ : Type} (ret : (Bool) → Option γ) (v0 : Zd) : Option γ :=
 (xs00 (v0)).bind fun (r0 : Bool) =>
 ret (!r0)
theorem xi0h.k (v0) : topL E (callT E tab) 64 Try.f64 (xi0h.c v0) = xi0h.t (fun b => some (xi0h.mk b)) v0 := by kernel_rfl
theorem xi0h.eq (v0) {b} (h : xi0h.t some v0 = some b) : xi0h v0 = some b := tOf_intro xi0h.un (fun _ => by kernel_rfl) (vlim_fn (callT_le E tab) rfl rfl rfl ((xi0h.k v0).trans ((by unfold xi0h.t; repeat' first | exact Sub.ret | exact Sub.none | exact Sub.loop | apply Sub.cond | (apply Sub.bind; intro _) : Sub xi0h.mk _ _) b h)))
noncomputable def xs00.t {γ : Type} (ret : (Bool) → Option γ) (v0 : Zd) : Option γ :=
 (xs01 (v0)).bind fun (r0 : Int) =>
 ret (decide (r0 ≥ (0 : Int)))
theorem xs00.k (v0) : topL E (callT E tab) 99 Try.f99 (xs00.c v0) = xs00.t (fun b => some (xs00.mk b)) v0 := by kernel_rfl
theorem xs00.eq (v0) {b} (h : xs00.t some v0 = some b) : xs00 v0 = some b := tOf_intro xs00.un (fun _ => by kernel_rfl) (vlim_fn (callT_le E tab) rfl rfl rfl ((xs00.k v0).trans ((by unfold xs00.t; repeat' first | exact Sub.ret | exact Sub.none | exact Sub.loop | apply Sub.cond | (apply Sub.bind; intro _) : Sub xs00.mk _ _) b h)))
def xs01.s2 (v0 : Zd) (v1 : Int) (v2 : Int) : List Cell := vc (.d .fro (.sl (.pair (.sl (.int .i64)) (.int .i64))) v0) :: vc (.fn 100 [.rp [.fn 65 []] 0]) :: nn 5 (vc (iL v1) :: vc (iL v2) :: nn 10 ([]))
noncomputable def xs01.q2 := fun v0 v1 v2 => loopAtL E (callT E tab) 114 Try.f114 2 [.r, .l, .r, .b] (xs01.s2 v0 v1 v2)
noncomputable def xs01.l2 := fun v0 v1 v2 => tOf xs01.mk (xs01.q2 v0 v1 v2)
noncomputable def xs01.t {γ : Type} (ret : (Int) → Option γ) (lp2 : Zd → Int → Int → Option γ) (v0 : Zd) : Option γ :=
 lp2 (v0) ((↑v0.length : Int)) ((0 : Int))
noncomputable def xs01.t2 {γ : Type} (ret : (Int) → Option γ) (lp2 : Zd → Int → Int → Option γ) (v0 : Zd) (v1 : Int) (v2 : Int) : Option γ :=
 bif decide (v2 < v1) then
  bif decide ((0 : Int) ≤ v2) then
   bif decide (v2.toNat < v0.length) then
    (xi0g ((v0.getD v2.toNat ([], (0 : Int))).fst) ((v0.getD v2.toNat ([], (0 : Int))).snd)).bind fun (r0 : Bool) =>
    bif r0 then
     ret (v2)
    else
     lp2 (v0) (v1) (IntKind.i64.wrap (v2 + (1 : Int)))
   else
    none
  else
   none
 else
  ret ((-1 : Int))
theorem xs01.k (v0) : topL E (callT E tab) 114 Try.f114 (xs01.c v0) = xs01.t (fun b => some (xs01.mk b)) xs01.q2 v0 := by kernel_rfl
theorem xs01.k2 (v0 v1 v2) : roundL E (callT E tab) 114 Try.f114 2 [.r, .l, .r, .b] (xs01.s2 v0 v1 v2) = xs01.t2 (fun b => some (xs01.mk b)) xs01.q2 v0 v1 v2 := by kernel_rfl
theorem xs01.eq (v0) {b} (h : xs01.t some xs01.l2 v0 = some b) : xs01 v0 = some b := tOf_intro xs01.un (fun _ => by kernel_rfl) (vlim_fn (callT_le E tab) rfl rfl rfl ((xs01.k v0).trans ((by unfold xs01.t; repeat' first | exact Sub.ret | exact Sub.none | exact Sub.loop | apply Sub.cond | (apply Sub.bind; intro _) : Sub xs01.mk _ _) b h)))
theorem xs01.eq2 (v0 v1 v2) {b} (h : xs01.t2 some xs01.l2 v0 v1 v2 = some b) : xs01.l2 v0 v1 v2 = some b := tOf_intro xs01.un (fun _ => by kernel_rfl) (loopAtL_step ((xs01.k2 v0 v1 v2).trans ((by unfold xs01.t2; repeat' first | exact Sub.ret | exact Sub.none | exact Sub.loop | apply Sub.cond | (apply Sub.bind; intro _) : Sub xs01.mk _ _) b h)))
noncomputable def xi0g.t {γ : Type} (ret : (Bool) → Option γ) (v0 : List Int) (v1 : Int) : Option γ :=
 (xi1m (v0) (v1)).bind fun (r0 : Bool) =>
 ret (!r0)
theorem xi0g.k (v0 v1) : topL E (callT E tab) 100 Try.f100 (xi0g.c v0 v1) = xi0g.t (fun b => some (xi0g.mk b)) v0 v1 := by kernel_rfl
theorem xi0g.eq (v0 v1) {b} (h : xi0g.t some v0 v1 = some b) : xi0g v0 v1 = some b := tOf_intro xi0g.un (fun _ => by kernel_rfl) (vlim_fn (callT_le E tab) rfl rfl rfl ((xi0g.k v0 v1).trans ((by unfold xi0g.t; repeat' first | exact Sub.ret | exact Sub.none | exact Sub.loop | apply Sub.cond | (apply Sub.bind; intro _) : Sub xi0g.mk _ _) b h)))
noncomputable def xi1m.t {γ : Type} (ret : (Bool) → Option γ) (v0 : List Int) (v1 : Int) : Option γ :=
 ret (decide (v1 > (0 : Int)))
theorem xi1m.k (v0 v1) : topL E (callT E tab) 65 Try.f65 (xi1m.c v0 v1) = xi1m.t (fun b => some (xi1m.mk b)) v0 v1 := by kernel_rfl
theorem xi1m.eq (v0 v1) {b} (h : xi1m.t some v0 v1 = some b) : xi1m v0 v1 = some b := tOf_intro xi1m.un (fun _ => by kernel_rfl) (vlim_fn (callT_le E tab) rfl rfl rfl ((xi1m.k v0 v1).trans ((by unfold xi1m.t; repeat' first | exact Sub.ret | exact Sub.none | exact Sub.loop | apply Sub.cond | (apply Sub.bind; intro _) : Sub xi1m.mk _ _) b h)))
end GoV
