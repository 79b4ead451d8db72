/- FnExactJoinParts: for every input the law returns true, and each argument reads behind the call as it read before. Conditions: none beyond what the given statement itself says. -/
import Derived.Test.YtkndmlepfblabaaGreatTT
set_option linter.unusedVariables false
set_option linter.unusedSimpArgs false
set_option linter.unnecessarySimpa false
set_option linter.unusedSectionVars false
/- FnExactJoinParts: for every input the law returns true, and each argument reads behind the call as it read before. -/
namespace Go.Proofs.YtkndmlepfblabaaGreat
open GoV Go.ChangeShapes Go.WideShapes Go.RowKit
set_option maxRecDepth 100000
theorem fnExactJoinParts_lifted (os : Os) (started : os.Started) (H : Type) (enc : TypeId × Value → H) :
 ReturnsInHanded {} Tryz.checked os 3 .any (Rows.fnExactJoinPartsSpec.pre6 enc Tryz.prog Tryz.f3 Rows.fnExactJoinPartsRow.domain false) (Rows.fnExactJoinPartsSpec.post enc Tryz.prog Tryz.f3 false true false false):=by
 refine returnsInHanded_of_change_sized (C := Tryz.checked) own_ok started (by kernel_rfl) Tryz.func3
  (ChangeSpec.witness6 (enc:=enc) (C:=Tryz.checked) false ⟨#[],#[.slice none 0 0,.slice none 0 0,.int .i64 0],[]⟩ 8 (by kernel_rfl) (by kernel_rfl) (by kernel_rfl) (by kernel_rfl)) ?_
 intro W base args ds gs before hval0 hW hcnd hsz0 _
 have hval:∀ (j:Nat) t v,Tryz.f3.params[j]?=some t→args[j]?=some v→Value.okWide Tryz.prog W .any base t v:=hval0
 have hW':=hW
 obtain ⟨p,q,hA0,hV,rfl,hfz,hnd⟩:=hW
 have hA:DataW.TrodAll enc Tryz.prog W 0 (fun _ => true) true Tryz.f3.params.toList args.toList ds p:=hA0
 rw [Tryz.params3] at hA hval
 obtain ⟨v0,vs0,d0,ds0,p0,q0,hargs,rfl,rfl,h0,r0⟩:=trodAll_cons hA
 obtain ⟨v1,vs1,d1,ds1,p1,q1,rfl,rfl,rfl,h1,r1⟩:=trodAll_cons r0
 obtain ⟨v2,vs2,d2,ds2,p2,q2,rfl,rfl,rfl,h2,r2⟩:=trodAll_cons r1
 obtain ⟨rfl,rfl,rfl⟩:=trodAll_nil r2
 obtain rfl:args=#[v0,v1,v2]:=by cases args; simp_all
 obtain ⟨rfl,rfl⟩:=trodVars_none hV
 obtain ⟨x0,a0,w0⟩:=open_arg (n:=12) (T:=(.sl (.pair (.int .i64) (.sl (.pair (.sl (.int .i64)) (.int .i64)))))) (agg:=false) (by kernel_rfl) (by kernel_rfl) (hval 0 22 v0 rfl rfl) h0
 obtain ⟨x1,a1,w1⟩:=open_arg (n:=12) (T:=(.sl (.sl (.int .i64)))) (agg:=false) (by kernel_rfl) (by kernel_rfl) (hval 1 23 v1 rfl rfl) h1
 obtain ⟨x2,a2,w2⟩:=open_arg (n:=12) (T:=(.int .i64)) (agg:=false) (by kernel_rfl) (by kernel_rfl) (hval 2 3 v2 rfl rfl) h2
 have hlaw:vlim E 3 [cellA false (.sl (.pair (.int .i64) (.sl (.pair (.sl (.int .i64)) (.int .i64))))) x0,cellA false (.sl (.sl (.int .i64))) x1,cellA false (.int .i64) x2]=some (xl0p.mk true):=tOf_some (FnExactJoinParts_true x0 x1 x2 w0 w1 w2)
 refine (law_run env_ok fns_ok hlaw (W:=W) (args:=[v0,v1,v2]) rfl ?_).mono fun e W' ⟨he,bel⟩ => ?_
 · intro i c hc
   match i,hc with
   | 0,hc => obtain rfl:=Option.some.inj hc; exact ⟨_,_,x0,rfl,a0⟩
   | 1,hc => obtain rfl:=Option.some.inj hc; exact ⟨_,_,x1,rfl,a1⟩
   | 2,hc => obtain rfl:=Option.some.inj hc; exact ⟨_,_,x2,rfl,a2⟩
   | i+3,hc => simp at hc
 · subst he
   exact ⟨_,rfl,_,_,_,[],_,[],hW',trodAll_mk1 (shut_bool (by kernel_rfl) _),below_trodAll laid_ok bel (by kernel_rfl) hA0,rfl,bel.frame _,fun h => by cases h⟩
theorem fnExactJoinParts_holds:Rows.FnExactJoinPartsSaid :=
 OpenClaim.holds_of_wide 3 Tryz.f3 rfl rfl rfl rfl rfl rfl rfl ⟨rfl, rfl, rfl, rfl, rfl⟩ rfl rfl rfl rfl rfl (by kernel_rfl) Tryz.func3 (by kernel_rfl)
  (of_decide_eq_true (by kernel_rfl)) (by unfold Func.isWrapper; first | (rw [if_pos (by decide +kernel)]; kernel_rfl) | (rw [if_neg (by decide +kernel)]; exact ⟨rfl,rfl⟩))
  (fun os started H enc _ => fnExactJoinParts_lifted os started H enc)
end Go.Proofs.YtkndmlepfblabaaGreat
