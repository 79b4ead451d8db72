/- FnPictured: for every input the law returns true, and each argument reads behind the call as it read before. Conditions: none beyond what the given statement itself says. -/
import Derived.Test.YtbimgkhikmmhoaaTM
set_option linter.unusedVariables false
set_option linter.unusedSimpArgs false
set_option linter.unnecessarySimpa false
set_option linter.unusedSectionVars false
/- FnPictured: for every input the law returns true, and each argument reads behind the call as it read before. -/
namespace Go.Proofs.Ytbimgkhikmmhoaa
open GoV Go.ChangeShapes Go.WideShapes Go.RowKit
set_option maxRecDepth 100000
theorem fnPictured_lifted (os : Os) (started : os.Started) (H : Type) (enc : TypeId × Value → H) :
 ReturnsInHanded {} Try.checked os 6 .any (Rows.fnPicturedSpec.pre6 enc Try.prog Try.f6 Rows.fnPicturedRow.domain false) (Rows.fnPicturedSpec.post enc Try.prog Try.f6 false true false false):=by
 refine returnsInHanded_of_change_sized (C := Try.checked) own_ok started (by kernel_rfl) Try.func6
  (ChangeSpec.witness6 (enc:=enc) (C:=Try.checked) false ⟨#[],#[.slice none 0 0],[]⟩ 8 (by kernel_rfl) (by kernel_rfl) (by kernel_rfl) (by kernel_rfl)) ?_
 intro W base args ds gs before hval0 hW hcnd hsz0 _
 have hval:∀ (j:Nat) t v,Try.f6.params[j]?=some t→args[j]?=some v→Value.okWide Try.prog W .any base t v:=hval0
 have hW':=hW
 obtain ⟨p,q,hA0,hV,rfl,hfz,hnd⟩:=hW
 have hA:DataW.TrodAll enc Try.prog W 0 (fun _ => true) true Try.f6.params.toList args.toList ds p:=hA0
 rw [Try.params6] at hA hval
 obtain ⟨v0,vs0,d0,ds0,p0,q0,hargs,rfl,rfl,h0,r0⟩:=trodAll_cons hA
 obtain ⟨rfl,rfl,rfl⟩:=trodAll_nil r0
 obtain rfl:args=#[v0]:=by cases args; simp_all
 obtain ⟨rfl,rfl⟩:=trodVars_none hV
 obtain ⟨x0,a0,w0⟩:=open_arg (n:=12) (T:=(.sl (.int .u8))) (agg:=false) (by kernel_rfl) (by kernel_rfl) (hval 0 60 v0 rfl rfl) h0
 have hlaw:vlim E 6 [cellA false (.sl (.int .u8)) x0]=some (xl0z.mk true):=tOf_some (FnPictured_true x0 w0)
 refine (law_run env_ok fns_ok hlaw (W:=W) (args:=[v0]) rfl ?_).mono fun e W' ⟨he,bel⟩ => ?_
 · intro i c hc
   match i,hc with
   | 0,hc => obtain rfl:=Option.some.inj hc; exact ⟨_,_,x0,rfl,a0⟩
   | i+1,hc => simp at hc
 · subst he
   exact ⟨_,rfl,_,_,_,[],_,[],hW',trodAll_mk1 (shut_bool (by kernel_rfl) _),below_trodAll laid_ok bel (by kernel_rfl) hA0,rfl,bel.frame _,fun h => by cases h⟩
theorem fnPictured_holds:Rows.FnPicturedSaid :=
 OpenClaim.holds_of_wide 6 Try.f6 rfl rfl rfl rfl rfl rfl rfl ⟨rfl, rfl, rfl, rfl, rfl⟩ rfl rfl rfl rfl rfl (by kernel_rfl) Try.func6 (by kernel_rfl)
  (of_decide_eq_true (by kernel_rfl)) (by unfold Func.isWrapper; first | (rw [if_pos (by decide +kernel)]; kernel_rfl) | (rw [if_neg (by decide +kernel)]; exact ⟨rfl,rfl⟩))
  (fun os started H enc _ => fnPictured_lifted os started H enc)
end Go.Proofs.Ytbimgkhikmmhoaa
