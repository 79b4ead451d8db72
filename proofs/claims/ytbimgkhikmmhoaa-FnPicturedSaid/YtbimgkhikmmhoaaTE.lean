/- A part of the proof of FnPictured: an interpreter of the model over plain data, its soundness, and what it makes of the functions that the statement reaches. Conditions: none beyond what the given statement itself says. -/
import Derived.Test.YtbimgkhikmmhoaaTD
import Derived.Laws.Cover3
set_option linter.unusedVariables false
set_option linter.unusedSimpArgs false
set_option linter.unnecessarySimpa false
set_option linter.unusedSectionVars false
/- A library function that asks whether a slice is nil: both ways tell the same data. slices.Clone, slices.Grow. -/
namespace GoV
open Go
section
variable {G:Ctx} {st:St} {a:Act} {w:World} {vals:VS} {B:Nat→Nat} {F:FS} {S:Nat→Nat→BS} {E:Env} {P:Program}

theorem eq_nil_run {t e:TypeId} (hu:P.underlying t=some (.slice e)) (A:Option Addr) (n c:Nat) (w:World):(binOp .eql t (.slice A n c) (.slice none 0 0)).run P w=.ok (.bool A.isNone) w:=by
 have hq:=run_equal_slice_nil w t e A n c hu
 simp only [binOp,Sem.run_bind,hq,Result.andThen_ok]
 rfl
theorem nilop_ok {o : Oper} {t e : TypeId} {q d : Nat} {T : Ty} {x : List T.C} (ho : o.op = .binOp .eql t (.tmp q) (.const (.slice none 0 0)) t) (hd : o.dst = some d) (hu : P.underlying t = some (.slice e))
 (h:Rel G [] st a w) (hc:st[q]?=some (vc (.d .fro (.sl T) x))) (hdst:st[d]?=some Cell.none) :
 ∃ b:Bool,(b=true→x=[])∧OpOK P o a w fun a' w' => Rel G [] (st.set d (vc (bL b))) a' w':=by
 obtain ⟨vals,B,F,S,h⟩:=h
 have hcell:=h.cell q _ hc
 simp only [CellOK,vc,VR] at hcell
 obtain ⟨_,hv,_⟩:=hcell
 have hleaf:=(h.leaf q _ 0 _ _ hc rfl (by rw [hv]; rfl)).1
 have hcr:CRep F w (.d .fro (.sl T) x) (a.tmps.getD q undef):=hleaf
 have hev:a.eval (.tmp q)=a.tmps.getD q undef:=rfl
 cases hcr with
 | d _ _ _ _ hr =>
   simp only [RepF] at hr
   obtain ⟨A,c,h1,h2,h3⟩:=hr
   refine ⟨A.isNone,fun hb => ?_, ?_⟩
   · rcases h3 with h3 | ⟨b, o, hA, _⟩
     · exact h3
     · rw [hA] at hb; cases hb
   · refine op_value (w' := w) (v := .bool A.isNone) ?_ ?_
     · rw [execOp, ho]
       simp only [hev,h1]
       have hconst:a.eval (.const (.slice none 0 0))=.slice none 0 0:=rfl
       rw [hconst]
       have hg:(eqGuard .eql t (.tmp q) (.const (.slice none 0 0)) (.slice A x.length c) (.slice none 0 0)).run P w=.ok () w:=rfl
       simp only [Sem.run_bind,hg,Result.andThen_ok,eq_nil_run hu]
       rfl
     · rw [hd]
       have hlt:=get_lt hdst
       refine dst1_ok (l:=bL A.isNone) h ?_ rfl (u:=()) ?_
       · exact OL.ofBool
       · simp only [dstV, putV, putD]
         show (M.bind (M.read d) _).exec st=_
         have hg:st[d]=Cell.none:=by
           rw [List.getElem?_eq_getElem hlt] at hdst
           exact Option.some.inj hdst
         simp [M.read,M.bind,M.exec,M.check,hg,Cell.none,isNo,M.write,hlt,bind,vc]
def nc:CallT:=fun _ _ => .of none
theorem nc_call:CallOK P nc:=fun _ _ _ _ h => by simp [nc,CallR.of_get] at h
theorem nc_ent:Enters P nc:=fun _ _ _ h => by simp [nc,CallR.of_get] at h
open Classical in
theorem nilfn_ok (hE : EnvOK P E) {f : FuncId} {fn : Func} (hfn : P.funcs[f]? = some fn) {c0 A1 B1 C1 : Code} {id d q : Nat} {o1 o2 : Oper} {t e : TypeId}
 (hbody:fn.body=some (.seq c0 (.seq (.seq (.region id #[o1,o2] false) (.cond (.tmp d) A1 B1)) C1)))
 (hg2:o2.guard=none) (ho2:o2.op=.binOp .eql t (.tmp q) (.const (.slice none 0 0)) t) (hd:o2.dst=some d) (hu:P.underlying t=some (.slice e))
 {cells:List Cell} {st2:St} {T:Ty} {x:List T.C} {r:R} (hr:noRef cells)
 (h0 : ∀ K : St → Option R, vexec E nc 0 f cells.length c0 (fun e st => match e with
  | .normal => opsE E nc cells.length false false #[o1,o2] [o1] K st
  | _ => none) (cells ++ List.replicate (fn.ntmps - cells.length) Cell.none)=K st2)
 (hc:st2[q]?=some (vc (.d .fro (.sl T) x))) (hdst:st2[d]?=some Cell.none)
 (hb : ∀ b : Bool, (b = true → x = []) → vexec E nc 0 f cells.length (.cond (.tmp d) A1 B1) (fun e st' => match e with
  | .normal => vexec E nc 0 f cells.length C1 (retE E f fn cells.length) st'
  | e => retE E f fn cells.length e st') (st2.set d (vc (bL b)))=some r)
 {G:Ctx} {vals:VS} {B:Nat→Nat} {S:Nat→Nat→BS} (h:Rl G [] cells ⟨G.args,[]⟩ G.w0 vals B G.F0 S):Calls P f G.args G.w0 (Done G cells.length r.1 r.2):=by
 have hs:∀ soft,StepsOK P E nc cells.length soft G:=fun soft => vop_ok hE nc nc_call nc_ent G _ soft
 obtain ⟨S',hp⟩:=h.pad (fn.ntmps - cells.length) hr
 have hsz:G.args.size=cells.length:=h.sz
 refine calls_of_wp hfn hbody ?_
 rw [hsz]
 have hret:∀ e st' a' w',retE E f fn cells.length e st'=some r→Rel G [] st' a' w'→bodyPost P fn (Done G cells.length r.1 r.2) e.ex a' w':=by
  intro e st' a' w' hk hrel
  unfold retE at hk
  split at hk
  · rename_i hle
    exact retK_ok hE hrel hle hk
  · cases hk
 have h0':=h0 (fun st' => if st'=st2 then some r else none)
 simp only [if_true] at h0'
 refine wp_seq (vexec_ok hE hs c0 h0' hp.rel fun e st' a' w' hk hrel => ?_)
 cases e with
 | exit i => cases hk
 | ret => cases hk
 | normal =>
   simp only [] at hk
   obtain ⟨st3,k1,k2⟩:=opsE_cons hk
   simp only [opsE,cond_false] at k2
   have e3:st3=st2:=by
    by_cases e:st3=st2
    · exact e
    · rw [if_neg e] at k2; cases k2
   subst e3
   refine wp_seq (wp_seq (wp_region ?_))
   show wpOps P #[o1,o2] _ [0,1] a' w'
   rw [wpOps_cons]
   refine opM_ok (hs false) (i:=0) rfl hrel k1 fun a2 w2 hrel2 => ?_
   rw [wpOps_cons]
   obtain ⟨b,hbx,hop⟩:=nilop_ok ho2 hd hu hrel2 hc hdst
   show wpOp P #[o1,o2] _ 1 _ a2 w2
   have hi:(#[o1,o2]:Array Oper)[1]?=some o2:=rfl
   simp only [wpOp,hi]
   rw [if_pos (by simp [Region.wanted,hg2])]
   refine .inl (hop _ _ fun a3 w3 hrel3 => ?_)
   show (Code.cond (.tmp d) A1 B1).wp P _ a3 w3
   refine vexec_ok hE hs _ (hb b hbx) hrel3 fun e st5 a5 w5 hk5 hrel5 => ?_
   cases e with
   | normal => exact vexec_ok hE hs C1 hk5 hrel5 fun e st6 a6 w6 hk6 hrel6 => hret e st6 a6 w6 hk6 hrel6
   | exit i => exact hret _ _ _ _ hk5 hrel5
   | ret => exact hret _ _ _ _ hk5 hrel5
end
/-! ## slices.Clone -/
def cloneFl (T:Ty):Fl:=if T.flat then .deep else .sha
def extClone (T : Ty) : List Cell → Option R
 | [⟨.val .one,[.d .fro (.sl T') x],false,false,false,0,0⟩] =>
   if h:T'=T then (bif decide ((h ▸ x:List T.C).length≤most) then some (⟨.one,[.d (cloneFl T) (.sl T) (h ▸ x:List T.C)]⟩,[Cell.none]) else none) else none
 | _ => none
theorem extClone_some {T:Ty} {cells:List Cell} {r:R} (h:extClone T cells=some r):∃ x:List T.C,cells=[vc (.d .fro (.sl T) x)]∧x.length≤most∧r=(⟨.one,[.d (cloneFl T) (.sl T) x]⟩,[Cell.none]):=by
 unfold extClone at h
 split at h
 · split at h
   · rename_i T' x hT
     subst hT
     refine ⟨x,rfl, ?_⟩
     simp only [] at h
     cases e:decide (x.length≤most) with
     | false => rw [e] at h; cases h
     | true =>
       rw [e] at h
       exact ⟨of_decide_eq_true e,(Option.some.inj h).symm⟩
   · cases h
 · cases h
def soleE (E:Env) (fl:Fl):Env:={ E with rt:=fun _ => some [fl],kp:=fun _ _ => none,lh:=fun _ _ => none,mid:=fun _ _ => false,ext:=fun _ => none }
theorem soleE_ok {P:Program} {E:Env} (hE:EnvOK P E) (fl:Fl):EnvOK P (soleE E fl):=by
 refine ⟨fun t i h => ?_,hE.fns,hE.mixed,hE.eqt,hE.adr⟩
 obtain ⟨h1,h0,h2,h3⟩:=hE.ti t i h
 obtain ⟨d,g1,g2,g3⟩:=h3
 exact ⟨h1,h0,h2,d,g1,g2,by cases hk:i.tk <;> rw [hk] at g3 <;> exact g3⟩
def cloneSt (T:Ty) (x:List T.C):St:=[vc (.d .fro (.sl T) x),Cell.none,vc (.nil T),vc (.d .fro (.sl T) x),Cell.none,Cell.none,Cell.none,Cell.none]
theorem clone_ok {P : Program} {E : Env} {T : Ty} (hE : EnvOK P E) {f : FuncId} {fn : Func} (hfn : P.funcs[f]? = some fn) {c0 A1 B1 C1 : Code} {id : Nat} {o1 o2 : Oper} {t e : TypeId}
 (hbody:fn.body=some (.seq c0 (.seq (.seq (.region id #[o1,o2] false) (.cond (.tmp 4) A1 B1)) C1))) (hn:fn.ntmps=8)
 (hg2:o2.guard=none) (ho2:o2.op=.binOp .eql t (.tmp 3) (.const (.slice none 0 0)) t) (hd:o2.dst=some 4) (hu:P.underlying t=some (.slice e))
 (h0 : ∀ (x : List T.C) (K : St → Option R), vexec (soleE E (cloneFl T)) nc 0 f 1 c0 (fun e st => match e with
  | .normal => opsE (soleE E (cloneFl T)) nc 1 false false #[o1,o2] [o1] K st
  | _ => none) (vc (.d .fro (.sl T) x)::List.replicate 7 Cell.none)=K (cloneSt T x))
 (hT : vexec (soleE E (cloneFl T)) nc 0 f 1 (.cond (.tmp 4) A1 B1) (fun e st' => match e with
  | .normal => vexec (soleE E (cloneFl T)) nc 0 f 1 C1 (retE (soleE E (cloneFl T)) f fn 1) st'
  | e => retE (soleE E (cloneFl T)) f fn 1 e st') ((cloneSt T []).set 4 (vc (bL true)))=some (⟨.one,[.d (cloneFl T) (.sl T) []]⟩,[Cell.none]))
 (hF : ∀ x : List T.C, vexec (soleE E (cloneFl T)) nc 0 f 1 (.cond (.tmp 4) A1 B1) (fun e st' => match e with
  | .normal => vexec (soleE E (cloneFl T)) nc 0 f 1 C1 (retE (soleE E (cloneFl T)) f fn 1) st'
  | e => retE (soleE E (cloneFl T)) f fn 1 e st') ((cloneSt T x).set 4 (vc (bL false)))=bif decide (([]:List T.C).length+x.length≤most) then some (⟨.one,[.d (cloneFl T) (.sl T) x]⟩,[Cell.none]) else none)
 (cells:List Cell) (res:Val) (fin:List Cell) (hx:extClone T cells=some (res,fin)) (G:Ctx) (vals:VS) (B:Nat→Nat) (S:Nat→Nat→BS) (hr:noRef cells) (h:Rl G [] cells ⟨G.args,[]⟩ G.w0 vals B G.F0 S) :
 Calls P f G.args G.w0 (Done G cells.length res fin):=by
 obtain ⟨x,rfl,hx1,hx2⟩:=extClone_some hx
 obtain ⟨rfl,rfl⟩:=Prod.mk.inj hx2
 refine nilfn_ok (soleE_ok hE (cloneFl T)) hfn hbody hg2 ho2 hd hu (T:=T) (x:=x) (st2:=cloneSt T x) (r:=(⟨.one,[.d (cloneFl T) (.sl T) x]⟩,[Cell.none])) hr ?_ rfl rfl ?_ h
 · intro K
   rw [hn]
   exact h0 x K
 · intro b hb
   cases b with
   | true =>
     have:=hb rfl
     subst this
     exact hT
   | false =>
     refine (hF x).trans ?_
     have:decide (([]:List T.C).length+x.length≤most)=true:=by simpa using hx1
     rw [this]
     rfl
/-! ## An element's place -/
def asI64 : L → M Int
 | .d _ (.int .i64) x => pure x
 | _ => .fail
def adrWire (T : Ty) : List Val → M L
 | [⟨.agg, [p, q]⟩, ⟨.one, [f]⟩, ⟨.one, [t]⟩] => do
   let n ← lenL p
   let a ← asI64 f
   let b ← asI64 t
   indexL T q (IntKind.i64.wrap (IntKind.i64.wrap (a * n)+b))
 | _ => .fail
end GoV
