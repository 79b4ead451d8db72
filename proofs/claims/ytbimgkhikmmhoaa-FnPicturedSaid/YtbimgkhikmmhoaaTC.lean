/- A part of the proof of FnPictured: an interpreter of the model over plain data, its soundness, and what it makes of the functions that the statement reaches. Conditions: none beyond what the given statement itself says. -/
import Derived.Test.YtbimgkhikmmhoaaTB
import Derived.Laws.AppendOwn
set_option linter.unusedVariables false
set_option linter.unusedSimpArgs false
set_option linter.unnecessarySimpa false
set_option linter.unusedSectionVars false
/- Results; a function, whole. -/
namespace GoV
open Go
section
variable {G:Ctx} {fl:List (L × Value)} {st st' s s' ex:St} {a:Act} {w w':World} {vals vals':VS} {B B':Nat→Nat} {F F':FS} {S:Nat→Nat→BS} {E:Env} {P:Program}

def resRun (tmps : Array Value) : ResultVar → Sem Value
 | .tmp t => pure (tmps.getD t undef)
 | .cell a t => do loadVar t (← asAddr (tmps.getD a undef))
theorem results_run {fn:Func} {tmps:Array Value} {vs:List Value} (h:(fn.results.toList.mapM (resRun tmps)).run P w=.ok vs w):(results fn tmps).run P w=.ok (if h:vs.toArray.size=1 then vs.toArray[0] else .tuple vs.toArray) w:=by
 have hf:results fn tmps=(do let vs ← fn.results.mapM (resRun tmps); pure (if h:vs.size=1 then vs[0] else .tuple vs)):=by
  have hr : ∀ r : ResultVar, resRun tmps r = (match r with
   | .tmp t => pure (tmps.getD t undef)
   | .cell a t => do loadVar t (← asAddr (tmps.getD a undef))):=fun r => by cases r <;> rfl
  have hr':resRun tmps=_:=funext hr
  rw [hr']
  rfl
 have e:(fn.results.mapM (resRun tmps)).run P w=.ok vs.toArray w:=by
  rw [Array.mapM_eq_mapM_toList]
  simp [Sem.run_map,h]
 rw [hf]
 simp only [Sem.run_bind,e,Result.andThen_ok]
 rfl
theorem resOne_ok (hE : EnvOK P E) (h : Rl G fl st a w vals B F S) {no : Bool} {r : ResultVar} {v : Val} (hx : (resOne E no r).exec st = some (v, st')) :
 ∃ S' us val,Rl G (fl ++ v.ls.zip us) st' a w vals B F S'∧v.ls.length=us.length∧VR v.sh us val∧Ones us∧(resRun a.tmps r).run P w=.ok val w:=by
 cases r with
 | tmp t =>
   simp only [resOne] at hx
   obtain ⟨c,s1,h1,h2⟩:=M.bind_some hx
   obtain ⟨hc,e1⟩:=M.read_some h1
   rw [e1] at h2
   split at h2
   · rename_i sh hck
     obtain ⟨ls,s2,h3,h4⟩:=M.bind_some h2
     obtain ⟨rfl,rfl⟩:=M.pure_some h4
     have hcell:=h.cell t c hc
     unfold CellOK at hcell
     rw [hck] at hcell
     obtain ⟨k1,k2,k3⟩:=hcell
     obtain ⟨S',g1,g2,g3⟩:=mapL_ok (fun h ho hx => retL_ok h ho hx) h (h.viewLs hc k1) h3
     exact ⟨S',vals t,a.tmps.getD t undef,g1,g3,k2,k3,by simp [resRun]⟩
   · exact (M.fail_some h2).elim
 | cell b t =>
   simp only [resOne] at hx
   obtain ⟨ti,s0,h0,hx⟩:=M.bind_some hx
   obtain ⟨hti,e0⟩:=M.opt_some h0
   rw [e0] at hx
   obtain ⟨c,s1,h1,h2⟩:=M.bind_some hx
   obtain ⟨hc,e1⟩:=M.read_some h1
   rw [e1] at h2
   split at h2
   · rename_i z hck
     obtain ⟨ls0,s2,h3,h4⟩:=M.bind_some h2
     obtain ⟨hpart,e2⟩:=M.opt_some h3
     rw [e2] at h4
     obtain ⟨ls,s3,h5,h6⟩:=M.bind_some h4
     obtain ⟨hmk,e3⟩:=M.opt_some h6
     obtain ⟨p1,rfl⟩:=part_some hpart
     rw [viewLs_length] at p1
     have hcell:=h.cell b c hc
     have hdata:(vals b).length=c.ls.length∧a.tmps.getD b undef=.pointer (some ⟨B b,0,none⟩)∧(∀ (k:Nat) (u:Value),(vals b)[k]?=some u→cellAt w (B b) k=some u)∧Ones (vals b):=by
        unfold CellOK at hcell
        rw [hck] at hcell
        cases z with
        | false =>
          obtain ⟨g1,g2,g3,g4,g5,g6⟩:=hcell
          exact ⟨g1,g2,fun k u hu => by rw [cellAt_blk g3]; simpa using hu,g6⟩
        | true =>
          obtain ⟨g1,g2,g3,g4,g5⟩:=hcell
          exact ⟨g1,g2,fun k u hu => (g3 k u hu).2,g5⟩
     obtain ⟨q1,q2,q3,q4⟩:=hdata
     have hols:=(h.viewLs hc q1).part 0 ti.n
     obtain ⟨S',g1,g2,g3⟩:=mapL_ok (fun h ho hx => retL_ok h ho hx) h hols h5
     have hus:((vals b).drop 0).take ti.n=(List.range ti.n).map fun j => (vals b).getD j undef:=by
        apply List.ext_getElem?
        intro k
        by_cases hk:k<ti.n
        · have hk' : k < (vals b).length := by omega
          simp [List.getElem?_take,hk,List.getD_eq_getElem?_getD,hk']
        · simp [List.getElem?_take,hk]
     obtain ⟨l1,l2⟩:=load_run (P:=P) (w:=w) (b:=B b) (q:=0) (f:=fun j => (vals b).getD j undef) hE hti fun j hj => by
        have hj':j<(vals b).length:=by omega
        have:=q3 j _ (by simp [hj']:(vals b)[j]?=some (vals b)[j])
        simpa [List.getD_eq_getElem?_getD,hj'] using this
     obtain ⟨m1,m2,m3⟩:=mkVal_ok hmk (us:=((vals b).drop 0).take ti.n) g3.symm
     rw [e3]
     refine ⟨S',_,_,by rw [m1]; exact g1,by rw [m1]; exact g3,m2,q4.part 0 ti.n, ?_⟩
     have hl:(loadVar t ⟨B b,0,none⟩).run P w=(Instr.loadAt t (.pointer (some ⟨B b,0,none⟩))).run P w:=by
        simp [Instr.loadAt,Instr.sureAddr]
     simp only [resRun,Sem.run_bind,q2,asAddr,Sem.run_pure,Result.andThen_ok,hl,l1,hus]
     cases ha:ti.agg with
     | true => rfl
     | false => simp [l2 ha]
   · exact (M.fail_some h2).elim
def Rs : List Val → List (List Value) → List Value → Prop
 | [],[],[] => True
 | v::vs,us::uss,x::xs => v.ls.length=us.length∧VR v.sh us x∧Ones us∧Rs vs uss xs
 | _,_,_ => False
theorem resAll_ok (hE : EnvOK P E) {no : Bool} : ∀ {rs : List ResultVar} {vs : List Val} {fl : List (L × Value)} {st st' : St} {S : Nat → Nat → BS}, Rl G fl st a w vals B F S → (resAll E no rs).exec st = some (vs, st') →
 ∃ S' uss xs,Rl G (fl ++ (vs.flatMap (·.ls)).zip uss.flatten) st' a w vals B F S'∧Rs vs uss xs∧(rs.mapM (resRun a.tmps)).run P w=.ok xs w
 | [],vs,fl,st,st',S,h,hx => by
   unfold resAll at hx
   obtain ⟨rfl,rfl⟩:=M.pure_some hx
   exact ⟨S,[],[],by simpa using h,trivial,by simp⟩
 | r::rs,vs,fl,st,st',S,h,hx => by
   unfold resAll at hx
   obtain ⟨v,s1,h1,h2⟩:=M.bind_some hx
   obtain ⟨vs',s2,h3,h4⟩:=M.bind_some h2
   obtain ⟨rfl,rfl⟩:=M.pure_some h4
   obtain ⟨S1,us,val,g1,g2,g3,g4,g5⟩:=resOne_ok hE h h1
   obtain ⟨S2,uss,xs,k1,k2,k3⟩:=resAll_ok hE g1 h3
   refine ⟨S2,us::uss,val::xs, ?_,⟨g2,g3,g4,k2⟩, ?_⟩
   · rw [List.flatMap_cons, List.flatten_cons, List.zip_append (by exact g2), ← List.append_assoc]
     exact k1
   · simp [List.mapM_cons,Sem.run_bind,g5,k3]
theorem shs_ok : ∀ {vs : List Val} {uss : List (List Value)} {xs : List Value} {ns : List (Option Nat)}, Rs vs uss xs → tupOf.shs vs = some ns → TupR ns uss.flatten xs ∧ (vs.flatMap (·.ls)).length = uss.flatten.length ∧ Ones uss.flatten
 | [],[],[],ns,_,h => by simp only [tupOf.shs,Option.some.injEq] at h; subst h; exact ⟨⟨rfl,rfl⟩,rfl,by simp [Ones]⟩
 | v::vs,us::uss,x::xs,ns,hr,h => by
   obtain ⟨r1,r2,r3,r4⟩:=hr
   simp only [tupOf.shs] at h
   split at h
   · rename_i q ns' hq hns
     obtain rfl:=Option.some.inj h
     obtain ⟨k1,k2,k3⟩:=shs_ok r4 hns
     refine ⟨?_,by simp [r1,k2],fun u hu => ?_⟩
     · cases hsh : v.sh with
       | one =>
         rw [hsh] at r2 hq
         simp only [shNo,Option.some.injEq] at hq
         subst hq
         simp only [VR] at r2
         exact ⟨x,uss.flatten,xs,by rw [r2]; rfl,rfl,k1⟩
       | agg =>
         rw [hsh] at r2 hq
         simp only [shNo,Option.some.injEq] at hq
         subst hq
         simp only [VR] at r2
         exact ⟨us,uss.flatten,xs,rfl,r1.symm,by rw [r2],k1⟩
       | tup ms => rw [hsh] at hq; simp [shNo] at hq
       | clo f => rw [hsh] at hq; simp [shNo] at hq
     · simp only [List.flatten_cons, List.mem_append] at hu
       exact hu.elim (r3 u) (k3 u)
   · cases h
 | [],_::_,_,_,hr,_ => hr.elim
 | [],[],_::_,_,hr,_ => hr.elim
 | _::_,[],_,_,hr,_ => hr.elim
 | _::_,_::_,[],_,hr,_ => hr.elim
theorem tupOf_ok {vs : List Val} {uss : List (List Value)} {xs : List Value} {v : Val} (hr : Rs vs uss xs) (h : tupOf vs = some v) :
 v.ls=vs.flatMap (·.ls)∧v.ls.length=uss.flatten.length∧VR v.sh uss.flatten (if h:xs.toArray.size=1 then xs.toArray[0] else .tuple xs.toArray)∧Ones uss.flatten:=by
 unfold tupOf at h
 split at h
 · rename_i v0
   obtain rfl:=Option.some.inj h
   rcases uss with _ | ⟨us,_ | ⟨us2,uss⟩⟩ <;> rcases xs with _ | ⟨x,_ | ⟨x2,xs⟩⟩ <;> first | exact hr.elim | exact hr.2.2.2.elim | skip
   obtain ⟨r1,r2,r3,_⟩:=hr
   exact ⟨by simp,by simpa using r1,by simpa using r2,by simpa using r3⟩
 · rename_i hno
   split at h
   · rename_i ns hns
     obtain rfl:=Option.some.inj h
     obtain ⟨k1,k2,k3⟩:=shs_ok hr hns
     refine ⟨rfl,k2, ?_,k3⟩
     have hne:¬ xs.toArray.size=1:=by
        intro e
        rcases vs with _ | ⟨v1,_ | ⟨v2,vs⟩⟩
        · rcases uss with _ | ⟨us,uss⟩ <;> rcases xs with _ | ⟨x,xs⟩ <;> first | exact hr.elim | simp at e
        · exact hno v1 rfl
        · rcases uss with _ | ⟨us,_ | ⟨us2,uss⟩⟩ <;> rcases xs with _ | ⟨x,_ | ⟨x2,xs⟩⟩ <;> first | exact hr.elim | exact hr.2.2.2.elim | simp at e
     rw [dif_neg hne]
     exact ⟨xs,rfl,k1⟩
   · cases h
theorem Rl.coLs : ∀ {os : List Fl} {ls ls' : List L} {us : List Value} {pre : List (L × Value)} {F : FS} {S : Nat → Nat → BS}, Rl G (pre ++ ls.zip us) st a w vals B F S → coLs os ls = some ls' → ls.length = us.length →
 ∃ F' S',Rl G (pre ++ ls'.zip us) st a w vals B F' S'∧ls'.length=us.length
 | os,[],ls',us,pre,F,S,h,hx,hl => by
   cases os <;> (simp only [GoV.coLs,Option.some.injEq] at hx; subst hx; exact ⟨F,S,h,hl⟩)
 | [],l::ls,ls',us,pre,F,S,h,hx,hl => by
   simp only [GoV.coLs,Option.some.injEq] at hx; subst hx; exact ⟨F,S,h,hl⟩
 | o::os,l::ls,ls',us,pre,F,S,h,hx,hl => by
   cases us with
   | nil => simp at hl
   | cons u us =>
     simp only [GoV.coLs] at hx
     split at hx
     · rename_i x y hx1 hy
       obtain rfl:=Option.some.inj hx
       simp only [List.zip_cons_cons] at h
       have hm:(pre ++ (l,u)::ls.zip us)[pre.length]?=some (l,u):=by simp
       obtain ⟨g1,g2⟩:=h.fleaf _ _ _ hm
       obtain ⟨F1,S1,k1,k2⟩:=g1.coL hx1
       have h1:=h.coFloat hm k1 k2 (g2.coL hx1)
       have e:(pre ++ (l,u)::ls.zip us).set pre.length (x,u)=(pre ++ [(x,u)]) ++ ls.zip us:=by simp
       rw [e] at h1
       obtain ⟨F2,S2,m1,m2⟩:=Rl.coLs h1 hy (by simpa using hl)
       exact ⟨F2,S2,by simpa using m1,by simp [m2]⟩
     · cases hx
theorem Rl.finish (h : Rl G fl st a w vals B F S) (n : Nat) (hn : n ≤ st.length) (hfl : ∀ (k : Nat) (l : L) (u : Value), fl[k]? = some (l, u) → l.ref = false) :
 Rl G fl ((st.take n).map finC) ⟨a.tmps.take n,[]⟩ w vals B F (fun i k => if i=n then S st.length k else if i<n then S i k else fun _ => False):=by
 have hget:∀ {i q},((st.take n).map finC)[i]?=some q→i<n∧∃ c,st[i]?=some c∧q=finC c:=by
  intro i q hq
  rw [List.getElem?_map,List.getElem?_take] at hq
  split at hq
  · obtain ⟨c, h1, h2⟩ := Option.map_eq_some_iff.1 hq
    exact ⟨by assumption,c,h1,h2.symm⟩
  · cases hq
 have hlen:((st.take n).map finC).length=n:=by simp; omega
 have htmp:∀ {i},i<n→(a.tmps.take n).getD i undef=a.tmps.getD i undef:=by
  intro i hi
  have hsz:=h.sz
  simp only [Array.getD_eq_getD_getElem?,Array.take_eq_extract,Array.getElem?_extract]
  rw [if_pos (by omega),Nat.zero_add]
 have key:∀ {i k y},(if i=n then S st.length k else if i<n then S i k else fun _ => False) y→∃ i',S i' k y∧((i=n∧i'=st.length)∨(i<n∧i'=i)):=by
  intro i k y hy
  split at hy
  · exact ⟨_,hy,.inl ⟨by assumption,rfl⟩⟩
  · split at hy
    · exact ⟨_,hy,.inr ⟨by assumption,rfl⟩⟩
    · exact hy.elim
 refine ⟨by rw [hlen]; simp [h.sz]; omega,rfl,fun i q hq => ?_,fun i q k l u hq hl hu => ?_,fun k l u hf => ?_,fun i k i' k' y hne hy hy' => ?_,fun i k y hy => ?_,h.fz,h.f0,h.un,h.wo,fun i q hq hp => ?_⟩
 · obtain ⟨hi, c, hc, rfl⟩ := hget hq
   rw [htmp hi,if_neg (by omega),if_pos hi]
   have hcell:=h.cell i c hc
   unfold finC
   split
   · unfold CellOK at hcell ⊢
     split <;> rename_i hck <;> simp only at hck <;> simp only [hck] at hcell
     · simp [hcell.1]
     · exact ⟨by simpa using hcell.1,hcell.2⟩
     · exact ⟨by simpa using hcell.1,hcell.2⟩
     · obtain ⟨g1, g2, g3, g4, g5⟩ := hcell
       refine ⟨by simpa using g1,g2,g3,fun k l u hl hu => ?_,g5⟩
       simp only [List.getElem?_map] at hl
       obtain ⟨l0,hl0,rfl⟩:=Option.map_eq_some_iff.1 hl
       have hcr:=g4 k l0 u hl0 hu
       have:l0.isLink=false:=by cases hcr <;> rfl
       rw [this]
       exact hcr
   · simp [CellOK,Cell.none]
 · obtain ⟨hi, c, hc, rfl⟩ := hget hq
   rw [if_neg (by omega),if_pos hi]
   unfold finC at hl
   split at hl
   · simp only [List.getElem?_map] at hl
     obtain ⟨l0,hl0,rfl⟩:=Option.map_eq_some_iff.1 hl
     obtain ⟨g1,g2⟩:=h.leaf i c k l0 u hc hl0 hu
     split
     · exact ⟨trivial,trivial⟩
     · rename_i hnl
       refine ⟨g1,link_of_ref ?_⟩
       cases l0 <;> first | rfl | exact absurd rfl hnl
   · simp [Cell.none] at hl
 · rw [hlen, if_pos rfl]
   exact ⟨(h.fleaf k l u hf).1,link_of_ref (hfl k l u hf)⟩
 · obtain ⟨j, h1, h2⟩ := key hy
   obtain ⟨j',h3,h4⟩:=key hy'
   refine h.disj j k j' k' y (fun e => hne ?_) h1 h3
   simp only [Prod.mk.injEq] at e ⊢
   omega
 · obtain ⟨j, h1, h2⟩ := key hy
   exact h.sub j k y h1
 · obtain ⟨hi, c, hc, rfl⟩ := hget hq
   rw [htmp hi]
   unfold finC at hp
   split at hp
   · rename_i hpin
     exact h.pin i c hc hpin
   · cases hp
theorem finC_ref (c:Cell):∀ l,l∈(finC c).ls→l.ref=false:=by
 intro l hl
 unfold finC at hl
 split at hl
 · simp only [List.mem_map] at hl
   obtain ⟨l0,_,rfl⟩:=hl
   split
   · rfl
   · rename_i h
     cases l0 <;> first | rfl | exact absurd rfl h
 · simp [Cell.none] at hl
def Done (G:Ctx) (n:Nat) (res:Val) (fin:List Cell) (e:Ending) (w':World):Prop :=
 ∃ v us, e = .returned v ∧ VR res.sh us v ∧ Ones us ∧ res.ls.length = us.length ∧ fin.length = n ∧ noRef fin ∧ (∀ l, l ∈ res.ls → l.ref = false) ∧
   ∃ a' vals' B' F' S',Rl G (res.ls.zip us) fin a' w' vals' B' F' S'
theorem retK_ok (hE : EnvOK P E) {f : FuncId} {fn : Func} {n : Nat} {e : Ex} {res : Val} {fin : List Cell} (h : Rel G [] st a w) (hn : n ≤ st.length) (hx : retK E f fn n e st = some (res, fin)) :
 bodyPost P fn (Done G n res fin) e.ex a w:=by
 obtain ⟨vals,B,F,S,h⟩:=h
 have key : ((resAll E (lastNo fn.results.toList st) fn.results.toList).runK st fun vs st' _ => match tupOf vs with
  | none => none
  | some v => match (match E.rt f with | none => some v.ls | some fl => coLs fl v.ls) with
    | none => none
    | some ls => if ls.all (fun l => !l.ref) then some (⟨v.sh,ls⟩,(st'.take n).map finC) else none:Option R)=some (res,fin) →
  a.defers=[]∧∃ v,(results fn a.tmps).run P w=.ok v w∧Done G n res fin (.returned v) w:=by
  intro hx
  refine ⟨h.df, ?_⟩
  rw [M.runK_eq] at hx
  split at hx
  · rename_i vs st1 hres
    obtain ⟨S1,uss,xs,g1,g2,g3⟩:=resAll_ok hE h hres
    have hlen1:st1.length=st.length:=(M.exec_append _ [] hres).2
    split at hx
    · cases hx
    · rename_i v hv
      obtain ⟨k1,k2,k3,k4⟩:=tupOf_ok g2 hv
      rw [← k1] at g1
      simp only [List.nil_append] at g1
      have hco:∀ {ls:List L},(match E.rt f with | none => some v.ls | some fl => coLs fl v.ls)=some ls→∃ F' S',Rl G (ls.zip uss.flatten) st1 a w vals B F' S'∧ls.length=uss.flatten.length:=by
       intro ls hls
       split at hls
       · obtain rfl := Option.some.inj hls
         exact ⟨F,S1,g1,k2⟩
       · obtain ⟨F2, S2, m1, m2⟩ := Rl.coLs (pre := []) (by simpa using g1) hls k2
         exact ⟨F2,S2,by simpa using m1,m2⟩
      split at hx
      · cases hx
      · rename_i ls hls
        obtain ⟨F2,S2,m1,m2⟩:=hco hls
        split at hx
        · rename_i href
          simp only [Option.some.injEq,Prod.mk.injEq] at hx
          obtain ⟨rfl,rfl⟩:=hx
          simp only [List.all_eq_true,Bool.not_eq_true'] at href
          refine ⟨_,results_run g3,_,uss.flatten,rfl,k3,k4,m2,by simp; omega,fun c hc l hl => ?_,href,_,vals,B,F2,_,m1.finish n (by omega) fun k l u hk => ?_⟩
          · obtain ⟨c0, _, rfl⟩ := List.mem_map.1 hc
            exact finC_ref c0 l hl
          · rw [List.getElem?_zip_eq_some] at hk
            exact href l (List.mem_of_getElem? hk.1)
        · cases hx
  · cases hx
 cases e with
 | normal => exact key hx
 | ret => exact key hx
 | exit i => simp [retK] at hx
theorem Rl.pad (h:Rl G [] st a w vals B F S) (m:Nat) (hr:noRef st):∃ S',Rl G [] (st ++ List.replicate m Cell.none) ⟨a.tmps ++ Array.replicate m undef,a.defers⟩ w vals B F S':=by
 have hget:∀ {i q},(st ++ List.replicate m Cell.none)[i]?=some q→(i<st.length∧st[i]?=some q)∨(¬ i<st.length∧q=Cell.none):=by
  intro i q hq
  by_cases hi:i<st.length
  · rw [List.getElem?_append_left hi] at hq; exact .inl ⟨hi,hq⟩
  · rw [List.getElem?_append_right (by omega), List.getElem?_replicate] at hq
    split at hq
    · exact .inr ⟨hi,(Option.some.inj hq).symm⟩
    · cases hq
 have htmp:∀ {i},i<st.length→(a.tmps ++ Array.replicate m undef).getD i undef=a.tmps.getD i undef:=by
  intro i hi
  simp only [Array.getD_eq_getD_getElem?,Array.getElem?_append]
  rw [if_pos (by rw [h.sz]; exact hi)]
 have key:∀ {i k y},(if i<st.length then S i k else (fun _ => False:BS)) y→i<st.length∧S i k y:=by
  intro i k y hy
  split at hy
  · exact ⟨by assumption,hy⟩
  · exact hy.elim
 refine ⟨fun i k => if i<st.length then S i k else fun _ => False,by simp [h.sz],h.df,fun i q hq => ?_,fun i q k l u hq hl hu => ?_,fun k l u hf => by simp at hf,fun i k i' k' y hne hy hy' => h.disj i k i' k' y hne (key hy).2 (key hy').2,fun i k y hy => h.sub i k y (key hy).2,h.fz,h.f0,h.un,h.wo,fun i q hq hp => ?_⟩
 · rcases hget hq with ⟨hi, hq⟩ | ⟨hi, rfl⟩
   · rw [htmp hi,if_pos hi]; exact h.cell i q hq
   · simp [CellOK,Cell.none]
 · rcases hget hq with ⟨hi, hq⟩ | ⟨hi, rfl⟩
   · rw [if_pos hi]
     exact ⟨(h.leaf i q k l u hq hl hu).1,link_of_ref (hr q (List.mem_of_getElem? hq) l (List.mem_of_getElem? hl))⟩
   · simp [Cell.none] at hl
 · rcases hget hq with ⟨hi, hq⟩ | ⟨hi, rfl⟩
   · rw [htmp hi]; exact h.pin i q hq hp
   · cases hp
structure FnsOK (P : Program) (E : Env) : Prop where
 fns : ∀ f fn, E.fns f = some fn → P.funcs[f]? = some fn ∧ (fn.name == "runtime.NumGoroutine") = false ∧ fn.body.isSome = true
 ext : ∀ f g, E.ext f = some g → (∃ fn, P.funcs[f]? = some fn ∧ (fn.name == "runtime.NumGoroutine") = false ∧ fn.body.isSome = true) ∧
  ∀ (cells:List Cell) (res:Val) (fin:List Cell),g cells=some (res,fin)→∀ (G:Ctx) (vals:VS) (B:Nat→Nat) (S:Nat→Nat→BS),noRef cells→Rl G [] cells ⟨G.args,[]⟩ G.w0 vals B G.F0 S→Calls P f G.args G.w0 (Done G cells.length res fin)
theorem vcall_ok (hE : EnvOK P E) (hF : FnsOK P E) (hop : ∀ call, CallOK P call → Enters P call → ∀ G np soft, StepsOK P E call np soft G) : ∀ n, CallOK P (fun g cs => .of (vcall E n g cs)) ∧ Enters P (fun g cs => .of (vcall E n g cs))
 | 0 => ⟨fun _ _ _ _ h => by simp [vcall,CallR.of_get] at h,fun _ _ _ h => by simp [vcall,CallR.of_get] at h⟩
 | n+1 => by
   obtain ⟨ih1,ih2⟩:=vcall_ok hE hF hop n
   refine ⟨fun f cells res fin hx G vals B S hr h => ?_,fun f cells r hx => ?_⟩
   · simp only [CallR.of_get] at hx
     simp only [vcall] at hx
     split at hx
     · rename_i g hg
       exact (hF.ext f g hg).2 cells res fin hx G vals B S hr h
     · split at hx
       · cases hx
       · rename_i fn hfn
         obtain ⟨hf1,_,_⟩:=hF.fns f fn hfn
         split at hx
         · cases hx
         · rename_i c hc
           have hsz:G.args.size=cells.length:=h.sz
           obtain ⟨S',hp⟩:=h.pad (fn.ntmps - cells.length) hr
           refine calls_of_wp hf1 hc ?_
           rw [hsz]
           have hx2:vexec E (fun g cs => .of (vcall E n g cs)) n f cells.length c (fun e st => if cells.length≤st.length then retK E f fn cells.length e st else none) (cells ++ List.replicate (fn.ntmps - cells.length) Cell.none)=some (res,fin):=hx
           refine vexec_ok hE (fun soft => hop _ ih1 ih2 G _ soft) c hx2 hp.rel fun e st' a' w' hk hrel => ?_
           split at hk
           · rename_i hle
             exact retK_ok hE hrel hle hk
           · cases hk
   · simp only [CallR.of_get] at hx
     simp only [vcall] at hx
     split at hx
     · rename_i g hg
       exact (hF.ext f g hg).1
     · split at hx
       · cases hx
       · rename_i fn hfn
         exact ⟨fn,hF.fns f fn hfn⟩
end
end GoV

/- Slices written out: leaves in the air become a row. -/
namespace GoV
open Go
section
variable {G:Ctx} {fl:List (L × Value)} {st st' s s' ex:St} {a:Act} {w w':World} {vals vals':VS} {B B':Nat→Nat} {F F':FS} {S:Nat→Nat→BS} {E:Env} {P:Program}

theorem Rl.merge (h : Rl G fl st a w vals B F S) {X : BS} {l : L} {u : Value} (hX : ∀ b, X b → (∃ k, S st.length k b) ∨ (b < w.heap.size ∧ ¬ G.U b ∧ (b < G.w0.heap.size → G.SA b) ∧ ∀ i k, ¬ S i k b))
 (hup:∀ b o,F b o→F' b o) (hto:∀ b o,F' b o→F b o∨(∃ k,S st.length k b)∨(b<w.heap.size∧¬ G.U b∧(b<G.w0.heap.size→G.SA b)∧∀ i k,¬ S i k b)) (hr:LRep F' w l u X) (hk:LinkOK st vals B w l u) :
 Rl G [(l,u)] st a w vals B F' (fun i k => if i=st.length then (if k=1 then X else fun _ => False) else S i k):=by
 have hgr:∀ i k,i<st.length→Grow F F' (S i k):=fun i k hi => ⟨hup,fun b o hb ho => by
  rcases hto b o ho with h1 | ⟨k',h1⟩ | ⟨_,_,_,h1⟩
  · exact h1
  · exact absurd hb (h.disj _ _ _ _ b (by simp; omega) h1)
  · exact absurd hb (h1 i k)⟩
 have key:∀ {i k y},(if i=st.length then (if k=1 then X else fun _ => False) else S i k:BS) y→(i=st.length∧k=1∧X y)∨(i≠st.length∧S i k y):=by
  intro i k y hy
  split at hy
  · split at hy
    · exact .inl ⟨by assumption,by assumption,hy⟩
    · exact hy.elim
  · exact .inr ⟨by assumption,hy⟩
 refine ⟨h.sz,h.df,fun i c hc => ?_,fun i c k l' u' hc hl hu => ?_,fun k l' u' hf => ?_,fun i k i' k' y hne hy hy' => ?_,fun i k y hy => ?_,fun b o hb => ?_,fun b o hb => ⟨hup _ _ (h.f0 b o hb).1,(h.f0 b o hb).2⟩,h.un,h.wo,h.pin⟩
 · have hi := get_lt hc
   rw [if_neg (by omega)]
   exact (h.cell i c hc).stable (.refl _ _ _) (hgr i 0 hi)
 · have hi := get_lt hc
   rw [if_neg (by omega)]
   obtain ⟨g1,g2⟩:=h.leaf i c k l' u' hc hl hu
   exact ⟨g1.stable (.refl _ _ _) (hgr i (k+1) hi),g2⟩
 · cases k with
   | zero =>
     simp only [List.getElem?_cons_zero,Option.some.injEq,Prod.mk.injEq] at hf
     obtain ⟨rfl,rfl⟩:=hf
     rw [if_pos rfl,if_pos rfl]
     exact ⟨hr,hk⟩
   | succ k => simp at hf
 · rcases key hy with ⟨rfl, rfl, h1⟩ | ⟨n1, h1⟩ <;> rcases key hy' with ⟨e1, e2, h2⟩ | ⟨n2, h2⟩
   · exact hne (by rw [e1,e2])
   · rcases hX y h1 with ⟨k2, h3⟩ | ⟨_, _, _, h3⟩
     · exact h.disj _ _ _ _ y (by simp; intro e; exact absurd e.symm n2) h3 h2
     · exact h3 _ _ h2
   · rcases hX y h2 with ⟨k2, h3⟩ | ⟨_, _, _, h3⟩
     · exact h.disj _ _ _ _ y (by simp; intro e; exact absurd e.symm n1) h3 h1
     · exact h3 _ _ h1
   · exact h.disj i k i' k' y hne h1 h2
 · rcases key hy with ⟨rfl, rfl, h1⟩ | ⟨n1, h1⟩
   · rcases hX y h1 with ⟨k2, h3⟩ | ⟨h3, h4, h5, _⟩
     · exact h.sub _ _ y h3
     · exact ⟨h3,h4,h5⟩
   · exact h.sub i k y h1
 · have fresh:∀ {b},b<w.heap.size→(b<G.w0.heap.size→G.SA b)→b<w.heap.size∧(G.F0 b o∨¬ b<G.w0.heap.size∨G.SA b):=by
    intro b h1 h2
    refine ⟨h1,.inr ?_⟩
    by_cases e:b<G.w0.heap.size
    · exact .inr (h2 e)
    · exact .inl e
   rcases hto b o hb with h1 | ⟨k,h1⟩ | ⟨h1,_,h3,_⟩
   · exact h.fz b o h1
   · obtain ⟨g1, _, g3⟩ := h.sub _ _ b h1
     exact fresh g1 g3
   · exact fresh h1 h3
theorem take_int {k:IntKind} {ls r:List L} {x:Int} (h:(Ty.int k).take ls=some (x,r)):∃ o,ls=.d o (.int k) x::r:=by
 cases ls with
 | nil => simp [Ty.take] at h
 | cons l r' =>
   cases l with
   | d o T y =>
     cases T with
     | int k' =>
       simp only [Ty.take] at h
       split at h
       · rename_i hk
         subst hk
         simp only [Option.some.injEq,Prod.mk.injEq] at h
         obtain ⟨rfl,rfl⟩:=h
         exact ⟨o,rfl⟩
       · cases h
     | _ => simp [Ty.take] at h
   | _ => simp [Ty.take] at h
theorem take_bool {ls r:List L} {x:Bool} (h:Ty.bool.take ls=some (x,r)):∃ o,ls=.d o .bool x::r:=by
 cases ls with
 | nil => simp [Ty.take] at h
 | cons l r' =>
   cases l with
   | d o T y =>
     cases T with
     | bool =>
       simp only [Ty.take,Option.some.injEq,Prod.mk.injEq] at h
       obtain ⟨rfl,rfl⟩:=h
       exact ⟨o,rfl⟩
     | _ => simp [Ty.take] at h
   | _ => simp [Ty.take] at h
theorem take_sl {t:Ty} {ls r:List L} {x:List t.C} (h:(Ty.sl t).take ls=some (x,r)):(∃ o,ls=.d o (.sl t) x::r)∨(ls=.nil t::r∧x=[]):=by
 cases ls with
 | nil => simp [Ty.take] at h
 | cons l r' =>
   cases l with
   | d o T y =>
     cases T with
     | sl t' =>
       simp only [Ty.take] at h
       split at h
       · rename_i hk
         subst hk
         simp only [Option.some.injEq,Prod.mk.injEq] at h
         obtain ⟨rfl,rfl⟩:=h
         exact .inl ⟨o,rfl⟩
       · cases h
     | _ => simp [Ty.take] at h
   | nil t' =>
     simp only [Ty.take] at h
     split at h
     · rename_i hk
       subst hk
       simp only [Option.some.injEq,Prod.mk.injEq] at h
       obtain ⟨rfl,rfl⟩:=h
       exact .inr ⟨rfl,rfl⟩
     · cases h
   | _ => simp [Ty.take] at h
theorem take_pair {p q:Ty} {ls r:List L} {x:p.C × q.C} (h:(Ty.pair p q).take ls=some (x,r)):∃ l1,p.take ls=some (x.1,l1)∧q.take l1=some (x.2,r):=by
 simp only [Ty.take] at h
 split at h
 · rename_i y l1 h1
   split at h
   · rename_i z l2 h2
     simp only [Option.some.injEq,Prod.mk.injEq] at h
     obtain ⟨rfl,rfl⟩:=h
     exact ⟨l1,h1,h2⟩
   · cases h
 · cases h
theorem take_drop:∀ {T:Ty} {ls r:List L} {x:T.C},T.take ls=some (x,r)→r=ls.drop T.size∧T.size≤ls.length:=by
 intro T
 induction T with
 | int k => intro ls r x h; obtain ⟨o,rfl⟩:=take_int h; simp [Ty.size]
 | bool => intro ls r x h; obtain ⟨o,rfl⟩:=take_bool h; simp [Ty.size]
 | sl t => intro ls r x h; rcases take_sl h with ⟨o,rfl⟩ | ⟨rfl,_⟩ <;> simp [Ty.size]
 | pair p q ihp ihq =>
   intro ls r x h
   obtain ⟨l1,h1,h2⟩:=take_pair h
   obtain ⟨rfl,g1⟩:=ihp h1
   obtain ⟨rfl,g2⟩:=ihq h2
   simp only [List.length_drop] at g2
   exact ⟨by simp [Ty.size],by simp only [Ty.size]; omega⟩
 | unit => intro ls r x h; simp [Ty.take] at h; simp [Ty.size,h]
theorem LRep.intVal {o:Fl} {k:IntKind} {x:Int} {v:Value} {S0:BS} (h:LRep F w (.d o (.int k) x) v S0):v=.int k x:=by
 cases o <;> first | exact h.elim | skip
 have h2:CRep F w (.d .fro (.int k) x) v:=h
 cases h2 with
 | d _ _ _ _ h3 => exact h3
theorem LRep.boolVal {o:Fl} {x:Bool} {v:Value} {S0:BS} (h:LRep F w (.d o .bool x) v S0):v=.bool x:=by
 cases o <;> first | exact h.elim | skip
 have h2:CRep F w (.d .fro .bool x) v:=h
 cases h2 with
 | d _ _ _ _ h3 => exact h3
theorem LRep.nilVal {t:Ty} {v:Value} {S0:BS} (h:LRep F w (.nil t) v S0):v=.slice none 0 0:=by
 have h2:CRep F w (.nil t) v:=h
 cases h2; rfl
theorem take_repD : ∀ {T : Ty} {ls r : List L} {x : T.C} {cs : Nat → Value} {Ss : Nat → BS}, T.take ls = some (x, r) → (T.flat = true ∨ ∀ l, l ∈ ls → l.isDeep = true) → (∀ (k : Nat) (l : L), ls[k]? = some l → LRep F w l (cs k) (Ss k)) →
 (∀ k k' b,k≠k'→Ss k b→¬ Ss k' b)→RepD w T x cs (fun b => ∃ k,k<T.size∧Ss k b):=by
 intro T
 induction T with
 | int k => intro ls r x cs Ss h hd hl hs; obtain ⟨o,rfl⟩:=take_int h; exact (hl 0 _ rfl).intVal
 | bool => intro ls r x cs Ss h hd hl hs; obtain ⟨o,rfl⟩:=take_bool h; exact (hl 0 _ rfl).boolVal
 | unit => intros; trivial
 | sl t =>
   intro ls r x cs Ss h hd hl hs
   rcases hd with hd | hd
   · cases hd
   rcases take_sl h with ⟨o,rfl⟩ | ⟨rfl,rfl⟩
   · have h1 := hd _ (List.mem_cons_self)
     have h2:=hl 0 _ rfl
     cases o with
     | deep => exact (h2.1.up fun y hy => ⟨0,by simp [Ty.size],hy⟩).congr fun i hi => by simp [Ty.size] at hi; simp [hi]
     | _ => simp [L.isDeep] at h1
   · exact ⟨none,0,(hl 0 _ rfl).nilVal,Nat.le_refl _,.inl ⟨rfl,rfl⟩⟩
 | pair p q ihp ihq =>
   intro ls r x cs Ss h hd hl hs
   obtain ⟨l1,h1,h2⟩:=take_pair h
   obtain ⟨rfl,g1⟩:=take_drop h1
   have hd1:p.flat=true∨∀ l,l∈ls→l.isDeep=true:=hd.imp (fun h => by simp only [Ty.flat,Bool.and_eq_true] at h; exact h.1) id
   have hd2:q.flat=true∨∀ l,l∈ls.drop p.size→l.isDeep=true:=hd.imp (fun h => by simp only [Ty.flat,Bool.and_eq_true] at h; exact h.2) fun h l hl => h l (List.mem_of_mem_drop hl)
   refine ⟨fun b => ∃ k, k < p.size ∧ Ss k b, fun b => ∃ k, k < q.size ∧ Ss (p.size + k) b, fun y ⟨k, k1, k2⟩ => ⟨k, by simp only [Ty.size]; omega, k2⟩, fun y ⟨k, k1, k2⟩ => ⟨p.size + k, by simp only [Ty.size]; omega, k2⟩,
    fun y ⟨k,k1,k2⟩ ⟨k',k3,k4⟩ => hs k (p.size+k') y (by omega) k2 k4,ihp h1 hd1 hl hs,ihq h2 hd2 (cs:=fun i => cs (p.size+i)) (Ss:=fun i => Ss (p.size+i)) (fun k l hk => hl _ l (by rw [List.getElem?_drop] at hk; exact hk)) fun k k' b hne => hs _ _ b (by omega)⟩
theorem take_repF:∀ {T:Ty} {ls r:List L} {x:T.C} {cs:Nat→Value} {Ss:Nat→BS},T.take ls=some (x,r)→(∀ b o,F b o→F' b o)→(∀ (k:Nat) (l:L),ls[k]?=some l→LRep F w l (cs k) (Ss k))→(∀ k b o,Ss k b→F' b o)→RepF F' w T x cs:=by
 intro T
 induction T with
 | int k => intro ls r x cs Ss h hF hl hS; obtain ⟨o,rfl⟩:=take_int h; exact (hl 0 _ rfl).intVal
 | bool => intro ls r x cs Ss h hF hl hS; obtain ⟨o,rfl⟩:=take_bool h; exact (hl 0 _ rfl).boolVal
 | unit => intros; trivial
 | sl t =>
   intro ls r x cs Ss h hF hl hS
   rcases take_sl h with ⟨o,rfl⟩ | ⟨rfl,rfl⟩
   · exact (LRep.toF hF (hS 0) (hl 0 _ rfl)).congr fun i hi => by simp [Ty.size] at hi; simp [hi]
   · exact ⟨none,0,(hl 0 _ rfl).nilVal,Nat.le_refl _,.inl rfl⟩
 | pair p q ihp ihq =>
   intro ls r x cs Ss h hF hl hS
   obtain ⟨l1,h1,h2⟩:=take_pair h
   obtain ⟨rfl,g1⟩:=take_drop h1
   exact ⟨ihp h1 hF hl hS,ihq h2 hF (cs:=fun i => cs (p.size+i)) (Ss:=fun i => Ss (p.size+i)) (fun k l hk => hl _ l (by rw [List.getElem?_drop] at hk; exact hk)) fun k => hS _⟩
theorem elemParts_ok : ∀ {ps : List (Nat × Operand)} {j : Nat} {e : TypeId} {es : List (List L)} {fl : List (L × Value)} {st st' : St} {S : Nat → Nat → BS}, Rl G fl st a w vals B F S → (elemParts E e j ps).exec st = some (es, st') →
 ∃ (S' : Nat → Nat → BS) (uss : List (List Value)), Rl G (fl ++ es.flatten.zip uss.flatten) st' a w vals B F S' ∧ es.length = ps.length ∧ uss.length = ps.length ∧ (∀ (i : Nat) (ls : List L) (us : List Value), es[i]? = some ls → uss[i]? = some us → ls.length = us.length) ∧ Ones uss.flatten ∧
   (ps.map fun p => (p.1,a.eval p.2))=((ps.map fun p => a.eval p.2).zipIdx j).map (fun x => (x.2,x.1))∧∀ (i:Nat) (p:Nat × Operand) (us:List Value),ps[i]?=some p→uss[i]?=some us→(a.eval p.2).cells=us.toArray
 | [],j,e,es,fl,st,st',S,h,hx => by
   unfold elemParts at hx
   obtain ⟨rfl,rfl⟩:=M.pure_some hx
   exact ⟨S,[],by simpa using h,rfl,rfl,by simp,by simp [Ones],by simp,by simp⟩
 | (i,x)::ps,j,e,es,fl,st,st',S,h,hx => by
   unfold elemParts at hx
   obtain ⟨_,s1,h1,hx⟩:=M.bind_some hx
   obtain ⟨hij,e1⟩:=M.must_some h1
   rw [e1] at hx
   obtain ⟨v,s2,h2,hx⟩:=M.bind_some hx
   obtain ⟨e2,us,k1,k2,k3⟩:=opnd_ok h h2
   rw [e2] at hx
   obtain ⟨_,s3,h3,hx⟩:=M.bind_some hx
   obtain ⟨htup,e3⟩:=M.must_some h3
   rw [e3] at hx
   obtain ⟨ls,s4,h4,hx⟩:=M.bind_some hx
   obtain ⟨S1,g1,g2,g3⟩:=mapL_ok (fun h ho hx => moveL_ok h ho hx) h k1 h4
   obtain ⟨rest,s5,h5,hx⟩:=M.bind_some hx
   obtain ⟨rfl,rfl⟩:=M.pure_some hx
   obtain ⟨S2,uss,m1,m2,m3,m4,m5,m6,m7⟩:=elemParts_ok g1 h5
   have hij':i=j:=by simpa using hij
   subst hij'
   refine ⟨S2,us::uss, ?_,by simp [m2],by simp [m3],fun q ls' us' hl hu => ?_,fun u hu => ?_, ?_,fun q p us' hp hu => ?_⟩
   · rw [List.flatten_cons, List.flatten_cons, List.zip_append g3, ← List.append_assoc]
     exact m1
   · cases q with
     | zero => simp at hl hu; subst hl; subst hu; exact g3
     | succ q => exact m4 q ls' us' (by simpa using hl) (by simpa using hu)
   · simp only [List.flatten_cons, List.mem_append] at hu
     exact hu.elim (k3 u) (m5 u)
   · simp only [List.map_cons, List.zipIdx_cons, List.map_cons]
     rw [m6]
   · cases q with
     | zero =>
       simp at hp hu
       subst hp; subst hu
       cases hsh:v.sh with
       | one =>
         rw [hsh] at k2
         simp only [VR] at k2
         subst k2
         have h1:=k3 _ (List.mem_singleton.2 rfl)
         simp only
         generalize a.eval x=y at h1
         cases y <;> first | rfl | cases h1
       | agg => rw [hsh] at k2; simp only [VR] at k2; simp only; rw [k2]; rfl
       | tup ns => rw [hsh] at htup; cases htup
       | clo f => rw [hsh] at htup; cases htup
     | succ q => exact m7 q p us' (by simpa using hp) (by simpa using hu)
def ownS (l:L) (S0:BS):BS:=match l with | .d .deep (.sl _) _ => S0 | _ => fun _ => False
theorem ownS_le {l:L} {S0:BS} {b:Nat} (h:ownS l S0 b):S0 b:=by
 unfold ownS at h
 split at h
 · exact h
 · exact h.elim
theorem LRep.own {l:L} {u:Value} {S0:BS} (h:LRep F w l u S0) (hq:l.isDeep=true):LRep F w l u (ownS l S0)∧NoF F (ownS l S0):=by
 cases l with
 | d o T x =>
   cases T with
   | sl t =>
     cases o with
     | deep => exact ⟨h,h.2⟩
     | _ => simp [L.isDeep] at hq
   | int k => cases o <;> first | exact h.elim | exact ⟨h,fun _ hb => hb.elim⟩
   | bool => cases o <;> first | exact h.elim | exact ⟨h,fun _ hb => hb.elim⟩
   | pair p q => cases o <;> first | exact h.elim | exact ⟨h,fun _ hb => hb.elim⟩
   | unit => cases o <;> first | exact h.elim | exact ⟨h,fun _ hb => hb.elim⟩
 | nil t => exact ⟨h,fun _ hb => hb.elim⟩
 | _ => simp [L.isDeep] at hq
theorem take_flat:∀ {T:Ty} {ls r:List L} {x:T.C},T.flat=true→T.take ls=some (x,r)→∀ (k:Nat) (l:L),k<T.size→ls[k]?=some l→l.isDeep=true:=by
 intro T
 induction T with
 | int k => intro ls r x _ h k' l hk hl; obtain ⟨o, rfl⟩ := take_int h; simp only [Ty.size] at hk; obtain rfl : k' = 0 := by omega
            simp at hl; subst hl; cases o <;> rfl
 | bool => intro ls r x _ h k' l hk hl; obtain ⟨o, rfl⟩ := take_bool h; simp only [Ty.size] at hk; obtain rfl : k' = 0 := by omega
           simp at hl; subst hl; cases o <;> rfl
 | sl t => intro ls r x hf; cases hf
 | unit => intro ls r x _ h k' l hk; simp [Ty.size] at hk
 | pair p q ihp ihq =>
   intro ls r x hf h k' l hk hl
   simp only [Ty.flat,Bool.and_eq_true] at hf
   obtain ⟨l1,h1,h2⟩:=take_pair h
   obtain ⟨rfl,g1⟩:=take_drop h1
   simp only [Ty.size] at hk
   by_cases e:k'<p.size
   · exact ihp hf.1 h1 k' l e hl
   · refine ihq hf.2 h2 (k' - p.size) l (by omega) ?_
     rw [List.getElem?_drop,show p.size+(k' - p.size)=k' by omega]
     exact hl
theorem takeAll_get {T : Ty} : ∀ {es : List (List L)} {xs : List T.C}, takeAll es = some xs → xs.length = es.length ∧ ∀ (j : Nat) (x : T.C) (ls : List L), xs[j]? = some x → es[j]? = some ls → T.take ls = some (x, [])
 | [],xs,h => by simp only [takeAll,Option.some.injEq] at h; subst h; simp
 | ls::es,xs,h => by
   simp only [takeAll] at h
   split at h
   · rename_i x hx
     split at h
     · rename_i ys hys
       obtain rfl:=Option.some.inj h
       obtain ⟨k1,k2⟩:=takeAll_get hys
       refine ⟨by simp [k1],fun j y l hy hl => ?_⟩
       cases j with
       | zero => simp at hy hl; subst hy; subst hl; exact hx
       | succ j => exact k2 j y l (by simpa using hy) (by simpa using hl)
     · cases h
   · cases h
theorem flat_at {α : Type} {n : Nat} : ∀ {ls : List (List α)} {j k : Nat} {l : List α}, (∀ l, l ∈ ls → l.length = n) → ls[j]? = some l → k < n → ls.flatten[j * n + k]? = l[k]?
 | [],j,k,l,_,hj,_ => by simp at hj
 | x::ls,0,k,l,h,hj,hk => by
   simp at hj
   subst hj
   rw [List.flatten_cons,Nat.zero_mul,Nat.zero_add,List.getElem?_append_left (by rw [h x (by simp)]; exact hk)]
 | x::ls,j+1,k,l,h,hj,hk => by
   have hx:=h x (by simp)
   have e:(j+1) * n=j * n+n:=Nat.succ_mul j n
   rw [List.flatten_cons,List.getElem?_append_right (by omega),hx,show (j+1) * n+k - n=j * n+k by omega]
   exact flat_at (fun l hl => h l (List.mem_cons_of_mem _ hl)) (by simpa using hj) hk
theorem flat_len {α : Type} {n : Nat} : ∀ {ls : List (List α)}, (∀ l, l ∈ ls → l.length = n) → ls.flatten.length = ls.length * n
 | [],_ => by simp
 | x::ls,h => by
   rw [List.flatten_cons,List.length_append,h x (by simp),flat_len (fun l hl => h l (List.mem_cons_of_mem _ hl)),List.length_cons,Nat.succ_mul]
   omega
theorem buildSlice_ok (hE : EnvOK P E) (h : Rl G [] st a w vals B F S) {o : Oper} {t : TypeId} {n : Nat} {ps : Array (Nat × Operand)} (ho : o.op = .buildSlice t n ps)
 (hx:(buildSliceOp E o.dst t n ps).exec st=some ((),st')):OpOK P o a w fun a' w' => Rel G [] st' a' w':=by
 unfold buildSliceOp at hx
 split at hx
 · rename_i e T n0 ag T0 zs0 hti
   obtain ⟨_,s1,h1,hx⟩:=M.bind_some hx
   obtain ⟨hps,e1⟩:=M.must_some h1
   rw [e1] at hx
   obtain ⟨_,s2,h2,hx⟩:=M.bind_some hx
   obtain ⟨hbig,e2⟩:=M.must_some h2
   rw [e2] at hx
   obtain ⟨es,s3,h3,hx⟩:=M.bind_some hx
   obtain ⟨xs,s4,h4,hx⟩:=M.bind_some hx
   obtain ⟨htake,e4⟩:=M.opt_some h4
   rw [e4] at hx
   obtain ⟨S1,uss,g1,g2,g3,g4,g5,g6,g7⟩:=elemParts_ok h h3
   simp only [List.nil_append] at g1
   obtain ⟨hu,ie,q,hie,hT,hok,hq,hqs⟩:=tk_slice hE hti
   obtain ⟨q',hq',hs1,hb0,hb1,z,hz,hzc,hz1,hzl,hzr,hzT⟩:=hok.info
   rw [hq] at hq'
   obtain rfl:=Option.some.inj hq'
   obtain ⟨hTs,hT0,hTz⟩:=hzT T hT
   have hn:ps.toList.length=n:=by simpa using hps
   have hbig:=of_decide_eq_true hbig
   obtain ⟨x1,x2⟩:=takeAll_get htake
   have hlsl:∀ l,l∈es→l.length=T.size:=by
    intro l hl
    obtain ⟨j,hj⟩:=List.mem_iff_getElem?.1 hl
    have hlt:=get_lt hj
    have:=take_drop (x2 j (xs[j]'(by omega)) l (by simp [show j<xs.length by omega]) hj)
    have h5:l.length≤T.size:=by
        have:=congrArg List.length this.1
        simp at this
        omega
    omega
   have husl:∀ us,us∈uss→us.length=T.size:=by
    intro us hus
    obtain ⟨j,hj⟩:=List.mem_iff_getElem?.1 hus
    have hlt:=get_lt hj
    have hej:es[j]?=some (es[j]'(by omega)):=by simp [show j<es.length by omega]
    rw [← g4 j _ us hej hj]
    exact hlsl _ (List.mem_of_getElem? hej)
   have hnoflat:uss.flatten.length=n * T.size:=by rw [flat_len husl,g3,hn]
   -- the machine
   have hcells:(Instr.buildSlice t n (ps.map fun (i,x) => (i,a.eval x))).run P w=.ok (.slice (some ⟨w.heap.size,0,none⟩) n n) (w.alloc (.cells uss.flatten.toArray e)):=by
    have hparts:(ps.map fun (i,x) => (i,a.eval x)).toList=((ps.toList.map fun p => a.eval p.2).zipIdx 0).map (fun x => (x.2,x.1)):=by
        rw [Array.toList_map]
        exact g6
    by_cases h0:n=0
    · subst h0
      have hps0:ps=#[]:=by
       apply Array.ext'
       simpa using List.eq_nil_of_length_eq_zero hn
      have hf0:uss.flatten=[]:=List.eq_nil_of_length_eq_zero (by rw [hnoflat]; simp)
      subst hps0
      have hr0:Array.map (fun _ => (default:Value)) (Array.range 0)=#[]:=by apply Array.ext' ; simp
      simp [Instr.buildSlice,underlying_run hu,sizeOf_run hq,Instr.fill,newRow,hf0,hr0]
    · refine run_buildSlice w t e n _ _ q z hu hq hz (by rw [hqs]; omega) (by rw [hqs]; intro hm; rcases Nat.mul_eq_zero.1 hm with h | h <;> omega) ?_
      rw [hparts,hqs]
      rw [Great.fill_whole (by omega) _ _ (fun v hv => ?_) (by simp [hn])]
      · congr 2
        have : ∀ (ps : List (Nat × Operand)) (uss : List (List Value)), uss.length = ps.length → (∀ (i : Nat) (p : Nat × Operand) (us : List Value), ps[i]? = some p → uss[i]? = some us → (a.eval p.2).cells = us.toArray) →
         (ps.map fun p => a.eval p.2).flatMap (fun v => v.cells.toList)=uss.flatten:=by
         intro ps
         induction ps with
         | nil => intro uss hl _; rw [List.eq_nil_of_length_eq_zero hl]; rfl
         | cons p ps ih =>
           intro uss hl hp
           cases uss with
           | nil => simp at hl
           | cons us uss =>
             simp only [List.map_cons,List.flatMap_cons,List.flatten_cons]
             rw [ih uss (by simpa using hl) fun i p' us' h1 h2 => hp (i+1) p' us' (by simpa using h1) (by simpa using h2),hp 0 p us rfl rfl]
        exact this ps.toList uss g3 g7
      · obtain ⟨p, hp, rfl⟩ := List.mem_map.1 hv
        obtain ⟨i,hi⟩:=List.mem_iff_getElem?.1 hp
        have hlt:=get_lt hi
        have hui:uss[i]?=some (uss[i]'(by omega)):=by simp [show i<uss.length by omega]
        rw [g7 i p _ hi hui]
        simpa using husl _ (List.mem_of_getElem? hui)
   refine op_value (w':=w.alloc (.cells uss.flatten.toArray e)) (v:=.slice (some ⟨w.heap.size,0,none⟩) n n) (by rw [execOp,ho]; simp [hcells]) ?_
   have hblk:=blk_alloc w uss.flatten.toArray e
   have h5:=g1.alloc (.cells uss.flatten.toArray e)
   have hfresh:=g1.fresh (.cells uss.flatten.toArray e)
   have hxn:xs.length=n:=by rw [x1,g2,hn]
   -- leaves,as they stand in the air
   have hleaf:∀ {j:Nat} {ls:List L} {us:List Value},es[j]?=some ls→uss[j]?=some us→∀ (k:Nat) (l:L),ls[k]?=some l→LRep F (w.alloc (.cells uss.flatten.toArray e)) l (cv (w.alloc (.cells uss.flatten.toArray e)) w.heap.size (0+j * T.size) k) (S1 s3.length (j * T.size+k+1)):=by
    intro j ls us hj hju k l hk
    have hkn:k<T.size:=by rw [← hlsl ls (List.mem_of_getElem? hj)]; exact get_lt hk
    have hus:=husl us (List.mem_of_getElem? hju)
    have hku:us[k]?=some (us[k]'(by omega)):=by simp [show k<us.length by omega]
    have hz1:es.flatten[j * T.size+k]?=some l:=by rw [flat_at hlsl hj hkn]; exact hk
    have hz2:uss.flatten[j * T.size+k]?=some (us[k]'(by omega)):=by rw [flat_at husl hju hkn]; exact hku
    have:=(h5.fleaf _ _ _ (zip_get hz1 hz2)).1
    have hcv:cv (w.alloc (.cells uss.flatten.toArray e)) w.heap.size (0+j * T.size) k=us[k]'(by omega):=by
        simp only [cv,Nat.zero_add]
        rw [cellAt_blk hblk]
        simp [hz2]
    rw [hcv]
    exact this
   have hdisj:∀ {j k j' k' b},(j,k)≠(j',k')→k<T.size→k'<T.size→S1 s3.length (j * T.size+k+1) b→¬ S1 s3.length (j' * T.size+k'+1) b:=by
    intro j k j' k' b hne hk hk' hb hb'
    refine g1.disj _ _ _ _ b (fun e => hne ?_) hb hb'
    simp only [Prod.mk.injEq,true_and] at e ⊢
    have e':j * T.size+k=j' * T.size+k':=by omega
    have h1:j=j':=by
        have h2:(j * T.size+k) / T.size=(j' * T.size+k') / T.size:=by rw [e']
        rwa [Nat.mul_comm j,Nat.mul_comm j',Nat.mul_add_div hT0,Nat.mul_add_div hT0,Nat.div_eq_of_lt hk,Nat.div_eq_of_lt hk',Nat.add_zero,Nat.add_zero] at h2
    subst h1
    exact ⟨rfl,by omega⟩
   have hgets:∀ {j:Nat} {x:T.C},xs[j]?=some x→∃ ls us,es[j]?=some ls∧uss[j]?=some us∧T.take ls=some (x,[]):=by
    intro j x hj
    have hlt:=get_lt hj
    have hej:es[j]?=some (es[j]'(by omega)):=by simp [show j<es.length by omega]
    exact ⟨es[j]'(by omega),uss[j]'(by omega),hej,by simp [show j<uss.length by omega],x2 j x _ hj hej⟩
   have hfl1:∀ k b,S1 s3.length k b→b≠w.heap.size:=by
    rintro k b hb rfl
    exact (hfresh _ rfl).2.2.2 _ _ hb
   unfold litFl at hx
   by_cases hdeep:(T.flat || es.all fun ls => ls.all L.isDeep)=true
   · rw [if_pos hdeep] at hx
     have hdeep':∀ {j:Nat} {ls:List L} {k:Nat} {l:L},es[j]?=some ls→ls[k]?=some l→l.isDeep=true:=by
        intro j ls k l hj hk
        simp only [Bool.or_eq_true,List.all_eq_true] at hdeep
        rcases hdeep with hf | hd
        · have hlt := get_lt hj
          exact take_flat hf (x2 j (xs[j]'(by omega)) ls (by simp [show j<xs.length by omega]) hj) k l (by rw [← hlsl ls (List.mem_of_getElem? hj)]; exact get_lt hk) hk
        · exact hd ls (List.mem_of_getElem? hj) l (List.mem_of_getElem? hk)
     generalize hSs:(fun (j k:Nat) (b:Nat) => ∃ ls l,es[j]?=some ls∧ls[k]?=some l∧ownS l (S1 s3.length (j * T.size+k+1)) b:Nat→Nat→BS)=Ss
     have hSs1:∀ {j k b},Ss j k b→k<T.size∧S1 s3.length (j * T.size+k+1) b:=by
        intro j k b hb
        rw [← hSs] at hb
        obtain ⟨ls,l,h1,h2,h3⟩:=hb
        exact ⟨by rw [← hlsl ls (List.mem_of_getElem? h1)]; exact get_lt h2,ownS_le h3⟩
     have hSs2:∀ {j k:Nat} {ls:List L} {l:L},es[j]?=some ls→ls[k]?=some l→Ss j k=ownS l (S1 s3.length (j * T.size+k+1)):=by
        intro j k ls l h1 h2
        rw [← hSs]
        funext b
        refine propext ⟨fun ⟨ls',l',h3,h4,h5⟩ => ?_,fun h => ⟨ls,l,h1,h2,h⟩⟩
        rw [h1] at h3
        obtain rfl:=Option.some.inj h3
        rw [h2] at h4
        obtain rfl:=Option.some.inj h4
        exact h5
     have hm := h5.merge (F' := F) (X := fun b => b = w.heap.size ∨ ∃ j k, Ss j k b) (l := .d .deep (.sl T) xs) (u := .slice (some ⟨w.heap.size, 0, none⟩) n n)
        (fun b hb => hb.elim (fun e => .inr (hfresh b e)) fun ⟨j,k,hb⟩ => .inl ⟨_,(hSs1 hb).2⟩) (fun _ _ h => h) (fun _ _ h => .inl h) ⟨?_, ?_⟩ trivial
     · exact dstV_ok (sh:=.one) (ls:=[_]) (us:=[_]) hm rfl rfl (by simp [Ones,Value.oneCell']) hx
     · refine ⟨some ⟨w.heap.size, 0, none⟩, n, by rw [hxn], by omega, .inr ⟨w.heap.size, 0, _, rfl, .inl rfl, hblk, by simp [hnoflat], fun j b => ∃ k, Ss j k b,
         fun j y ⟨k,hy⟩ => ⟨.inr ⟨j,k,hy⟩,hfl1 _ y (hSs1 hy).2⟩,fun j j' y hne ⟨k,hy⟩ ⟨k',hy'⟩ => hdisj (by simp; omega) (hSs1 hy).1 (hSs1 hy').1 (hSs1 hy).2 (hSs1 hy').2,fun j x hj => ?_⟩⟩
       obtain ⟨ls,us,k1,k2,k3⟩:=hgets hj
       refine (take_repD (F:=F) (Ss:=Ss j) k3 (.inr fun l hl => ?_) (fun k l hk => ?_) (fun k k' b hne hb hb' => hdisj (by simp; exact hne) (hSs1 hb).1 (hSs1 hb').1 (hSs1 hb).2 (hSs1 hb').2)).up fun y ⟨k,_,hy⟩ => ⟨k,hy⟩
       · obtain ⟨k, hk⟩ := List.mem_iff_getElem?.1 hl
         exact hdeep' k1 hk
       · rw [hSs2 k1 hk]
         exact ((hleaf k1 k2 k l hk).own (hdeep' k1 hk)).1
     · rintro b (rfl | ⟨j, k, hb⟩) i hi
       · exact h.noF _ rfl i (by exact hi)
       · have hb0 := hb
         rw [← hSs] at hb0
         obtain ⟨ls,l,h1,h2,h3⟩:=hb0
         have hlt:=get_lt h1
         have huj:uss[j]?=some (uss[j]'(by omega)):=by simp [show j<uss.length by omega]
         exact ((hleaf h1 huj k l h2).own (hdeep' h1 h2)).2 b h3 i hi
   · rw [if_neg hdeep] at hx
     have hm := h5.merge (F' := fun b o => F b o ∨ ∃ k, S1 s3.length k b) (X := fun b => b = w.heap.size) (l := .d .sha (.sl T) xs) (u := .slice (some ⟨w.heap.size, 0, none⟩) n n)
        (fun b hb => .inr (hfresh b hb)) (fun _ _ h => .inl h) (fun b o hb => hb.elim .inl fun hb => .inr (.inl hb)) ⟨?_, ?_⟩ trivial
     · exact dstV_ok (sh:=.one) (ls:=[_]) (us:=[_]) hm rfl rfl (by simp [Ones,Value.oneCell']) hx
     · refine ⟨some ⟨w.heap.size, 0, none⟩, n, by rw [hxn], by omega, .inr ⟨w.heap.size, 0, _, rfl, rfl, hblk, by simp [hnoflat], fun j x hj => ?_⟩⟩
       obtain ⟨ls,us,k1,k2,k3⟩:=hgets hj
       exact take_repF k3 (fun _ _ h => .inl h) (hleaf k1 k2) fun k b o hb => .inr ⟨_,hb⟩
     · rintro b rfl i (hi | ⟨k, hk⟩)
       · exact h.noF _ rfl i hi
       · exact hfl1 _ _ hk rfl
 · exact (M.fail_some hx).elim
end
end GoV

/- Stores into elements, whole. -/
namespace GoV
open Go
section
variable {G:Ctx} {fl:List (L × Value)} {st st' s s' ex:St} {a:Act} {w w':World} {vals vals':VS} {B B':Nat→Nat} {F F':FS} {S:Nat→Nat→BS} {E:Env} {P:Program}

def updN (cs:Nat→Value) (o:Nat) (us:List Value):Nat→Value:=fun i => if o≤i∧i<o+us.length then us.getD (i - o) undef else cs i
theorem updN_cons (cs:Nat→Value) (o:Nat) (u:Value) (us:List Value):updN (upd cs o u) (o+1) us=updN cs o (u::us):=by
 funext i
 simp only [updN,upd,List.length_cons]
 by_cases h1:o+1≤i∧i<o+1+us.length
 · rw [if_pos h1,if_pos (by omega),show i - o=(i - (o+1))+1 by omega,List.getD_cons_succ]
 · rw [if_neg h1]
   by_cases h2:i=o
   · subst h2
     rw [if_pos rfl,if_pos (by omega)]
     simp
   · rw [if_neg h2,if_neg (by omega)]
theorem RepF.setLs : ∀ {vs : List L} {us : List Value} {T : Ty} {e e' : T.C} {cs : Nat → Value} {o : Nat}, RepF F w T e cs → T.setLs e o vs = some e' → vs.length = us.length → (∀ (k : Nat) (l : L) (u : Value), vs[k]? = some l → us[k]? = some u → CRep F w (froL l) u) →
 RepF F w T e' (updN cs o us)
 | [],us,T,e,e',cs,o,h,hx,hl,_ => by
   have:us=[]:=List.eq_nil_of_length_eq_zero (by simpa using hl.symm)
   subst this
   simp only [Ty.setLs,Option.some.injEq] at hx
   subst hx
   have:updN cs o []=cs:=by funext i; simp only [updN,List.length_nil]; rw [if_neg (by omega)]
   rw [this]
   exact h
 | v::vs,us,T,e,e',cs,o,h,hx,hl,hc => by
   cases us with
   | nil => simp at hl
   | cons u us =>
     simp only [Ty.setLs] at hx
     split at hx
     · rename_i y hy
       have h1:=h.setL hy (hc 0 v u rfl rfl)
       have:=RepF.setLs h1 hx (by simpa using hl) fun k l u' hl' hu' => hc (k+1) l u' (by simpa using hl') (by simpa using hu')
       rwa [updN_cons] at this
     · cases hx
theorem RepD.setLs : ∀ {vs : List L} {us : List Value} {T : Ty} {e e' : T.C} {cs : Nat → Value} {o : Nat} {S0 : BS} {Xs : Nat → BS}, RepD w T e cs S0 → T.setLs e o vs = some e' → vs.length = us.length →
 (∀ (k:Nat) (l:L) (u:Value),vs[k]?=some l→us[k]?=some u→(match l with | .d _ (.sl t) x => RepD w (.sl t) x (fun _ => u) (Xs k) | .d _ (.int k) x => u=.int k x | .d _ .bool x => u=.bool x | .nil _ => u=.slice none 0 0 | _ => False)) →
 (∀ k b,S0 b→¬ Xs k b)→(∀ k k' b,k≠k'→Xs k b→¬ Xs k' b)→RepD w T e' (updN cs o us) (fun b => S0 b∨∃ k,Xs k b)
 | [],us,T,e,e',cs,o,S0,Xs,h,hx,hl,_,_,_ => by
   have:us=[]:=List.eq_nil_of_length_eq_zero (by simpa using hl.symm)
   subst this
   simp only [Ty.setLs,Option.some.injEq] at hx
   subst hx
   have:updN cs o []=cs:=by funext i; simp only [updN,List.length_nil]; rw [if_neg (by omega)]
   rw [this]
   exact h.up fun y hy => .inl hy
 | v::vs,us,T,e,e',cs,o,S0,Xs,h,hx,hl,hc,hd,hdd => by
   cases us with
   | nil => simp at hl
   | cons u us =>
     simp only [Ty.setLs] at hx
     split at hx
     · rename_i y hy
       have h1:=h.setL (X:=Xs 0) hy (hd 0) (hc 0 v u rfl rfl)
       have := RepD.setLs (Xs := fun k => Xs (k + 1)) h1 hx (by simpa using hl) (fun k l u' hl' hu' => hc (k + 1) l u' (by simpa using hl') (by simpa using hu'))
        (fun k b hb => hb.elim (hd (k+1) b) (hdd 0 (k+1) b (by omega))) (fun k k' b hne => hdd _ _ b (by omega))
       rw [updN_cons] at this
       exact this.up fun b hb => hb.elim (fun hb => hb.elim .inl fun hb => .inr ⟨0,hb⟩) fun ⟨k,hb⟩ => .inr ⟨k+1,hb⟩
     · cases hx
theorem setL_flat:∀ {T:Ty} {e e':T.C} {i:Nat} {l:L},T.flat=true→T.setL e i l=some e'→l.isDeep=true:=by
 intro T
 induction T with
 | int k =>
   intro e e' i l _ h
   cases i with
   | succ i => cases l <;> simp [Ty.setL] at h
   | zero =>
     cases l with
     | d o T x => cases T <;> first | (cases o <;> rfl) | (simp [Ty.setL] at h)
     | nil t => rfl
     | _ => simp [Ty.setL] at h
 | bool =>
   intro e e' i l _ h
   cases i with
   | succ i => cases l <;> simp [Ty.setL] at h
   | zero =>
     cases l with
     | d o T x => cases T <;> first | (cases o <;> rfl) | (simp [Ty.setL] at h)
     | nil t => rfl
     | _ => simp [Ty.setL] at h
 | sl t => intro e e' i l hf; cases hf
 | pair p q ihp ihq =>
   intro e e' i l hf h
   simp only [Ty.flat,Bool.and_eq_true] at hf
   simp only [Ty.setL] at h
   split at h
   · split at h
     · rename_i y hy; exact ihp hf.1 hy
     · cases h
   · split at h
     · rename_i y hy; exact ihq hf.2 hy
     · cases h
 | unit => intro e e' i l _ h; cases i <;> cases l <;> simp [Ty.setL] at h
theorem setLs_flat : ∀ {vs : List L} {T : Ty} {e e' : T.C} {o : Nat}, T.flat = true → T.setLs e o vs = some e' → ∀ l, l ∈ vs → l.isDeep = true
 | [],T,e,e',o,_,_,l,hl => by simp at hl
 | v::vs,T,e,e',o,hf,hx,l,hl => by
   simp only [Ty.setLs] at hx
   split at hx
   · rename_i y hy
     rcases List.mem_cons.1 hl with rfl | hl
     · exact setL_flat hf hy
     · exact setLs_flat hf hx l hl
   · cases hx
theorem setL_other:∀ {T:Ty} {e e':T.C} {i:Nat} {l:L},T.setL e i l=some e'→hasSl [l]=false→∀ (fl:Fl) (i':Nat) (t1:Ty) (y:List t1.C) (o1:Fl),T.getL fl e i'=some (.d o1 (.sl t1) y)→i'≠i∧T.getL fl e' i'=some (.d o1 (.sl t1) y):=by
 intro T
 induction T with
 | int k => intro e e' i l _ _ fl i' t1 y o1 h; cases i' <;> simp [Ty.getL] at h
 | bool => intro e e' i l _ _ fl i' t1 y o1 h; cases i' <;> simp [Ty.getL] at h
 | unit => intro e e' i l _ _ fl i' t1 y o1 h; cases i' <;> simp [Ty.getL] at h
 | sl t =>
   intro e e' i l hs hh fl i' t1 y o1 h
   exfalso
   cases i with
   | succ i => cases l <;> simp [Ty.setL] at hs
   | zero =>
     cases l with
     | d o T x => cases T <;> first | simp [Ty.setL] at hs; done | simp [hasSl] at hh
     | nil t' => simp [hasSl] at hh
     | _ => simp [Ty.setL] at hs
 | pair p q ihp ihq =>
   intro e e' i l hs hh fl i' t1 y o1 h
   simp only [Ty.setL] at hs
   simp only [Ty.getL] at h ⊢
   split at hs
   · rename_i hi
     split at hs
     · rename_i z hz
       obtain rfl:=Option.some.inj hs
       split at h
       · rename_i hi'
         rw [if_pos hi']
         exact ihp hz hh fl i' t1 y o1 h
       · rename_i hi'
         rw [if_neg hi']
         exact ⟨by omega,h⟩
     · cases hs
   · rename_i hi
     split at hs
     · rename_i z hz
       obtain rfl:=Option.some.inj hs
       split at h
       · rename_i hi'
         rw [if_pos hi']
         exact ⟨by omega,h⟩
       · rename_i hi'
         rw [if_neg hi']
         obtain ⟨g1,g2⟩:=ihq hz hh fl (i' - p.size) t1 y o1 h
         exact ⟨by omega,g2⟩
     · cases hs
theorem hasSl_cons {l:L} {ls:List L} (h:hasSl (l::ls)=false):hasSl [l]=false∧hasSl ls=false:=by
 cases l with
 | d o T x => cases T <;> simp [hasSl] at h ⊢ <;> exact h
 | nil t => simp [hasSl] at h
 | _ => simp [hasSl] at h ⊢; exact h
theorem setLs_other : ∀ {vs : List L} {T : Ty} {e e' : T.C} {o : Nat}, T.setLs e o vs = some e' → hasSl vs = false → ∀ (fl : Fl) (i' : Nat) (t1 : Ty) (y : List t1.C) (o1 : Fl), T.getL fl e i' = some (.d o1 (.sl t1) y) →
 ¬ (o≤i'∧i'<o+vs.length)∧T.getL fl e' i'=some (.d o1 (.sl t1) y)
 | [],T,e,e',o,hx,_,fl,i',t1,y,o1,h => by
   simp only [Ty.setLs,Option.some.injEq] at hx
   subst hx
   exact ⟨by simp,h⟩
 | v::vs,T,e,e',o,hx,hh,fl,i',t1,y,o1,h => by
   simp only [Ty.setLs] at hx
   split at hx
   · rename_i z hz
     obtain ⟨h1,h2⟩:=hasSl_cons hh
     obtain ⟨g1,g2⟩:=setL_other hz h1 fl i' t1 y o1 h
     obtain ⟨k1,k2⟩:=setLs_other hx h2 fl i' t1 y o1 g2
     exact ⟨by simp only [List.length_cons]; omega,k2⟩
   · cases hx
theorem Rl.absorb (h : Rl G fl st a w vals B F S) {r k : Nat} {c : Cell} {o o' : Fl} {t : Ty} {x x' : List t.C} {hv : Value} {b off C bw : Nat} {X : BS} {e : Nat} (hc : st[r]? = some c) (hl : RowL c.ls[k]? o t x) (hu : (vals r)[k]? = some hv)
 (hhv:hv=.slice (some ⟨b,off,none⟩) x.length C) (hbox:∀ z,c.ck=.box z→z=false) (hlen:x'.length=x.length) (hb:S r (k+1) bw) (hw:OnlyAt w w' bw) (hFb:∀ i,¬ F bw i)
 (hlink:SubLe e t x x'∧(∀ (j i:Nat) (e0:t.C) (fl:Fl) (o1:Fl) (t1:Ty) (y:List t1.C),e.testBit (colE i)=false→x[j]?=some e0→t.getL fl e0 i=some (.d o1 (.sl t1) y)→cv w' b (off+j * t.size) i=cv w b (off+j * t.size) i))
 (hX:∀ y,X y→S r (k+1) y∨∃ k',S st.length k' y) (hup:∀ y i,F y i→F' y i) (hto:∀ y i,F' y i→F y i∨S r (k+1) y∨∃ k',S st.length k' y) (hrep:LRep F' w' (.d o' (.sl t) x') hv X) :
 Rl G [] (st.set r (c.setL k (.d o' (.sl t) x') false e)) a w' vals B F' (fun i q => if i=st.length then fun _ => False else if i=r∧q=k+1 then X else S i q):=by
 have hlt:=get_lt hc
 obtain ⟨l00,hl00⟩:=hl.some
 have hlf:LeafLe false e (some l00) (some (.d o' (.sl t) x')):=.inr (.inr (.inr (.inr ⟨o,o',t,x,x',hl00 ▸ hl,.inl rfl,hlen,hlink.1⟩)))
 have hcl:CellLe c (c.setL k (.d o' (.sl t) x') false e):=.leaf hl00 hlf
 have hlen2:(st.set r (c.setL k (.d o' (.sl t) x') false e)).length=st.length:=by simp
 have hFw:∀ y q u,F y q→cellAt w y q=some u→cellAt w' y q=some u:=fun y q u hF hq => by
  rw [cellAt_of_heap (hw.heap y fun e => hFb q (e ▸ hF))]; exact hq
 have hS:∀ i q y,(i,q)≠(r,k+1)→S i q y→w'.heap[y]?=w.heap[y]?:=fun i q y hne hy => hw.heap y fun e => h.disj _ _ _ _ bw hne (e ▸ hy) hb
 have hgr:∀ i q,i<st.length→(i,q)≠(r,k+1)→Grow F F' (S i q):=fun i q hi hne => ⟨hup,fun y j hy hj => by
  rcases hto y j hj with h1 | h1 | ⟨k',h1⟩
  · exact h1
  · exact absurd h1 (h.disj _ _ _ _ y hne hy)
  · exact absurd h1 (h.disj _ _ _ _ y (by simp; omega) hy)⟩
 have link:∀ {l u},LinkOK st vals B w l u→LinkOK (st.set r (c.setL k (.d o' (.sl t) x') false e)) vals B w' l u:=by
  have hcr:(st.set r (c.setL k (.d o' (.sl t) x') false e))[r]?=some (c.setL k (.d o' (.sl t) x') false e):=by rw [get_set hlt]; simp
  have head:∀ {p:Pl} {t2 n hv2},PlHd st vals w p t2 n hv2→Gone (st.set r (c.setL k (.d o' (.sl t) x') false e)) p∨PlHd (st.set r (c.setL k (.d o' (.sl t) x') false e)) vals w' p t2 n hv2:=by
   intro p t2 n hv2 hp
   -- first the memory,then the slot
   have hmem:(∃ s,p.sub=some s∧e.testBit (colE s.2)=true∧p.r=r∧p.k=k)∨PlHd st vals w' p t2 n hv2:=by
        obtain ⟨c2,o2,t0,x0,h0,g1,g2,g3,g4⟩:=hp
        obtain ⟨pr,pk,ps⟩:=p
        cases ps with
        | none => exact .inr ⟨c2,o2,t0,x0,h0,g1,g2,g3,g4⟩
        | some q =>
          obtain ⟨j,i⟩:=q
          obtain ⟨e0,o3,y,b2,off2,C2,m1,m2,m3,rfl,rfl⟩:=g4
          by_cases hrk:pr=r∧pk=k
          · obtain ⟨rfl, rfl⟩ := hrk
            cases hcol:e.testBit (colE i) with
            | true => exact .inl ⟨_,rfl,hcol,rfl,rfl⟩
            | false =>
              have hcv:=hlink.2
              simp only at g1 g2 g3
              rw [hc] at g1
              obtain rfl:=Option.some.inj g1
              obtain ⟨rfl,rfl,hxg2⟩:=hl.inj g2
              obtain rfl:=eq_of_heq hxg2
              rw [hu,hhv] at g3
              simp only [Option.some.injEq,Value.slice.injEq,Addr.mk.injEq] at g3
              obtain ⟨⟨rfl,rfl,_⟩,_,rfl⟩:=g3
              exact .inr ⟨c,o,t,x,_,hc,hl,by rw [hu,hhv],e0,o3,y,b,off,C,m1,m2,m3,rfl,(hcv j i e0 _ _ _ _ hcol m1 m2).symm⟩
          · refine .inr ⟨c2, o2, t0, x0, _, g1, g2, g3, e0, o3, y, b2, off2, C2, m1, m2, m3, rfl, ?_⟩
            obtain ⟨h1,u,h2⟩:=h.row_cell (r:=pr) (k:=pk) g1 g2 g3 m1 (getL_lt m2)
            simp only [cv,h2]
            rcases h1 with h1 | h1
            · rw [cellAt_of_heap (hS _ _ _ (by simp; intro e1 e2; exact hrk ⟨e1,e2⟩) h1),h2]
            · rw [hFw _ _ _ h1 h2]
   rcases hmem with ⟨s,h3,he,h1,h2⟩ | hp'
   · refine .inl ⟨_, by rw [h1]; exact hcr, .inr (.inr (.inr ⟨s, h3, ?_⟩))⟩
     simp only [Cell.setL]
     rw [esAt_col]
     simp [he,h2]
   · exact hp'.set hc hcl
  intro l u hk
  cases l with
  | lent p rg =>
    rcases hk with hk | ⟨t2,n,hv2,hk,hu2⟩
    · exact .inl (hk.set hc hcl)
    · exact (head hk).imp id fun hk => ⟨t2,n,hv2,hk,hu2⟩
  | eptr p j i =>
    rcases hk with hk | ⟨t2,n,b2,off2,C2,hk,hu2⟩
    · exact .inl (hk.set hc hcl)
    · exact (head hk).imp id fun hk => ⟨t2,n,b2,off2,C2,hk,hu2⟩
  | ptr q i => exact LinkOK.set (w:=w') hc hcl (show LinkOK st vals B w' (.ptr q i) u from hk)
  | _ => trivial
 have key:∀ {i q y},(if i=st.length then (fun _ => False:BS) else if i=r∧q=k+1 then X else S i q) y→(i=r∧q=k+1∧(S r (k+1) y∨∃ k',S st.length k' y))∨(i≠st.length∧¬ (i=r∧q=k+1)∧S i q y):=by
  intro i q y hy
  split at hy
  · exact hy.elim
  · split at hy
    · rename_i _ h2; exact .inl ⟨h2.1,h2.2,hX y hy⟩
    · exact .inr ⟨by assumption,by assumption,hy⟩
 refine ⟨by rw [hlen2]; exact h.sz, h.df, fun i q hq => ?_, fun i q k' l u hq hl' hu' => ?_, fun k' l u hf => by simp at hf, fun i q i' q' y hne hy hy' => ?_, fun i q y hy => ?_, fun y i hy => ?_, fun y i hy => ⟨hup _ _ (h.f0 y i hy).1, fun v hv => hFw _ _ _ (h.f0 y i hy).1 ((h.f0 y i hy).2 v hv)⟩, fun y hy => ⟨(h.un y hy).1, ?_⟩,
  ⟨hw.os.trans h.wo.1,hw.tape.trans h.wo.2.1,hw.out.trans h.wo.2.2.1,by rw [hw.size]; exact h.wo.2.2.2⟩,fun i q hq hp => ?_⟩
 · rw [get_set hlt] at hq
   have hi:i<st.length:=by
    split at hq
    · omega
    · exact get_lt hq
   rw [if_neg (by omega),if_neg (by omega)]
   split at hq
   · rename_i e1; subst e1
     obtain rfl:=Option.some.inj hq
     refine CellOK.ls (c:=c) rfl (by simp [Cell.setL]) (by intro e2; rw [e2] at hl00; simp at hl00) hbox ?_
     exact (h.cell r c hc).stable ⟨hFw,fun y hy => hS r 0 y (by simp) hy⟩ (hgr r 0 hi (by simp))
   · exact (h.cell i q hq).stable ⟨hFw,fun y hy => hS i 0 y (by simp) hy⟩ (hgr i 0 hi (by simp))
 · rw [get_set hlt] at hq
   split at hq
   · rename_i e1; subst e1
     obtain rfl:=Option.some.inj hq
     rw [if_neg (by omega)]
     simp only [Cell.setL] at hl'
     rw [get_set (get_lt hl00)] at hl'
     split at hl'
     · rename_i e2; subst e2
       obtain rfl:=Option.some.inj hl'
       rw [hu] at hu'
       obtain rfl:=Option.some.inj hu'
       rw [if_pos ⟨rfl,rfl⟩]
       exact ⟨hrep,trivial⟩
     · rename_i e2
       rw [if_neg (by omega)]
       obtain ⟨g1,g2⟩:=h.leaf r c k' l u hc hl' hu'
       exact ⟨g1.stable ⟨hFw,fun y hy => hS r (k'+1) y (by simp; omega) hy⟩ (hgr r (k'+1) hlt (by simp; omega)),link g2⟩
   · rename_i e1
     have hi:=get_lt hq
     rw [if_neg (by omega),if_neg (by omega)]
     obtain ⟨g1,g2⟩:=h.leaf i q k' l u hq hl' hu'
     exact ⟨g1.stable ⟨hFw,fun y hy => hS i (k'+1) y (by simp; omega) hy⟩ (hgr i (k'+1) hi (by simp; omega)),link g2⟩
 · rcases key hy with ⟨rfl, rfl, h1⟩ | ⟨n1, n2, h1⟩ <;> rcases key hy' with ⟨e1, e2, h2⟩ | ⟨m1, m2, h2⟩
   · exact hne (by rw [e1,e2])
   · rcases h1 with h1 | ⟨k', h1⟩
     · exact h.disj _ _ _ _ y (by simp; intro e1 e2; exact m2 ⟨e1.symm,e2.symm⟩) h1 h2
     · exact h.disj _ _ _ _ y (by simp; intro e1; exact absurd e1.symm m1) h1 h2
   · rcases h2 with h2 | ⟨k', h2⟩
     · exact h.disj _ _ _ _ y (by simp; intro e1 e2; exact n2 ⟨e1,e2⟩) h1 h2
     · exact h.disj _ _ _ _ y (by simp; intro e1; exact absurd e1 n1) h1 h2
   · exact h.disj i q i' q' y hne h1 h2
 · rw [hw.size]
   rcases key hy with ⟨rfl,rfl,h1 | ⟨k',h1⟩⟩ | ⟨n1,n2,h1⟩
   · exact h.sub _ _ y h1
   · exact h.sub _ _ y h1
   · exact h.sub i q y h1
 · rw [hw.size]
   have own:∀ {i1 q1},S i1 q1 y→y<w.heap.size∧(G.F0 y i∨¬ y<G.w0.heap.size∨G.SA y):=by
    intro i1 q1 h1
    obtain ⟨g1,_,g3⟩:=h.sub _ _ y h1
    refine ⟨g1,.inr ?_⟩
    by_cases e1:y<G.w0.heap.size
    · exact .inr (g3 e1)
    · exact .inl e1
   rcases hto y i hy with h1 | h1 | ⟨k',h1⟩
   · exact h.fz y i h1
   · exact own h1
   · exact own h1
 · refine (hw.heap y fun e1 => ?_).trans (h.un y hy).2
   subst e1
   exact (h.sub r (k+1) _ hb).2.1 hy
 · rw [get_set hlt] at hq
   split at hq
   · rename_i e1; subst e1
     obtain rfl:=Option.some.inj hq
     exact h.pin r c hc hp
   · exact h.pin i q hq hp
end
end GoV

/- Stores into elements: the operation. -/
namespace GoV
open Go
section
variable {G:Ctx} {fl:List (L × Value)} {st st' s s' ex:St} {a:Act} {w w':World} {vals vals':VS} {B B':Nat→Nat} {F F':FS} {S:Nat→Nat→BS} {E:Env} {P:Program}

theorem setLs_kind : ∀ {vs : List L} {T : Ty} {e e' : T.C} {o : Nat}, T.setLs e o vs = some e' → ∀ l, l ∈ vs → frzL l = some (froL l)
 | [],T,e,e',o,_,l,hl => by simp at hl
 | v::vs,T,e,e',o,hx,l,hl => by
   simp only [Ty.setLs] at hx
   split at hx
   · rename_i y hy
     rcases List.mem_cons.1 hl with rfl | hl
     · have key:∀ {T:Ty} {e y:T.C} {o:Nat},T.setL e o l=some y→frzL l=some (froL l):=by
        intro T
        induction T with
        | pair p q ihp ihq =>
          intro e y o h
          simp only [Ty.setL] at h
          split at h
          · split at h
            · rename_i z hz; exact ihp hz
            · cases h
          · split at h
            · rename_i z hz; exact ihq hz
            · cases h
        | _ => intro e y o h; cases o <;> cases l <;> first | rfl | simp [Ty.setL] at h
       exact key hy
     · exact setLs_kind hx l hl
   · cases hx
theorem LRep.leafD {l : L} {u : Value} {S0 : BS} : LRep F w l u S0 → l.isDeep = true →
 (match l with | .d _ (.sl t) x => RepD w (.sl t) x (fun _ => u) (ownS l S0) | .d _ (.int k) x => u=.int k x | .d _ .bool x => u=.bool x | .nil _ => u=.slice none 0 0 | _ => False):=by
 intro h hq
 cases l with
 | d o T x =>
   cases T with
   | sl t =>
     cases o with
     | deep => exact h.1
     | _ => simp [L.isDeep] at hq
   | int k => exact h.intVal
   | bool => exact h.boolVal
   | _ => cases o <;> simp [L.isDeep] at hq <;> exact h.elim
 | nil t => exact h.nilVal
 | _ => simp [L.isDeep] at hq
theorem cv_row {b off j n o : Nat} {arr : Array Value} {us : List Value} {w' : World} (hb : Blk w b arr) (hb' : Blk w' b (rowOf arr.toList (off + j * n + o) us).toArray) (hle : o + us.length ≤ n) {C : Nat} (hj : j < C) (hs : off + C * n ≤ arr.size) :
 (∀ i,i<n→cv w' b (off+j * n) i=updN (cv w b (off+j * n)) o us i)∧∀ j',j'≠j→∀ i,i<n→cv w' b (off+j' * n) i=cv w b (off+j' * n) i:=by
 have hjn:j * n+n≤C * n:=by
  have:=Nat.mul_le_mul_right n (show j+1≤C by omega)
  rwa [Nat.succ_mul] at this
 have hfit:off+j * n+o+us.length≤arr.toList.length:=by simp; omega
 have hget:∀ k,cellAt w' b k=if off+j * n+o≤k∧k<off+j * n+o+us.length then us[k - (off+j * n+o)]? else cellAt w b k:=by
  intro k
  rw [cellAt_blk hb',cellAt_blk hb]
  have:=rowOf_get (k:=k) hfit
  simpa using this
 refine ⟨fun i hi => ?_,fun j' hne i hi => ?_⟩
 · simp only [cv, updN, hget]
   by_cases h1:o≤i∧i<o+us.length
   · rw [if_pos (by omega), if_pos h1, List.getD_eq_getElem?_getD]
     congr 2
     omega
   · rw [if_neg (by omega),if_neg h1]
 · simp only [cv, hget]
   rw [if_neg ?_]
   rintro ⟨h1,h2⟩
   rcases Nat.lt_or_ge j' j with h | h
   · have := Nat.mul_le_mul_right n (show j' + 1 ≤ j by omega)
     rw [Nat.succ_mul] at this
     omega
   · have := Nat.mul_le_mul_right n (show j + 1 ≤ j' by omega)
     rw [Nat.succ_mul] at this
     omega
theorem rngE_bit : ∀ {n o i : Nat}, o ≤ i → i < o + n → (rngE o n).testBit (colE i) = true
 | 0,o,i,h1,h2 => by omega
 | n+1,o,i,h1,h2 => by
   simp only [rngE,Nat.testBit_or,Nat.testBit_two_pow,Bool.or_eq_true,decide_eq_true_eq]
   by_cases e:o=i
   · exact .inl (by rw [e])
   · exact .inr (rngE_bit (by omega) (by omega))
theorem setL_far:∀ {T:Ty} {e e':T.C} {i:Nat} {l:L},T.setL e i l=some e'→∀ (fl:Fl) (i':Nat),i'≠i→T.getL fl e' i'=T.getL fl e i':=by
 intro T
 induction T with
 | int k => intro e e' i l h fl i' hne; cases i with
   | zero => cases i' with
     | zero => exact absurd rfl hne
     | succ i' => rfl
   | succ i => cases l <;> simp [Ty.setL] at h
 | bool => intro e e' i l h fl i' hne; cases i with
   | zero => cases i' with
     | zero => exact absurd rfl hne
     | succ i' => rfl
   | succ i => cases l <;> simp [Ty.setL] at h
 | sl t => intro e e' i l h fl i' hne; cases i with
   | zero => cases i' with
     | zero => exact absurd rfl hne
     | succ i' => rfl
   | succ i => cases l <;> simp [Ty.setL] at h
 | unit => intro e e' i l h fl i' hne; rfl
 | pair p q ihp ihq =>
   intro e e' i l h fl i' hne
   simp only [Ty.setL] at h
   simp only [Ty.getL]
   split at h
   · rename_i hi
     split at h
     · rename_i z hz
       obtain rfl:=Option.some.inj h
       split
       · exact ihp hz fl i' hne
       · rfl
     · cases h
   · rename_i hi
     split at h
     · rename_i z hz
       obtain rfl:=Option.some.inj h
       split
       · rfl
       · exact ihq hz fl (i' - p.size) (by omega)
     · cases h
theorem setLs_far : ∀ {vs : List L} {T : Ty} {e e' : T.C} {o : Nat}, T.setLs e o vs = some e' → ∀ (fl : Fl) (i' : Nat), ¬ (o ≤ i' ∧ i' < o + vs.length) → T.getL fl e' i' = T.getL fl e i'
 | [],T,e,e',o,hx,fl,i',_ => by
   simp only [Ty.setLs,Option.some.injEq] at hx
   subst hx
   rfl
 | v::vs,T,e,e',o,hx,fl,i',hne => by
   simp only [Ty.setLs] at hx
   simp only [List.length_cons] at hne
   split at hx
   · rename_i z hz
     rw [setLs_far hx fl i' (by omega),setL_far hz fl i' (by omega)]
   · cases hx
theorem setLs_cols {vs : List L} {T : Ty} {e e' : T.C} {o : Nat} (hx : T.setLs e o vs = some e') {fl : Fl} {i : Nat} (hcol : (bif hasSl vs then rngE o vs.length else 0).testBit (colE i) = false) {o1 : Fl} {t1 : Ty} {y : List t1.C} (hg : T.getL fl e i = some (.d o1 (.sl t1) y)) :
 ¬ (o≤i∧i<o+vs.length)∧T.getL fl e' i=some (.d o1 (.sl t1) y):=by
 cases hh:hasSl vs with
 | true =>
   rw [hh] at hcol
   simp only [cond_true] at hcol
   have hne:¬ (o≤i∧i<o+vs.length):=fun ⟨h1,h2⟩ => by rw [rngE_bit h1 h2] at hcol; cases hcol
   exact ⟨hne,by rw [setLs_far hx fl i hne]; exact hg⟩
 | false => exact setLs_other hx hh fl i t1 y o1 hg
theorem OL.keeps {st2:St} (h:Keeps vals B w st st2) {l:L} {u:Value} (ho:OL st vals B F w l u):OL st2 vals B F w l u:=⟨ho.1,h.link _ _ ho.2⟩
theorem Rl.box_falseH (h:Rl G fl st a w vals B F S) {r k:Nat} {c:Cell} {t:Ty} {x:List t.C} {j i:Nat} (hc:st[r]?=some c) (hl:c.ls[k]?=some (.hole t x j i)):∀ z,c.ck=.box z→z=false:=by
 intro z hz
 cases z with
 | false => rfl
 | true =>
   obtain ⟨hv,hu⟩:=h.val_at hc hl
   have:=h.cell r c hc
   simp only [CellOK,hz] at this
   have hcr:=this.2.2.2.1 k _ _ hl hu
   cases hcr
theorem col_ne {o i:Nat} (h:(2 ^ colE o).testBit (colE i)=false):i≠o:=by
 rintro rfl
 simp [Nat.testBit_two_pow] at h
theorem setL_big:∀ {T:Ty} {e:T.C} {i:Nat} {l:L},T.size≤i→T.setL e i l=none:=by
 intro T
 induction T with
 | int k => intro e i l h; cases i <;> simp [Ty.setL,Ty.size] at h ⊢
 | bool => intro e i l h; cases i <;> simp [Ty.setL,Ty.size] at h ⊢
 | sl t => intro e i l h; cases i <;> simp [Ty.setL,Ty.size] at h ⊢
 | unit => intro e i l h; cases i <;> cases l <;> simp [Ty.setL]
 | pair p q ihp ihq =>
   intro e i l h
   simp only [Ty.size] at h
   simp only [Ty.setL]
   rw [if_neg (by omega),ihq (by omega)]
theorem fillElem_ok (hE : EnvOK P E) {vs : List L} {us : List Value} (h : Rl G (vs.zip us) st a w vals B F S) {t : TypeId} {ti : TI} (ht : E.ti t = some ti) {p : Pl} {c : Cell} {T : Ty} {y : List T.C} {j' i' j o : Nat} {pv v : Value} (hfr : Fresh c p)
 (hp:OL st vals B F w (.eptr p j o) pv) (hsub:p.sub=none) (hc:st[p.r]?=some c) (hl:c.ls[p.k]?=some (.hole T y j' i')) (hone:Ones us) (hv:v.cells=us.toArray) (hul:us.length=ti.n) (hvl:vs.length=us.length)
 {u:Unit} (hx:(fillElem p T y j' i' j o vs).exec st=some (u,st')):∃ w',(Instr.storeAt t pv v).run P w=.ok () w'∧Rel G [] st' a w':=by
 unfold fillElem at hx
 obtain ⟨_,s1,h1,hx⟩:=M.bind_some hx
 obtain ⟨ej,e1⟩:=M.must_some h1
 rw [e1] at hx
 obtain ⟨_,s2,h2,hx⟩:=M.bind_some hx
 obtain ⟨ei,e2⟩:=M.must_some h2
 rw [e2] at hx
 have ej:=of_decide_eq_true ej
 have ei:=Nat.eq_of_beq_eq_true ei
 subst ej
 subst ei
 replace hx:=M.bind_some hx
 obtain ⟨e,s3,h3,hx⟩:=hx
 obtain ⟨he,e3⟩:=M.nth_some h3
 rw [e3] at hx
 split at hx
 · rename_i t1 z
   split at hx
   · rename_i e' he'
     obtain ⟨c',hc',hlt,rfl⟩:=M.writeS_some hx
     rw [hc] at hc'
     obtain rfl:=Option.some.inj hc'
     obtain ⟨pr,pk,ps⟩:=p
     simp only at hsub hc hl hfr
     subst hsub
     obtain ⟨hv0,hu⟩:=h.val_at hc hl
     obtain ⟨hhole,hnoF⟩:=(h.leaf _ _ _ _ _ hc hl hu).1
     have hhole':=hhole
     obtain ⟨b,off,C,arr,q1,q2,q3,q4,q5,q6⟩:=hhole
     have hxj:=get_lt he
     have hir:i'<T.size:=by
        rcases Nat.lt_or_ge i' T.size with h | h
        · exact h
        · exact absurd he' (by rw [setL_big h]; simp)
     -- the pointer
     have hpv:pv=.pointer (some ⟨b,off+j' * T.size+i',none⟩):=by
        rcases hp.2 with ⟨c3,hc3,hturn⟩ | ⟨t3,n3,b3,off3,C3,hd3,_,hpv⟩
        · rw [hc] at hc3
          obtain rfl:=Option.some.inj hc3
          exact absurd hturn (hfr.no (by simp only; rw [hl]; simp))
        · obtain ⟨c4, o4, t4, x4, h4, m1, m2, m3, m4⟩ := hd3
          simp only at m1 m2 m3
          rw [hc] at m1
          obtain rfl:=Option.some.inj m1
          rw [hu] at m3
          obtain rfl:=Option.some.inj m3
          obtain ⟨rfl,_,hm⟩:=RowL.inj (.inr ⟨rfl,_,_,hl⟩) m2
          obtain ⟨rfl,m5,m6⟩:=m4
          rw [q1] at m6
          simp only [Value.slice.injEq,Option.some.injEq,Addr.mk.injEq] at m6
          obtain ⟨⟨rfl,rfl,_⟩,_⟩:=m6
          exact hpv
     subst hpv
     match us,hvl with
     | [u1],_ =>
     have hjC:j'<C:=by omega
     have hji:j' * T.size+i'<C * T.size:=mul_lt_of hxj q2 hir
     obtain ⟨n1,n2⟩:=store_run (old:=arr.toList) (o:=off+j' * T.size+i') hE ht (by simpa using q4) hv hul (by simp; omega) hone
     refine ⟨_,n1, ?_⟩
     generalize hw':w.setRow b (rowOf arr.toList (off+j' * T.size+i') [u1]).toArray=w' at n2
     have hw:OnlyAt w w' b:=by rw [← hw']; exact only_setRow _ _ _
     have hle:(off+j' * T.size+i')+[u1].length≤arr.toList.length:=by simp; omega
     have hcell:∀ q,q≠off+j' * T.size+i'→cellAt w' b q=cellAt w b q:=fun q hq => by
        rw [cellAt_blk n2,cellAt_blk q4,List.getElem?_toArray,rowOf_get hle,if_neg (by simp; omega),Array.getElem?_toList]
     have hat:cv w' b (off+j' * T.size) i'=u1:=by
        simp only [cv]
        rw [cellAt_blk n2,List.getElem?_toArray,rowOf_get hle,if_pos (by simp)]
        simp
     have hFb:∀ i,¬ F b i:=fun i => hnoF b q3 i
     have hlt0:=get_lt hc
     have hair:=(h.fleaf 0 _ _ rfl).1
     have hXb:∀ y,S st.length 1 y→y≠b:=by
        rintro y hy rfl
        exact h.disj _ _ _ _ _ (by simp; omega) hy q3
     have hrep:RepD w' (.sl T) (y.set j' e') (fun _ => hv0) (fun z => S pr (pk+1) z∨S st.length 1 z):=by
        refine q6 w' (S st.length 1) _ _ e e' _ (fun b' _ hne => hw.heap b' hne) n2 (by simp [rowOf_length hle]) hcell he he' (fun z hz hz' => h.disj _ _ _ _ z (by simp; omega) hz hz') ?_
        rw [hat]
        exact hair.1.stable fun b' hb' => hw.heap b' (hXb b' hb')
     have hlink:SubLe (2 ^ colE i') T y (y.set j' e')∧(∀ (j2 i:Nat) (e0:T.C) (fl:Fl) (o1:Fl) (t1:Ty) (y1:List t1.C),(2 ^ colE i').testBit (colE i)=false→y[j2]?=some e0→T.getL fl e0 i=some (.d o1 (.sl t1) y1)→cv w' b (off+j2 * T.size) i=cv w b (off+j2 * T.size) i):=by
        refine ⟨fun j2 e0 hj2 => ?_,fun j2 i e0 fl o1 t1 y1 hcol hj2 hg => ?_⟩
        · rw [get_set hxj]
          by_cases ej:j'=j2
          · subst ej
            rw [he] at hj2
            obtain rfl:=Option.some.inj hj2
            exact ⟨e',by simp,fun fl i t1 y1 o1 hcol hg => ⟨y1,by rw [setL_far he' fl i (col_ne hcol)]; exact hg,rfl⟩⟩
          · exact ⟨e0,by rw [if_neg ej]; exact hj2,fun _ _ _ y _ _ h => ⟨y,h,rfl⟩⟩
        · simp only [cv]
          rw [hcell _ ?_]
          intro e5
          have hi2:=getL_lt hg
          have hqs:j2 * T.size+i=j' * T.size+i':=by omega
          rcases Nat.lt_trichotomy j2 j' with h6 | h6 | h6
          · have := mul_lt_of h6 (Nat.le_refl _) hi2
            omega
          · subst h6
            exact col_ne hcol (by omega)
          · have := mul_lt_of h6 (Nat.le_refl _) hir
            omega
     refine (h.absorb (o:=.deep) (o':=.deep) (x':=y.set j' e') (X:=fun z => S pr (pk+1) z∨S st.length 1 z) (F':=F) hc (.inr ⟨rfl,_,_,hl⟩) hu q1 (h.box_falseH hc hl) (by simp) q3 hw hFb hlink (fun z hz => hz.imp id fun hz => ⟨_,hz⟩) (fun _ _ h => h) (fun _ _ h => .inl h) ⟨hrep, ?_⟩).rel
     rintro z (hz | hz)
     · exact hnoF z hz
     · exact hair.2 z hz
   · exact (M.fail_some hx).elim
 · exact (M.fail_some hx).elim
theorem setL_scalar:∀ {T:Ty} {e e':T.C} {i:Nat} {l:L},T.flat=true→T.setL e i l=some e'→(∃ o k x,l=.d o (.int k) x)∨(∃ o x,l=.d o .bool x):=by
 intro T
 induction T with
 | int k =>
   intro e e' i l _ h
   cases i with
   | succ i => cases l <;> simp [Ty.setL] at h
   | zero =>
     cases l with
     | d o T x => cases T <;> first | exact .inl ⟨_,_,_,rfl⟩ | simp [Ty.setL] at h
     | _ => simp [Ty.setL] at h
 | bool =>
   intro e e' i l _ h
   cases i with
   | succ i => cases l <;> simp [Ty.setL] at h
   | zero =>
     cases l with
     | d o T x => cases T <;> first | exact .inr ⟨_,_,rfl⟩ | simp [Ty.setL] at h
     | _ => simp [Ty.setL] at h
 | sl t => intro e e' i l hf; cases hf
 | pair p q ihp ihq =>
   intro e e' i l hf h
   simp only [Ty.flat,Bool.and_eq_true] at hf
   simp only [Ty.setL] at h
   split at h
   · split at h
     · rename_i y hy; exact ihp hf.1 hy
     · cases h
   · split at h
     · rename_i y hy; exact ihq hf.2 hy
     · cases h
 | unit => intro e e' i l _ h; cases i <;> cases l <;> simp [Ty.setL] at h
theorem setLs_scalar : ∀ {vs : List L} {T : Ty} {e e' : T.C} {o : Nat}, T.flat = true → T.setLs e o vs = some e' → ∀ l, l ∈ vs → (∃ o k x, l = .d o (.int k) x) ∨ (∃ o x, l = .d o .bool x)
 | [],T,e,e',o,_,_,l,hl => by simp at hl
 | v::vs,T,e,e',o,hf,hx,l,hl => by
   simp only [Ty.setLs] at hx
   split at hx
   · rename_i y hy
     rcases List.mem_cons.1 hl with rfl | hl
     · exact setL_scalar hf hy
     · exact setLs_scalar hf hx l hl
   · cases hx
theorem getL_set:∀ {T:Ty} {e e':T.C} {i:Nat} {o:Fl} {t1:Ty} {z:List t1.C},T.setL e i (.d o (.sl t1) z)=some e'→∀ fl,T.getL fl e' i=some (.d fl (.sl t1) z):=by
 intro T
 induction T with
 | int k => intro e e' i o t1 z h; cases i <;> simp [Ty.setL] at h
 | bool => intro e e' i o t1 z h; cases i <;> simp [Ty.setL] at h
 | unit => intro e e' i o t1 z h; cases i <;> simp [Ty.setL] at h
 | sl t =>
   intro e e' i o t1 z h fl
   cases i with
   | succ i => simp [Ty.setL] at h
   | zero =>
     simp only [Ty.setL] at h
     split at h
     · rename_i ht
       subst ht
       obtain rfl:=Option.some.inj h
       rfl
     · cases h
 | pair p q ihp ihq =>
   intro e e' i o t1 z h fl
   simp only [Ty.setL] at h
   simp only [Ty.getL]
   split at h
   · rename_i hi
     split at h
     · rename_i y hy
       obtain rfl:=Option.some.inj h
       rw [if_pos hi]
       exact ihp hy fl
     · cases h
   · rename_i hi
     split at h
     · rename_i y hy
       obtain rfl:=Option.some.inj h
       rw [if_neg hi]
       exact ihq hy fl
     · cases h
theorem subElem_ok (hE : EnvOK P E) {vs : List L} {us : List Value} (h : Rl G (vs.zip us) st a w vals B F S) {t : TypeId} {ti : TI} (ht : E.ti t = some ti) {p : Pl} {c : Cell} {T : Ty} {x : List T.C} {j0 i0 j o : Nat} {pv v : Value} (hfr : Fresh c p)
 (hp:OL st vals B F w (.eptr p j o) pv) (hsub:p.sub=some (j0,i0)) (hc:st[p.r]?=some c) (hl:c.ls[p.k]?=some (.d .deep (.sl T) x)) (hone:Ones us) (hv:v.cells=us.toArray) (hul:us.length=ti.n) (hvl:vs.length=us.length)
 {u:Unit} (hx:(subElem p T x j0 i0 j o vs).exec st=some (u,st')):∃ w',(Instr.storeAt t pv v).run P w=.ok () w'∧Rel G [] st' a w':=by
 unfold subElem at hx
 replace hx:=M.bind_some hx
 obtain ⟨e,s1,h1,hx⟩:=hx
 obtain ⟨he,e1⟩:=M.nth_some h1
 rw [e1] at hx
 split at hx
 · rename_i t1 y hg
   obtain ⟨_,s2,h2,hx⟩:=M.bind_some hx
   obtain ⟨hflat,e2⟩:=M.must_some h2
   rw [e2] at hx
   obtain ⟨_,s3,h3,hx⟩:=M.bind_some hx
   obtain ⟨hle,e3⟩:=M.must_some h3
   rw [e3] at hx
   have hle:=of_decide_eq_true hle
   replace hx:=M.bind_some hx
   obtain ⟨f,s4,h4,hx⟩:=hx
   obtain ⟨hf,e4⟩:=M.nth_some h4
   rw [e4] at hx
   split at hx
   · rename_i f' hf'
     split at hx
     · rename_i e' he'
       obtain ⟨c',hc',hlt,rfl⟩:=M.writeS_some hx
       rw [hc] at hc'
       obtain rfl:=Option.some.inj hc'
       obtain ⟨pr,pk,ps⟩:=p
       simp only at hsub hc hl hfr
       subst hsub
       obtain ⟨hv0,hu⟩:=h.val_at hc hl
       obtain ⟨hrep,hnoF⟩:=(h.leaf _ _ _ _ _ hc hl hu).1
       obtain ⟨X,b,off,C,q1,q2,q3,q4⟩:=hrep.rowHole he hg
       obtain ⟨b1,off1,C1,arr1,p1,_,⟨hSb,hXb⟩,_⟩:=id q4
       rw [q1] at p1
       simp only [Value.slice.injEq,Option.some.injEq,Addr.mk.injEq] at p1
       obtain ⟨⟨rfl,rfl,_⟩,_⟩:=p1
       obtain ⟨A2,C2,r1,r2,r3⟩:=q3
       have hyj:=get_lt hf
       rcases r3 with ⟨_,r3⟩ | ⟨b2,off2,arr2,rfl,hX2,hblk2,hsz2,Ss,k7,k8,k9⟩
       · omega
       have hne:b≠b2:=fun e => hXb (e ▸ hX2)
       -- the pointer
       have hpl:(place ⟨pr,pk,some (j0,i0)⟩).exec st=some (.d .deep (.sl t1) y,st):=place_of hc hfr hl (by simp [subOf,he,hg,Fl.el])
       obtain ⟨_,c2,o2,t2,x2,hv2,heq,hp2⟩:=placed h hpl
       simp only [L.d.injEq,Ty.sl.injEq] at heq
       obtain ⟨rfl,rfl,heq⟩:=heq
       cases heq
       obtain ⟨_,_,_,b3,off3,C3,m1,m2⟩:=hp2.inElem hpl hc hl hu
       rw [q1] at m1
       simp only [Value.slice.injEq,Option.some.injEq,Addr.mk.injEq] at m1
       obtain ⟨⟨rfl,rfl,_⟩,_⟩:=m1
       have hpv:pv=.pointer (some ⟨b2,off2+j * t1.size+o,none⟩):=by
        rcases hp.2 with ⟨c3,hc3,hturn⟩ | ⟨t3,n3,b4,off4,C4,hd3,_,hpv⟩
        · rw [hc] at hc3
          obtain rfl:=Option.some.inj hc3
          exact absurd hturn (hfr.no (by simp only; rw [hl]; simp))
        · obtain ⟨rfl, _, hvv⟩ := hp2.hd.uniq hd3
          rw [m2] at hvv
          have r1':cv w b (off+j0 * T.size) i0=.slice (some ⟨b2,off2,none⟩) y.length C2:=r1
          rw [r1'] at hvv
          simp only [Value.slice.injEq,Option.some.injEq,Addr.mk.injEq] at hvv
          obtain ⟨⟨rfl,rfl,_⟩,_⟩:=hvv
          exact hpv
       subst hpv
       have hjC:j<C2:=by omega
       have hjn:j * t1.size+t1.size≤C2 * t1.size:=by
        have:=Nat.mul_le_mul_right t1.size (show j+1≤C2 by omega)
        rwa [Nat.succ_mul] at this
       obtain ⟨n1,n2⟩:=store_run (old:=arr2.toList) (o:=off2+j * t1.size+o) hE ht (by simpa using hblk2) hv hul (by simp; omega) hone
       refine ⟨_,n1, ?_⟩
       generalize hw':w.setRow b2 (rowOf arr2.toList (off2+j * t1.size+o) us).toArray=w' at n2
       have hw:OnlyAt w w' b2:=by rw [← hw']; exact only_setRow _ _ _
       obtain ⟨cv1,cv2⟩:=cv_row (us:=us) hblk2 n2 (by omega) hjC hsz2
       have hFb:∀ i,¬ F b2 i:=fun i => hnoF b2 (q2 _ hX2) i
       have hcvb:∀ q,cv w' b q=cv w b q:=fun q => cv_of_heap (hw.heap b hne) q
       have st1:∀ {q g},y[q]?=some g→RepD w' t1 g (cv w b2 (off2+q * t1.size)) (Ss q):=fun hq => (k9 _ _ hq).stable fun z hz => hw.heap z (k7 _ z hz).2
       have hnew:RepD w' (.sl t1) (y.set j f') (fun _ => cv w' b (off+j0 * T.size) i0) X:=by
        rw [hcvb]
        refine ⟨some ⟨b2,off2,none⟩,C2,by rw [List.length_set]; exact r1,by rw [List.length_set]; exact r2,.inr ⟨b2,off2,_,rfl,hX2,n2, ?_,Ss,k7,k8,fun q g hg2 => ?_⟩⟩
        · have := rowOf_length (old := arr2.toList) (us := us) (o := off2 + j * t1.size + o) (by simp; omega)
          simp only [List.size_toArray,this,Array.length_toList]
          exact hsz2
        · rw [get_set hyj] at hg2
          split at hg2
          · rename_i ej
            subst ej
            obtain rfl:=Option.some.inj hg2
            refine ((RepD.setLs (Xs:=fun _ _ => False) (st1 hf) hf' hvl (fun k l u hl' hu' => ?_) (fun _ _ _ h => h) (fun _ _ _ _ h => h.elim)).up fun z hz => hz.elim id fun ⟨_,hz⟩ => hz.elim).congr fun i hi => cv1 i hi
            have hlf:=(h.fleaf _ _ _ (zip_get hl' hu')).1
            rcases setLs_scalar hflat hf' l (List.mem_of_getElem? hl') with ⟨o1,k1,x1,rfl⟩ | ⟨o1,x1,rfl⟩
            · cases o1 <;> first | exact hlf.elim | (cases hlf with | d _ _ _ _ h5 => exact h5)
            · cases o1 <;> first | exact hlf.elim | (cases hlf with | d _ _ _ _ h5 => exact h5)
          · rename_i ej
            exact (st1 hg2).congr fun i hi => cv2 q (fun e => ej e.symm) i hi
       have hheap:∀ z,(S pr (pk+1) z∧¬ X z)→w'.heap[z]?=w.heap[z]?:=fun z hz => hw.heap z fun e => hz.2 (e ▸ hX2)
       have hwhole:=(q4.stable hheap).back q1 he he' (fun z hz hz' => hz.2 hz') hnew
       have hlink:SubLe 0 T x (x.set j0 e')∧(∀ (j2 i:Nat) (e0:T.C) (fl:Fl) (o1:Fl) (t2:Ty) (y1:List t2.C),(0:Nat).testBit (colE i)=false→x[j2]?=some e0→T.getL fl e0 i=some (.d o1 (.sl t2) y1)→cv w' b (off+j2 * T.size) i=cv w b (off+j2 * T.size) i):=by
        refine ⟨fun j2 e0 hj2 => ?_,fun j2 i e0 fl o1 t1 y1 hcol hj2 hg => by rw [hcvb]⟩
        rw [get_set (get_lt he)]
        by_cases ej:j0=j2
        · subst ej
          rw [he] at hj2
          obtain rfl:=Option.some.inj hj2
          refine ⟨e',by simp,fun fl i t2 y1 o1 hcol hg2 => ?_⟩
          by_cases ei:i=i0
          · subst ei
            have h6:=getL_fl (o2:=fl) hg
            have h7:=getL_fl' hg2
            subst h7
            rw [h6] at hg2
            simp only [Option.some.injEq,L.d.injEq,Ty.sl.injEq,true_and] at hg2
            obtain ⟨rfl,hg2⟩:=hg2
            cases hg2
            exact ⟨y.set j f',getL_set he' _,by simp⟩
          · exact ⟨y1,by rw [setL_far he' fl i ei]; exact hg2,rfl⟩
        · exact ⟨e0,by rw [if_neg ej]; exact hj2,fun _ _ _ y _ _ h => ⟨y,h,rfl⟩⟩
       refine (h.absorb (o:=.deep) (o':=.deep) (x':=x.set j0 e') (X:=fun z => (S pr (pk+1) z∧¬ X z)∨X z) (F':=F) hc (.inl hl) hu q1 (h.box_false hc hl (by simp)) (by simp) (q2 _ hX2) hw hFb hlink (fun z hz => .inl (hz.elim And.left (q2 z))) (fun _ _ h => h) (fun _ _ h => .inl h) ⟨hwhole, ?_⟩).rel
       rintro z (hz | hz)
       · exact hnoF z hz.1
       · exact hnoF z (q2 z hz)
     · exact (M.fail_some hx).elim
   · exact (M.fail_some hx).elim
 · exact (M.fail_some hx).elim
theorem storeElem_ok (hE : EnvOK P E) (h : Rl G [] st a w vals B F S) {t : TypeId} {ti : TI} (ht : E.ti t = some ti) {p : Pl} {j o : Nat} {ls : List L} {us : List Value} {pv v : Value}
 (hp:OL st vals B F w (.eptr p j o) pv) (hols:Ols st vals B F w ls us) (hone:Ones us) (hv:v.cells=us.toArray) (hn:ls.length=ti.n) {u:Unit} (hx:(storeElem ti p j o ls).exec st=some (u,st')) :
 ∃ w',(Instr.storeAt t pv v).run P w=.ok () w'∧Rel G [] st' a w':=by
 unfold storeElem at hx
 obtain ⟨vs,s1,h1,hx⟩:=M.bind_some hx
 obtain ⟨S1,g1,g2,g3⟩:=mapL_ok (fun h ho hx => moveL_ok h ho hx) h hols h1
 simp only [List.nil_append] at g1
 obtain ⟨l0,s2,h2,hx⟩:=M.bind_some hx
 obtain ⟨e2,c,hc,hfr,hl⟩:=rootL_ok h2
 rw [e2] at hx
 split at hx
 rotate_left
 · rename_i T y j' i' hsub
   exact fillElem_ok hE g1 ht (hfr:=hfr) (OL.keeps g2 hp) hsub hc hl hone hv (by rw [hols.length,hn]) g3 hx
 · rename_i T x j0 i0 hsub
   exact subElem_ok hE g1 ht (hfr:=hfr) (OL.keeps g2 hp) hsub hc hl hone hv (by rw [hols.length,hn]) g3 hx
 · exact (M.fail_some hx).elim
 · rename_i fl0 T x hsub
   obtain ⟨_,s3,h3,hx⟩:=M.bind_some hx
   obtain ⟨how,e3⟩:=M.must_some h3
   rw [e3] at hx
   obtain ⟨_,s4,h4,hx⟩:=M.bind_some hx
   obtain ⟨hle,e4⟩:=M.must_some h4
   rw [e4] at hx
   have hle:=of_decide_eq_true hle
   replace hx:=M.bind_some hx
   obtain ⟨e,s9,h9,hx⟩:=hx
   obtain ⟨he,e9⟩:=M.nth_some h9
   rw [e9] at hx
   · split at hx
     · rename_i e' he'
       obtain ⟨c',hc',hlt,rfl⟩:=M.writeS_some hx
       rw [hc] at hc'
       obtain rfl:=Option.some.inj hc'
       obtain ⟨pr,pk,ps⟩:=p
       simp only at hsub hc hl hfr
       subst hsub
       obtain ⟨hv0,hu⟩:=g1.val_at hc hl
       have hroot:=(g1.leaf _ _ _ _ _ hc hl hu).1
       have hno:fl0≠.fro:=by intro e; subst e; cases how
       have hbox:=g1.box_false hc hl hno
       -- the row's block
       obtain ⟨b,off,C,arr,q1,q2,q3,q4,q5⟩:∃ b off C arr,hv0=.slice (some ⟨b,off,none⟩) x.length C∧x.length≤C∧S1 pr (pk+1) b∧Blk w b arr∧off+C * T.size≤arr.size:=by
        have hxj:=get_lt he
        cases fl0 with
        | deep =>
          obtain ⟨A,C,k1,k2,k3⟩:=hroot.1
          rcases k3 with ⟨_,k3⟩ | ⟨b,off,arr,rfl,k4,k5,k6,_⟩
          · omega
          · exact ⟨b,off,C,arr,k1,k2,k4,k5,k6⟩
        | sha =>
          obtain ⟨A,C,k1,k2,k3⟩:=hroot.1
          rcases k3 with ⟨_,k3⟩ | ⟨b,off,arr,rfl,k4,k5,k6,_⟩
          · omega
          · exact ⟨b,off,C,arr,k1,k2,k4,k5,k6⟩
        | frt => cases how
        | jnk jl jh => cases how
        | fro => cases how
       have hnoF:NoF F (S1 pr (pk+1)):=by
        cases fl0 with
        | deep => exact hroot.2
        | sha => exact hroot.2
        | frt => cases how
        | jnk jl jh => cases how
        | fro => cases how
       -- the pointer
       have hpv:pv=.pointer (some ⟨b,off+j * T.size+o,none⟩):=by
        have hpl:(place ⟨pr,pk,none⟩).exec s1=some (.d fl0 (.sl T) x,s1):=place_of hc hfr hl rfl
        obtain ⟨_,c2,o2,t2,x2,hv2,heq,hp2⟩:=placed g1 hpl
        simp only [L.d.injEq,Ty.sl.injEq] at heq
        obtain ⟨rfl,rfl,heq⟩:=heq
        cases heq
        rcases g2.link _ _ hp.2 with ⟨c3,hc3,hturn⟩ | ⟨t3,n3,b3,off3,C3,hd3,_,hpv⟩
        · rw [hc] at hc3
          obtain rfl:=Option.some.inj hc3
          exact absurd hturn (hfr.no (by simp only; rw [hl]; simp))
        · obtain ⟨rfl, _, hvv⟩ := hp2.hd.uniq hd3
          obtain ⟨_,hu2⟩:=hp2.root rfl
          simp only at hu2
          rw [hu] at hu2
          obtain rfl:=Option.some.inj hu2
          rw [q1] at hvv
          simp only [Value.slice.injEq,Option.some.injEq,Addr.mk.injEq] at hvv
          obtain ⟨⟨rfl,rfl,_⟩,_⟩:=hvv
          exact hpv
       subst hpv
       have hxj:=get_lt he
       have hul:us.length=ti.n:=by rw [hols.length,hn]
       have hvl:vs.length=us.length:=g3
       have hjC:j<C:=by omega
       have hjn:j * T.size+T.size≤C * T.size:=by
        have:=Nat.mul_le_mul_right T.size (show j+1≤C by omega)
        rwa [Nat.succ_mul] at this
       obtain ⟨n1,n2⟩:=store_run (old:=arr.toList) (o:=off+j * T.size+o) hE ht (by simpa using q4) hv hul (by simp; omega) hone
       refine ⟨_,n1, ?_⟩
       generalize hw':w.setRow b (rowOf arr.toList (off+j * T.size+o) us).toArray=w' at n2
       have hw:OnlyAt w w' b:=by rw [← hw']; exact only_setRow _ _ _
       obtain ⟨cv1,cv2⟩:=cv_row (us:=us) q4 n2 (by omega) hjC q5
       have hFb:∀ i,¬ F b i:=fun i => hnoF b q3 i
       have hFw:∀ y q u,F y q→cellAt w y q=some u→cellAt w' y q=some u:=fun y q u hF hq => by
        rw [cellAt_of_heap (hw.heap y fun e => hFb q (e ▸ hF))]; exact hq
       have hfne:∀ k y,S1 s1.length k y→y≠b:=by
        rintro k y hy rfl
        have:=get_lt hc
        exact g1.disj _ _ _ _ _ (by simp; omega) hy q3
       have hleafw:∀ (k:Nat) (l:L) (u:Value),vs[k]?=some l→us[k]?=some u→LRep F w' l u (S1 s1.length (k+1)):=fun k l u hl hu =>
        (g1.fleaf _ _ _ (zip_get hl hu)).1.stable ⟨hFw,fun y hy => hw.heap y (hfne _ y hy)⟩ (.refl _ _)
       have hlink:SubLe (bif hasSl vs then rngE o vs.length else 0) T x (x.set j e')∧(∀ (j' i:Nat) (e0:T.C) (fl:Fl) (o1:Fl) (t1:Ty) (y:List t1.C),(bif hasSl vs then rngE o vs.length else 0).testBit (colE i)=false→x[j']?=some e0→T.getL fl e0 i=some (.d o1 (.sl t1) y)→cv w' b (off+j' * T.size) i=cv w b (off+j' * T.size) i):=by
        refine ⟨fun j' e0 hj' => ?_,fun j' i e0 fl o1 t1 y hcol hj' hg => ?_⟩
        · rw [get_set hxj]
          by_cases ej:j=j'
          · subst ej
            rw [he] at hj'
            obtain rfl:=Option.some.inj hj'
            exact ⟨e',by simp,fun fl i t1 y o1 hcol hg => ⟨y,(setLs_cols he' hcol hg).2,rfl⟩⟩
          · exact ⟨e0,by rw [if_neg ej]; exact hj',fun _ _ _ y _ _ h => ⟨y,h,rfl⟩⟩
        · by_cases ej : j' = j
          · subst ej
            rw [he] at hj'
            obtain rfl:=Option.some.inj hj'
            obtain ⟨m1,_⟩:=setLs_cols he' hcol hg
            rw [cv1 i (getL_lt hg)]
            simp only [updN]
            rw [if_neg (by rw [← hvl]; exact m1)]
          · exact cv2 j' ej i (getL_lt hg)
       by_cases hdeep:fl0=.deep∧(T.flat || vs.all L.isDeep)=true
       · obtain ⟨rfl, hcond⟩ := hdeep
         have hfl':storeFl T .deep vs=.deep:=by unfold storeFl; rw [if_pos hcond]
         rw [hfl']
         have hdv:∀ l,l∈vs→l.isDeep=true:=by
           intro l hl
           simp only [Bool.or_eq_true,List.all_eq_true] at hcond
           exact hcond.elim (fun hf => setLs_flat hf he' l hl) fun h => h l hl
         generalize hXs:(fun (k:Nat) (y:Nat) => ∃ l,vs[k]?=some l∧ownS l (S1 s1.length (k+1)) y:Nat→BS)=Xs
         have hXs1:∀ {k y},Xs k y→S1 s1.length (k+1) y:=by
           intro k y hy; rw [← hXs] at hy; obtain ⟨l,_,hy⟩:=hy; exact ownS_le hy
         have hXs2:∀ {k:Nat} {l:L},vs[k]?=some l→Xs k=ownS l (S1 s1.length (k+1)):=by
           intro k l hl
           rw [← hXs]
           funext y
           refine propext ⟨fun ⟨l',h3,h4⟩ => ?_,fun h => ⟨l,hl,h⟩⟩
           rw [hl] at h3
           obtain rfl:=Option.some.inj h3
           exact h4
         refine (g1.absorb (o':=.deep) (x':=x.set j e') (X:=fun y => S1 pr (pk+1) y∨∃ k,Xs k y) (F':=F) hc (.inl hl) hu q1 hbox (by simp) q3 hw hFb hlink (fun y hy => hy.imp id fun ⟨k,hy⟩ => ⟨_,hXs1 hy⟩) (fun _ _ h => h) (fun _ _ h => .inl h) ⟨?_, ?_⟩).rel
         · obtain ⟨A, C', k1, k2, k3⟩ := hroot.1
           rw [q1] at k1
           simp only [Value.slice.injEq] at k1
           obtain ⟨rfl,_,rfl⟩:=k1
           rcases k3 with ⟨k3,_⟩ | ⟨b',off',arr',k3,k4,k5,k6,Ss,k7,k8,k9⟩
           · cases k3
           · simp only [Option.some.injEq, Addr.mk.injEq] at k3
             obtain ⟨rfl,rfl,_⟩:=k3
             refine ⟨some ⟨b,off,none⟩,C,by rw [List.length_set]; exact q1,by rw [List.length_set]; exact k2,.inr ⟨b,off,_,rfl,.inl q3,n2, ?_,fun j' => if j'=j then (fun y => Ss j y∨∃ k,Xs k y) else Ss j',fun j' y hy => ?_,fun j1 j2 y hne hy hy' => ?_,fun j' f hf => ?_⟩⟩
             · have := rowOf_length (old := arr.toList) (us := us) (o := off + j * T.size + o) (by simp; omega)
               simp only [List.size_toArray,this,Array.length_toList]
               exact q5
             · dsimp only at hy
               split at hy
               · rcases hy with hy | ⟨k, hy⟩
                 · exact ⟨.inl (k7 j y hy).1,(k7 j y hy).2⟩
                 · exact ⟨.inr ⟨k,hy⟩,hfne _ y (hXs1 hy)⟩
               · exact ⟨.inl (k7 j' y hy).1,(k7 j' y hy).2⟩
             · have dx:∀ {q y},Ss q y→(∃ k,Xs k y)→False:=by
                 rintro q y hy ⟨k,hk⟩
                 have:=get_lt hc
                 exact g1.disj _ _ _ _ _ (by simp; omega) (hXs1 hk) (k7 q y hy).1
               dsimp only at hy hy'
               split at hy <;> split at hy'
               · omega
               · rcases hy with hy | hy
                 · exact k8 _ _ y (by omega) hy hy'
                 · exact dx hy' hy
               · rcases hy' with hy' | hy'
                 · exact k8 _ _ y (by omega) hy hy'
                 · exact dx hy hy'
               · exact k8 _ _ y hne hy hy'
             · have st1 : ∀ {q f}, x[q]? = some f → RepD w' T f (cv w b (off + q * T.size)) (Ss q) := fun hq => (k9 _ _ hq).stable fun y hy => hw.heap y (k7 _ y hy).2
               rw [get_set hxj] at hf
               split at hf
               · rename_i ej
                 subst ej
                 obtain rfl:=Option.some.inj hf
                 dsimp only
                 rw [if_pos rfl]
                 refine (RepD.setLs (Xs:=Xs) (st1 he) he' hvl (fun k l u hl' hu' => ?_) (fun k y hy hk => ?_) (fun k k' y hne hy hy' => ?_)).congr fun i hi => cv1 i hi
                 · rw [hXs2 hl']
                   exact (hleafw k l u hl' hu').leafD (hdv l (List.mem_of_getElem? hl'))
                 · have := get_lt hc
                   exact g1.disj _ _ _ _ _ (by simp; omega) (hXs1 hk) (k7 _ y hy).1
                 · exact g1.disj _ _ _ _ y (by simp; exact hne) (hXs1 hy) (hXs1 hy')
               · rename_i ej
                 dsimp only
                 rw [if_neg (fun e => ej e.symm)]
                 exact (st1 hf).congr fun i hi => cv2 j' (fun e => ej e.symm) i hi
         · rintro y (hy | ⟨k, hy⟩) i hi
           · exact hnoF y hy i hi
           · rw [← hXs] at hy
             obtain ⟨l,h3,h4⟩:=hy
             have hu3:us[k]?=some (us[k]'(by have:=get_lt h3; omega)):=by simp [show k<us.length by have:=get_lt h3; omega]
             exact ((hleafw k l _ h3 hu3).own (hdv l (List.mem_of_getElem? h3))).2 y h4 i hi
       · have hfl':storeFl T fl0 vs=.sha:=by
           unfold storeFl
           cases fl0 with
           | deep => rw [if_neg fun h => hdeep ⟨rfl,h⟩]
           | sha => split <;> rfl
           | frt => cases how
           | jnk jl jh => cases how
           | fro => cases how
         rw [hfl']
         have hnb:∀ i,¬ (F b i∨(S1 pr (pk+1) b∧b≠b)∨∃ k',S1 s1.length k' b):=by
           rintro i (h1 | ⟨_,h1⟩ | ⟨k',h1⟩)
           · exact hFb i h1
           · exact h1 rfl
           · exact hfne _ _ h1 rfl
         refine (g1.absorb (o' := .sha) (x' := x.set j e') (X := fun y => y = b) (F' := fun y i => F y i ∨ (S1 pr (pk + 1) y ∧ y ≠ b) ∨ ∃ k', S1 s1.length k' y) hc (.inl hl) hu q1 hbox (by simp) q3 hw hFb hlink (fun y hy => .inl (by rw [hy]; exact q3)) (fun _ _ h => .inl h)
           (fun y i hy => hy.imp id fun hy => hy.imp And.left id) ⟨?_, ?_⟩).rel
         · have hel:∀ {q f},x[q]?=some f→RepF (fun y i => F y i∨(S1 pr (pk+1) y∧y≠b)∨∃ k',S1 s1.length k' y) w T f (cv w b (off+q * T.size)):=by
            intro q f hq
            cases fl0 with
            | deep =>
              obtain ⟨A,C',k1,k2,k3⟩:=hroot.1
              rw [q1] at k1
              simp only [Value.slice.injEq] at k1
              obtain ⟨rfl,_,rfl⟩:=k1
              rcases k3 with ⟨k3,_⟩ | ⟨b',off',arr',k3,k4,k5,k6,Ss,k7,k8,k9⟩
              · cases k3
              · simp only [Option.some.injEq, Addr.mk.injEq] at k3
                obtain ⟨rfl,rfl,_⟩:=k3
                exact (k9 q f hq).toF fun y i hy => .inr (.inl (k7 q y hy))
            | sha =>
              obtain ⟨A,C',k1,k2,k3⟩:=hroot.1
              rw [q1] at k1
              simp only [Value.slice.injEq] at k1
              obtain ⟨rfl,_,rfl⟩:=k1
              rcases k3 with ⟨k3,_⟩ | ⟨b',off',arr',k3,k4,k5,k6,k9⟩
              · cases k3
              · simp only [Option.some.injEq, Addr.mk.injEq] at k3
                obtain ⟨rfl,rfl,_⟩:=k3
                exact (k9 q f hq).stable (fun _ _ h => .inl h) (fun _ _ _ _ h => h)
            | frt => cases how
            | jnk jl jh => cases how
            | fro => cases how
           have hF'w:∀ y q u,(F y q∨(S1 pr (pk+1) y∧y≠b)∨∃ k',S1 s1.length k' y)→cellAt w y q=some u→cellAt w' y q=some u:=fun y q u hF hq => by
            rw [cellAt_of_heap (hw.heap y fun e => hnb q (e ▸ hF))]; exact hq
           refine ⟨some ⟨b,off,none⟩,C,by rw [List.length_set]; exact q1,by rw [List.length_set]; exact q2,.inr ⟨b,off,_,rfl,rfl,n2, ?_,fun j' f hf => ?_⟩⟩
           · have := rowOf_length (old := arr.toList) (us := us) (o := off + j * T.size + o) (by simp; omega)
             simp only [List.size_toArray,this,Array.length_toList]
             exact q5
           · rw [get_set hxj] at hf
             split at hf
             · rename_i ej
               subst ej
               obtain rfl:=Option.some.inj hf
               refine (RepF.setLs ((hel he).stable (fun _ _ h => h) hF'w) he' hvl fun k l u hl' hu' => ?_).congr fun i hi => cv1 i hi
               exact (hleafw k l u hl' hu').frz (setLs_kind he' l (List.mem_of_getElem? hl')) (fun _ _ h => .inl h) (fun y i hy => .inr (.inr ⟨_,hy⟩))
             · rename_i ej
               exact ((hel hf).stable (fun _ _ h => h) hF'w).congr fun i hi => cv2 j' (fun e => ej e.symm) i hi
         · rintro y rfl i hi
           exact hnb i hi
     · exact (M.fail_some hx).elim
theorem shiftL_val {T : Ty} {e : T.C} {p : Pl} {j' q : Nat} {l : L} (hs : shiftL p j' q l (T.getL .deep e q) = true) {u : Value} {cs : Nat → Value} {S0 : BS} (hr : RepD w T e cs S0)
 (hk:OL st vals B F w l u) (hlink:∀ (t:Ty) (y:List t.C),T.getL .deep e q=some (.d .deep (.sl t) y)→l=.lent ⟨p.r,p.k,some (j',q)⟩ none→u=cs q):u=cs q:=by
 have getI:∀ {T:Ty} {e:T.C} {q:Nat} {cs:Nat→Value} {S0:BS} {l':L},RepD w T e cs S0→T.getL .deep e q=some l'→(∀ k x,l'=.d .fro (.int k) x→cs q=.int k x)∧(∀ x,l'=.d .fro .bool x→cs q=.bool x)∧((∃ k x,l'=.d .fro (.int k) x)∨(∃ x,l'=.d .fro .bool x)∨∃ t,∃ y:List t.C,l'=.d .deep (.sl t) y):=by
  intro T
  induction T with
  | int k =>
    intro e q cs S0 l' hr hg
    cases q with
    | zero =>
      simp only [Ty.getL,Option.some.injEq] at hg
      subst hg
      refine ⟨fun k' x h => ?_,fun x h => ?_,.inl ⟨_,_,rfl⟩⟩
      · simp only [L.d.injEq, Ty.int.injEq, true_and] at h
        obtain ⟨rfl,h⟩:=h
        cases h
        exact hr
      · simp at h
    | succ q => simp [Ty.getL] at hg
  | bool =>
    intro e q cs S0 l' hr hg
    cases q with
    | zero =>
      simp only [Ty.getL,Option.some.injEq] at hg
      subst hg
      refine ⟨fun k' x h => ?_,fun x h => ?_,.inr (.inl ⟨_,rfl⟩)⟩
      · simp at h
      · simp only [L.d.injEq, true_and] at h
        cases h
        exact hr
    | succ q => simp [Ty.getL] at hg
  | sl t =>
    intro e q cs S0 l' hr hg
    cases q with
    | zero =>
      simp only [Ty.getL,Option.some.injEq] at hg
      subst hg
      exact ⟨fun k' x h => by simp at h,fun x h => by simp at h,.inr (.inr ⟨_,_,rfl⟩)⟩
    | succ q => simp [Ty.getL] at hg
  | pair a b iha ihb =>
    intro e q cs S0 l' hr hg
    simp only [RepD] at hr
    obtain ⟨Sa,Sb,h1,h2,h3,ha,hb⟩:=hr
    simp only [Ty.getL] at hg
    split at hg
    · exact iha ha hg
    · have := ihb hb hg
      rwa [show a.size+(q - a.size)=q by omega] at this
  | unit => intro e q cs S0 l' hr hg; cases q <;> simp [Ty.getL] at hg
 unfold shiftL at hs
 split at hs
 · cases hs
 · rename_i o0 t0 y0 hg
   split at hs
   · rename_i r k j i
     simp only [Bool.and_eq_true,decide_eq_true_eq] at hs
     obtain ⟨h1,h2,h3,h4⟩:=hs
     obtain rfl:=Nat.eq_of_beq_eq_true h1
     obtain rfl:=Nat.eq_of_beq_eq_true h2
     obtain rfl:=Nat.eq_of_beq_eq_true h3
     obtain rfl:=h4
     have:o0=.deep:=getL_fl' hg
     subst this
     exact hlink t0 y0 hg rfl
   · cases hs
 · rename_i l' hn hg
   obtain ⟨g1,g2,g3⟩:=getI hr hg
   rcases g3 with ⟨k,x,rfl⟩ | ⟨x,rfl⟩ | ⟨t,y,rfl⟩
   · rw [g1 k x rfl]
     cases l with
     | d o T0 x0 =>
       cases T0 with
       | int k0 =>
         simp only [sameLf,Bool.and_eq_true,decide_eq_true_eq] at hs
         obtain ⟨rfl,rfl⟩:=hs
         exact LRep.intVal hk.1
       | _ => simp [sameLf] at hs
     | _ => simp [sameLf] at hs
   · rw [g2 x rfl]
     cases l with
     | d o T0 x0 =>
       cases T0 with
       | bool =>
         simp only [sameLf,decide_eq_true_eq] at hs
         obtain rfl:=hs
         exact LRep.boolVal hk.1
       | _ => simp [sameLf] at hs
     | _ => simp [sameLf] at hs
   · exact absurd rfl (hn _ _ _)
theorem shiftLs_at {p : Pl} {j' : Nat} {T : Ty} {e : T.C} : ∀ {ls : List L} {q k : Nat} {l : L}, shiftLs p j' T e q ls = true → ls[k]? = some l → shiftL p j' (q + k) l (T.getL .deep e (q + k)) = true
 | [],q,k,l,_,h => by simp at h
 | x::ls,q,0,l,hs,h => by
   simp only [shiftLs,Bool.and_eq_true] at hs
   simp at h
   subst h
   exact hs.1
 | x::ls,q,k+1,l,hs,h => by
   simp only [shiftLs,Bool.and_eq_true] at hs
   have:=shiftLs_at hs.2 (k:=k) (by simpa using h)
   rwa [show q+1+k=q+(k+1) by omega] at this
theorem shiftElem_ok (hE : EnvOK P E) (h : Rl G [] st a w vals B F S) {t : TypeId} {ti : TI} (ht : E.ti t = some ti) {p : Pl} {j j' : Nat} {ls : List L} {us : List Value} {pv v : Value}
 (hp:OL st vals B F w (.eptr p j 0) pv) (hps:p.sub=none) (hols:Ols st vals B F w ls us) (hone:Ones us) (hv:v.cells=us.toArray) (hn:ls.length=ti.n) {u:Unit} (hx:(shiftElem p j j' ls).exec st=some (u,st')) :
 ∃ w',(Instr.storeAt t pv v).run P w=.ok () w'∧Rel G [] st' a w':=by
 obtain ⟨pr,pk,ps⟩:=p
 simp only at hps
 subst hps
 unfold shiftElem at hx
 replace hx:=M.bind_some hx
 obtain ⟨l0,s1,h1,hx⟩:=hx
 obtain ⟨e1,c,hc,hfr,hl⟩:=rootL_ok h1
 rw [e1] at hx
 simp only at hc hl hx
 replace hx:=M.bind_some hx
 obtain ⟨qe,s1',h1',hx⟩:=hx
 obtain ⟨c9,l9,hc9,hl9,rfl,e1'⟩:=M.leafAt_some h1'
 rw [e1'] at hx
 rw [hc] at hc9
 obtain rfl:=Option.some.inj hc9
 replace hx:=M.bind_some hx
 obtain ⟨_,s1'',h1'',hx⟩:=hx
 obtain ⟨hes,e1''⟩:=M.must_some h1''
 rw [e1''] at hx
 have hes:esAt c.es pk=0:=Nat.eq_of_beq_eq_true hes
 split at hx
 · rename_i fl0 T x
   obtain ⟨q,s2,h2,hx⟩:=M.bind_some hx
   obtain ⟨hq,e2⟩:=M.opt_some h2
   rw [e2] at hx
   obtain ⟨_,s3,h3,hx⟩:=M.bind_some hx
   obtain ⟨hj1,e3⟩:=M.must_some h3
   rw [e3] at hx
   obtain ⟨_,s4,h4,hx⟩:=M.bind_some hx
   obtain ⟨hj2,e4⟩:=M.must_some h4
   rw [e4] at hx
   obtain ⟨_,s5,h5,hx⟩:=M.bind_some hx
   obtain ⟨hj3,e5⟩:=M.must_some h5
   rw [e5] at hx
   obtain ⟨_,s6,h6,hx⟩:=M.bind_some hx
   obtain ⟨hlen,e6⟩:=M.must_some h6
   rw [e6] at hx
   replace hx:=M.bind_some hx
   obtain ⟨f0,s7,h7,hx⟩:=hx
   obtain ⟨hf0,e7⟩:=M.nth_some h7
   rw [e7] at hx
   replace hx:=M.bind_some hx
   obtain ⟨e,s8,h8,hx⟩:=hx
   obtain ⟨he,e8⟩:=M.nth_some h8
   rw [e8] at hx
   obtain ⟨_,s9,h9,hx⟩:=M.bind_some hx
   obtain ⟨hsh,e9⟩:=M.must_some h9
   rw [e9] at hx
   obtain ⟨c',hc',hlt,rfl⟩:=M.writeS_some hx
   rw [hc] at hc'
   obtain rfl:=Option.some.inj hc'
   have hj1:=of_decide_eq_true hj1
   have hj2:=of_decide_eq_true hj2
   have hj3:=of_decide_eq_true hj3
   have hlen:=Nat.eq_of_beq_eq_true hlen
   obtain ⟨lo,hi⟩:=q
   simp only at hj1 hj3
   subst hj1
   have hxj:=get_lt hf0
   obtain ⟨hv0,hu⟩:=h.val_at hc hl
   have hroot:=(h.leaf _ _ _ _ _ hc hl hu).1
   have hno:fl0≠.fro:=by intro e; subst e; simp [Fl.junk] at hq
   have hbox:=h.box_false hc hl hno
   have hrj:RepJ w T x lo hi hv0 (S pr (pk+1))∧NoF F (S pr (pk+1)):=by
    cases fl0 with
    | deep =>
      obtain ⟨⟨A,C,k1,k2,k3⟩,k4⟩:=hroot
      refine ⟨⟨A,C,k1,k2,k3.imp id ?_⟩,k4⟩
      rintro ⟨b,off,arr,g1,g2,g3,g4,Ss,g5,g6,g7⟩
      exact ⟨b,off,arr,g1,g2,g3,g4,Ss,g5,fun j j' y hne _ _ => g6 j j' y hne,g7⟩
    | jnk jl jh =>
      simp only [Fl.junk,Option.some.injEq,Prod.mk.injEq] at hq
      obtain ⟨rfl,rfl⟩:=hq
      exact hroot
    | _ => simp [Fl.junk] at hq
   obtain ⟨⟨A,C,q1,q2,q3⟩,hnoF⟩:=hrj
   rcases q3 with ⟨_,q3⟩ | ⟨b,off,arr,rfl,hSb,hblk,hsz,Ss,k7,k8,k9⟩
   · omega
   have hFb:∀ i,¬ F b i:=fun i => hnoF b hSb i
   have hfr0:Fresh c ⟨pr,pk,none⟩:=hfr
   -- the pointer
   have hpl:(place ⟨pr,pk,none⟩).exec st=some (.d fl0 (.sl T) x,st):=place_of hc hfr0 hl rfl
   obtain ⟨_,c2,o2,t2,x2,hv2,heq,hp2⟩:=placed h hpl
   simp only [L.d.injEq,Ty.sl.injEq] at heq
   obtain ⟨rfl,rfl,heq⟩:=heq
   cases heq
   obtain ⟨_,hu2⟩:=hp2.root rfl
   simp only at hu2
   rw [hu] at hu2
   obtain rfl:=Option.some.inj hu2
   have hpv:pv=.pointer (some ⟨b,off+lo * T.size+0,none⟩):=by
    rcases hp.2 with ⟨c3,hc3,hturn⟩ | ⟨t3,n3,b3,off3,C3,hd3,_,hpv⟩
    · rw [hc] at hc3
      obtain rfl:=Option.some.inj hc3
      exact absurd hturn (hfr0.no (by simp only; rw [hl]; simp))
    · obtain ⟨rfl, _, hvv⟩ := hp2.hd.uniq hd3
      rw [q1] at hvv
      simp only [Value.slice.injEq,Option.some.injEq,Addr.mk.injEq] at hvv
      obtain ⟨⟨rfl,rfl,_⟩,_⟩:=hvv
      exact hpv
   subst hpv
   have hul:us.length=ti.n:=by rw [hols.length,hn]
   have hulT:us.length=T.size:=by rw [hols.length,hlen]
   have hjC:lo<C:=by omega
   have hjn:lo * T.size+T.size≤C * T.size:=by
    have:=Nat.mul_le_mul_right T.size (show lo+1≤C by omega)
    rwa [Nat.succ_mul] at this
   -- what is written is what element j' has
   have hus:∀ i,i<T.size→us.getD i undef=cv w b (off+j' * T.size) i:=by
    intro i hi0
    have hui:us[i]?=some (us[i]'(by omega)):=by simp [show i<us.length by omega]
    have hli:ls[i]?=some (ls[i]'(by omega)):=by simp [show i<ls.length by omega]
    have hs0:=shiftLs_at hsh hli
    rw [Nat.zero_add] at hs0
    rw [List.getD_eq_getElem?_getD,hui,Option.getD_some]
    refine shiftL_val hs0 (k9 j' e he) (hols.get hli hui) fun t y hg hll => ?_
    have hk:=(hols.get hli hui).2
    rw [hll] at hk
    rcases hk with ⟨c3,hc3,hturn⟩ | ⟨t3,n3,hv3,hd3,hr3⟩
    · simp only at hc3
      rw [hc] at hc3
      obtain rfl:=Option.some.inj hc3
      exfalso
      rcases hturn with h0 | h0 | h0 | ⟨_,_,h0⟩
      · rw [hfr.1] at h0; cases h0
      · rw [hfr.2.1] at h0; cases h0
      · simp only at h0; rw [hl] at h0; simp at h0
      · simp only at h0; rw [hes] at h0; simp at h0
    · simp only [Resl] at hr3
      rw [hr3]
      obtain ⟨c4,o4,t4,x4,h4',m1,m2,m3,m4⟩:=hd3
      simp only at m1 m2 m3
      rw [hc] at m1
      obtain rfl:=Option.some.inj m1
      obtain ⟨rfl,rfl,hxm2⟩:=RowL.inj (.inl hl) m2
      obtain rfl:=eq_of_heq hxm2
      rw [hu] at m3
      obtain rfl:=Option.some.inj m3
      obtain ⟨e5,o5,y5,b5,off5,C5,n1,n2,n3',n4,n5⟩:=m4
      rw [q1] at n4
      simp only [Value.slice.injEq,Option.some.injEq,Addr.mk.injEq] at n4
      obtain ⟨⟨rfl,rfl,_⟩,_⟩:=n4
      exact n5
   obtain ⟨n1,n2⟩:=store_run (old:=arr.toList) (o:=off+lo * T.size+0) hE ht (by simpa using hblk) hv hul (by simp; omega) hone
   refine ⟨_,n1, ?_⟩
   generalize hw':w.setRow b (rowOf arr.toList (off+lo * T.size+0) us).toArray=w' at n2
   have hw:OnlyAt w w' b:=by rw [← hw']; exact only_setRow _ _ _
   obtain ⟨cv1,cv2⟩:=cv_row (us:=us) hblk n2 (by omega) hjC hsz
   have hx2:x.set lo e=x.set lo e:=rfl
   refine (h.absorb (o':=.jnk (lo+1) (j'+1)) (x':=x.set lo e) (X:=S pr (pk+1)) (F':=F) (e:=allE) hc (.inl hl) hu q1 hbox (by simp) hSb hw hFb ⟨.all _ (by simp),fun _ i _ _ _ _ _ hcol => by rw [testBit_allE] at hcol; cases hcol⟩ (fun y hy => .inl hy) (fun _ _ h => h) (fun _ _ h => .inl h) ⟨?_,hnoF⟩).rel
   refine ⟨some ⟨b,off,none⟩,C,by rw [List.length_set]; exact q1,by rw [List.length_set]; exact q2,.inr ⟨b,off,_,rfl,hSb,n2, ?_,fun q => if q=lo then Ss j' else Ss q,fun q y hy => ?_,fun q q' y hne g1 g2 hy hy' => ?_,fun q f hf => ?_⟩⟩
   · have := rowOf_length (old := arr.toList) (us := us) (o := off + lo * T.size + 0) (by simp; omega)
     simp only [List.size_toArray,this,Array.length_toList]
     exact hsz
   · dsimp only at hy
     split at hy
     · exact k7 _ y hy
     · exact k7 _ y hy
   · dsimp only at hy hy'
     split at hy <;> split at hy'
     · omega
     · exact k8 j' q' y (by omega) (by omega) (by omega) hy hy'
     · exact k8 q j' y (by omega) (by omega) (by omega) hy hy'
     · exact k8 q q' y hne (by omega) (by omega) hy hy'
   · have st1 : ∀ {q f}, x[q]? = some f → RepD w' T f (cv w b (off + q * T.size)) (Ss q) := fun hq => (k9 _ _ hq).stable fun y hy => hw.heap y (k7 _ y hy).2
     rw [get_set hxj] at hf
     dsimp only
     split at hf
     · rename_i ej
       subst ej
       obtain rfl:=Option.some.inj hf
       rw [if_pos rfl]
       refine (st1 he).congr fun i hi0 => ?_
       rw [cv1 i hi0]
       simp only [updN]
       rw [if_pos (by omega),Nat.sub_zero]
       exact hus i hi0
     · rename_i ej
       rw [if_neg (fun e => ej e.symm)]
       exact (st1 hf).congr fun i hi0 => cv2 q (fun e => ej e.symm) i hi0
 · exact (M.fail_some hx).elim
theorem shiftOf_sub {p : Pl} : ∀ {ls : List L} {j' : Nat}, shiftOf p ls = some j' → p.sub = none
 | [],j',h => by simp [shiftOf] at h
 | l::ls,j',h => by
   unfold shiftOf at h
   split at h
   · rename_i heq; cases heq
   · rename_i r k j i rest heq
     cases hb:Nat.beq r p.r && (Nat.beq k p.k && p.sub.isNone) with
     | false => rw [hb] at h; cases h
     | true =>
       simp only [Bool.and_eq_true] at hb
       simpa using hb.2.2
   · rename_i heq
     simp only [List.cons.injEq] at heq
     obtain ⟨rfl,rfl⟩:=heq
     exact shiftOf_sub h
theorem store_ok (hE : EnvOK P E) (h : Rl G [] st a w vals B F S) {soft : Bool} {o : Oper} {t : TypeId} {x y : Operand} (ho : o.op = .store t x y)
 (hx:(do M.check o.dst.isNone; let ti ← M.opt (E.ti t); let v ← opnd E t y; storeV soft ti (← opnd1 E 0 x) v:M Unit).exec st=some ((),st')) :
 OpOK P o a w fun a' w' => Rel G [] st' a' w':=by
 obtain ⟨_,s1,h1,hx⟩:=M.bind_some hx
 obtain ⟨hd,e1⟩:=M.must_some h1
 rw [e1] at hx
 obtain ⟨ti,s2,h2,hx⟩:=M.bind_some hx
 obtain ⟨hti,e2⟩:=M.opt_some h2
 rw [e2] at hx
 obtain ⟨v,s3,h3,hx⟩:=M.bind_some hx
 obtain ⟨e3,us,k1,k2,k3⟩:=opnd_ok h h3
 rw [e3] at hx
 obtain ⟨l,s4,h4,hx⟩:=M.bind_some hx
 obtain ⟨e4,hl⟩:=opnd1_ok h h4
 rw [e4] at hx
 unfold storeV at hx
 obtain ⟨_,s5,h5,hx⟩:=M.bind_some hx
 obtain ⟨htup,e5⟩:=M.must_some h5
 rw [e5] at hx
 obtain ⟨_,s6,h6,hx⟩:=M.bind_some hx
 obtain ⟨hn,e6⟩:=M.must_some h6
 rw [e6] at hx
 have hn:v.ls.length=ti.n:=by simpa using hn
 have hv:(a.eval y).cells=us.toArray:=by
  cases hsh:v.sh with
  | one =>
    rw [hsh] at k2
    simp only [VR] at k2
    subst k2
    have h1:=k3 _ (List.mem_singleton.2 rfl)
    generalize a.eval y=z at h1
    cases z <;> first | rfl | cases h1
  | agg => rw [hsh] at k2; simp only [VR] at k2; rw [k2]; rfl
  | tup ns => rw [hsh] at htup; cases htup
  | clo f => rw [hsh] at htup; cases htup
 have fin:(∃ w',(Instr.storeAt t (a.eval x) (a.eval y)).run P w=.ok () w'∧Rel G [] st' a w')→OpOK P o a w fun a' w' => Rel G [] st' a' w':=by
  rintro ⟨w',r1,r2⟩
  exact op_skip (w':=w') (by rw [execOp,ho]; simp [r1]) (by simpa using hd) r2
 split at hx
 · exact fin (storePtr_ok hE h hti hl k1 k3 hv hn hx)
 · split at hx
   · rename_i hso
     obtain ⟨_,s7,h7,hx⟩:=M.bind_some hx
     obtain ⟨ho0,e7⟩:=M.must_some h7
     rw [e7] at hx
     have ho0:=Nat.eq_of_beq_eq_true ho0
     subst ho0
     exact fin (shiftElem_ok hE h hti hl (shiftOf_sub hso) k1 k3 hv hn hx)
   · exact fin (storeElem_ok hE h hti hl k1 k3 hv hn hx)
 · exact (M.fail_some hx).elim
end
end GoV

/- Appending: the machine's part. -/
namespace GoV
open Go
section
variable {G:Ctx} {fl:List (L × Value)} {st st' s s' ex:St} {a:Act} {w w':World} {vals vals':VS} {B B':Nat→Nat} {F F':FS} {S:Nat→Nat→BS} {E:Env} {P:Program}

structure Row (w : World) (size n : Nat) (bv : Value) (olds : List Value) : Prop where
 len:olds.length=n * size
 at_:(bv=.slice none 0 0∧n=0)∨∃ b o c arr,bv=.slice (some ⟨b,o,none⟩) n c∧n≤c∧Blk w b arr∧o+c * size≤arr.size∧∀ k,k<n * size→cellAt w b (o+k)=olds[k]?
structure Grown (w w' : World) (size n m : Nat) (bv v : Value) (all : List Value) : Prop where
 at_ : ∃ b o c arr, v = .slice (some ⟨b, o, none⟩) (n + m) c ∧ n + m ≤ c ∧ Blk w' b arr ∧ o + c * size ≤ arr.size ∧ (∀ k, k < (n + m) * size → cellAt w' b (o + k) = all[k]?) ∧
  ((∃ c0,bv=.slice (some ⟨b,o,none⟩) n c0∧OnlyAt w w' b)∨(b=w.heap.size∧∃ ob,w'=w.drew.alloc ob))
theorem append_run {t ty e : TypeId} {q : TypeInfo} {z : Value} (hu : P.underlying t = some (.slice e)) (hi : P.info? e = some q) (hz : q.zero = some z) (hzs : z.cells.size = q.size) (hq0 : 0 < q.size) (hb : q.bytes ≤ 4096)
 {n m c2:Nat} {bv:Value} {olds news:List Value} (hrow:Row w q.size n bv olds) {a2:Addr} (hl:news.length=m * q.size) (hnews:∀ (j:Nat) (u:Value),news[j]?=some u→w.cell? (a2.add j)=some u) (h1:Ones news) (hm:0<m) (hbig:n+m≤most) :
 ∃ v w',(Builtin.append_ #[t,t] ty #[bv,.slice (some a2) m c2]).run P w=.ok v w'∧Grown w w' q.size n m bv v (olds ++ news):=by
 simp only [most] at hbig
 have hlen:(olds ++ news).length=(n+m) * q.size:=by rw [List.length_append,hrow.len,hl,Nat.add_mul]
 have hbytes:(n+m) * q.bytes≤140737488355328:=by
  have:(n+m) * q.bytes≤4294967296 * 4096:=Nat.mul_le_mul hbig hb
  omega
 have new : ∀ (old : Nat) (v : Value), v = .slice (some ⟨w.heap.size, 0, none⟩) (n + m) (grownCap w (n + m) old e) →
  Grown w (w.drew.alloc (.cells (olds.toArray ++ news.toArray ++ Builtin.zeroCells z.cells (grownCap w (n+m) old e - (n+m))) e)) q.size n m bv v (olds ++ news):=by
  rintro old v rfl
  have hge:=grownCap_ge w (n+m) old e
  have hblk:Blk (w.drew.alloc (.cells (olds.toArray ++ news.toArray ++ Builtin.zeroCells z.cells (grownCap w (n+m) old e - (n+m))) e)) w.heap.size (olds.toArray ++ news.toArray ++ Builtin.zeroCells z.cells (grownCap w (n+m) old e - (n+m))):=blk_alloc w.drew _ e
  refine ⟨_,0,_,_,rfl,hge,hblk, ?_,fun k hk => ?_,.inr ⟨rfl,_,rfl⟩⟩
  · simp only [Array.size_append, List.size_toArray, size_zeroCells, hzs, hrow.len, hl, ← Nat.add_mul]
    rw [Nat.zero_add]
    apply Nat.le_of_eq
    congr 1
    omega
  · rw [Nat.zero_add, cellAt_blk hblk]
    rw [Array.getElem?_append_left (by simp only [Array.size_append,List.size_toArray]; rw [← List.length_append,hlen]; exact hk)]
    simp
 rcases hrow.at_ with ⟨rfl,rfl⟩ | ⟨b,o,c,arr,rfl,hnc,hblk,hfit,hcells⟩
 · have ho : olds = [] := List.eq_nil_of_length_eq_zero (by rw [hrow.len]; simp)
   subst ho
   have hr:=run_append_nil (P:=P) w t ty e q z hu hi hz a2 m c2 news hl hnews hm (by omega) (by simp only [Nat.zero_add] at hbytes; omega)
   refine ⟨_,_,hr, ?_⟩
   have:=new 0 _ rfl
   simpa using this
 · by_cases hroom : n + m ≤ c
   · obtain ⟨ty0, hg⟩ := hblk
     have hst:=run_storeCells_at (P:=P) b (o+n * q.size) ty0 news 0 arr w hg (by
        have:(n+m) * q.size≤c * q.size:=Nat.mul_le_mul_right _ hroom
        rw [Nat.add_mul] at this
        simp only [Nat.add_zero]
        omega) h1
     simp only [Nat.add_zero] at hst
     have hf:=run_firstCells_some (P:=P) w q.size m a2 m c2 news hl hnews
     have hfit2:o+n * q.size+news.length≤arr.toList.length:=by
        have:(n+m) * q.size≤c * q.size:=Nat.mul_le_mul_right _ hroom
        rw [Nat.add_mul] at this
        simp only [Array.length_toList]
        omega
     have hblk':Blk (w.setRow b (rowOf arr.toList (o+n * q.size) news).toArray) b (rowOf arr.toList (o+n * q.size) news).toArray:=⟨ty0,setRow_heap w b arr _ ty0 _ hg⟩
     refine ⟨.slice (some ⟨b,o,none⟩) (n+m) c,w.setRow b (rowOf arr.toList (o+n * q.size) news).toArray, ?_,b,o,c,_,rfl,hroom,hblk', ?_,fun k hk => ?_,.inl ⟨c,rfl,only_setRow _ _ _⟩⟩
     · have hadd : (⟨b, o, none⟩ : Addr).add (n * q.size) = ⟨b, o + n * q.size, none⟩ := add_addr _ _ _
       have hst':(storeCells ⟨b,o+n * q.size,none⟩ news).run P w=.ok () (w.setRow b (rowOf arr.toList (o+n * q.size) news).toArray):=by simpa [rowOf] using hst
       simp [Builtin.append_,underlying_run hu,Go.sizeOf,typeInfo,hi,Builtin.lenOf,hroom,hf,hadd,hst']
     · have := rowOf_length hfit2
       simp only [List.size_toArray,this,Array.length_toList]
       exact hfit
     · rw [cellAt_blk hblk']
       have:=rowOf_get (k:=o+k) hfit2
       simp only [List.getElem?_toArray]
       rw [this]
       by_cases hk2:k<n * q.size
       · rw [if_neg (by omega), List.getElem?_append_left (by rw [hrow.len]; exact hk2), ← hcells k hk2, cellAt_blk ⟨ty0, hg⟩]
         simp
       · rw [Nat.add_mul] at hk
         rw [if_pos (by omega),List.getElem?_append_right (by rw [hrow.len]; omega),hrow.len]
         congr 1
         omega
   · have hr:=run_append_grow (P:=P) w t ty e q z hu hi hz ⟨b,o,none⟩ n c olds hrow.len (fun j u hj => by
      have hlt:=get_lt hj
      rw [hrow.len] at hlt
      rw [add_addr]
      exact (hcells j hlt).trans hj) a2 m c2 news hl hnews (by omega) (by omega) (growslice_fits (by omega) hbytes)
     exact ⟨_,_,hr,new c _ rfl⟩
theorem append_none {t ty e : TypeId} {q : TypeInfo} (hu : P.underlying t = some (.slice e)) (hi : P.info? e = some q) {n c : Nat} {A A2 : Option Addr} {c2 : Nat} (hnc : n ≤ c) :
 (Builtin.append_ #[t,t] ty #[.slice A n c,.slice A2 0 c2]).run P w=.ok (.slice A n c) w:=by
 cases A <;> cases A2 <;> simp [Builtin.append_,underlying_run hu,Go.sizeOf,typeInfo,hi,Builtin.lenOf,Builtin.firstCells,hnc,storeCells,loadCells,loadCellsFrom]
end
end GoV

/- Appending: slots and memory. -/
namespace GoV
open Go
section
variable {G:Ctx} {fl:List (L × Value)} {st st' s s' ex:St} {a:Act} {w w':World} {vals vals':VS} {B B':Nat→Nat} {F F' F1:FS} {S:Nat→Nat→BS} {E:Env} {P:Program}

def FreeB (G:Ctx) (w:World) (S:Nat→Nat→BS) (b:Nat):Prop:=b<w.heap.size∧¬ G.U b∧(b<G.w0.heap.size→G.SA b)∧∀ i k,¬ S i k b
theorem Rl.growRow (h : Rl G fl s a w vals B F S) {size n m : Nat} {bv v : Value} {all : List Value} (hg : Grown w w' size n m bv v all) (hup : ∀ y i, F y i → F1 y i) (hto : ∀ y i, F1 y i → F y i ∨ ∃ k, S s.length k y)
 (hown:∀ b o c,bv=.slice (some ⟨b,o,none⟩) n c→(∃ k,S s.length k b)∧∀ i,¬ F1 b i) :
 ∃ S1, Rl G [] s a w' vals B F1 S1 ∧ (∀ b o c, v = .slice (some ⟨b, o, none⟩) (n + m) c → FreeB G w' S1 b ∧ ∀ i, ¬ F1 b i) ∧ (∀ y k, S s.length k y → FreeB G w' S1 y) ∧
   (∀ y k,S s.length k y→(∀ b o c,bv=.slice (some ⟨b,o,none⟩) n c→y≠b)→w'.heap[y]?=w.heap[y]?)∧(∀ y q u,F1 y q→cellAt w y q=some u→cellAt w' y q=some u):=by
 have hm:=h.merge (F':=F1) (X:=fun _ => False) (l:=.dead) (u:=undef) (fun _ hb => hb.elim) hup (fun y i hy => (hto y i hy).elim .inl fun h => .inr (.inl h)) trivial trivial
 have hd:=hm.drop
 generalize hS1:(fun i k => if i=s.length then (if k=1 then fun _ => False else fun _ => False) else S i k:Nat→Nat→BS)=S1 at hd
 have hS1':∀ {i k y},S1 i k y→i≠s.length∧S i k y:=by
  intro i k y hy
  rw [← hS1] at hy
  split at hy
  · split at hy <;> exact hy.elim
  · exact ⟨by assumption,hy⟩
 have hfree:∀ {y k},S s.length k y→FreeB G w S1 y:=fun hy => ⟨(h.sub _ _ _ hy).1,(h.sub _ _ _ hy).2.1,(h.sub _ _ _ hy).2.2,fun i k' hy' => h.disj _ _ _ _ _ (by simp; intro e; exact absurd e.symm (hS1' hy').1) hy (hS1' hy').2⟩
 obtain ⟨b,o,c,arr,rfl,hnc,hblk,hfit,hcells,hway⟩:=hg.at_
 rcases hway with ⟨c0,rfl,hw⟩ | ⟨rfl,ob,rfl⟩
 · obtain ⟨⟨k0, hk0⟩, hF1b⟩ := hown b o c0 rfl
   have hFw:∀ y q u,F1 y q→cellAt w y q=some u→cellAt w' y q=some u:=fun y q u hF hq => by
    rw [cellAt_of_heap (hw.heap y fun e => hF1b q (e ▸ hF))]; exact hq
   have hr:=hd.world (w':=w') hFw (fun i k y hy => hw.heap y fun e => by
        subst e
        exact (hfree hk0).2.2.2 i k hy) (fun y hy => hw.heap y fun e => by subst e; exact (hfree hk0).2.1 hy) hw.os hw.tape hw.out (by rw [hw.size]; exact Nat.le_refl _)
   have hfr:∀ y k,S s.length k y→FreeB G w' S1 y:=fun y k hy => ⟨by rw [hw.size]; exact (hfree hy).1,(hfree hy).2⟩
   refine ⟨S1,hr,fun b' o' c' e => ?_,hfr,fun y k hy hne => hw.heap y (hne b o c0 rfl),hFw⟩
   simp only [Value.slice.injEq,Option.some.injEq,Addr.mk.injEq] at e
   obtain ⟨⟨rfl,rfl,_⟩,_⟩:=e
   exact ⟨hfr _ _ hk0,hF1b⟩
 · have hr := (hd.drawn (w.drawn + 1)).alloc ob
   have hold:∀ y,y<w.heap.size→(w.drew.alloc ob).heap[y]?=w.heap[y]?:=fun y hy => RowKit.Below.heap_alloc w.drew ob y hy
   have hfr:∀ y k,S s.length k y→FreeB G (w.drew.alloc ob) S1 y:=fun y k hy => ⟨Nat.lt_of_lt_of_le (hfree hy).1 (by show w.heap.size≤(w.heap.push ob).size; simp),(hfree hy).2⟩
   refine ⟨S1,hr,fun b' o' c' e => ?_,hfr,fun y k hy _ => hold y (h.sub _ _ _ hy).1,fun y q u hF hq => ?_⟩
   · simp only [Value.slice.injEq, Option.some.injEq, Addr.mk.injEq] at e
     obtain ⟨⟨rfl,rfl,_⟩,_⟩:=e
     refine ⟨(hd.drawn (w.drawn+1)).fresh ob _ rfl,fun i hi => ?_⟩
     have:w.heap.size<w.heap.size:=(hd.fz _ i hi).1
     omega
   · rw [cellAt_of_heap (hold y (hd.fz y q hF).1)]
     exact hq
structure Els (w : World) (T : Ty) (ys : List T.C) (ev : Value) (R : Nat → T.C → (Nat → Value) → Prop) : Prop where
 at_:∃ A c,ev=.slice A ys.length c∧ys.length≤c∧(ys=[]∨∃ b o,A=some ⟨b,o,none⟩∧∀ (j:Nat) (y:T.C),ys[j]?=some y→(∀ i,i<T.size→∃ u,cellAt w b (o+j * T.size+i)=some u)∧R j y (cv w b (o+j * T.size)))
theorem Els.ofF {T:Ty} {ys:List T.C} {ev:Value} (h:RepF F w (.sl T) ys (fun _ => ev)):Els w T ys ev (fun _ y cs => RepF F w T y cs):=by
 obtain ⟨A,c,h1,h2,h3⟩:=h
 refine ⟨A,c,h1,h2,h3.imp id ?_⟩
 rintro ⟨b,o,hA,he⟩
 exact ⟨b,o,hA,fun j y hy => ⟨fun i hi => ((he j y hy).1 i hi).2,(he j y hy).2⟩⟩
theorem Els.ofD {T : Ty} {ys : List T.C} {ev : Value} {S0 : BS} (h : RepD w (.sl T) ys (fun _ => ev) S0) :
 ∃ Ss:Nat→BS,(∀ j y,Ss j y→S0 y)∧(∀ j j' y,j≠j'→Ss j y→¬ Ss j' y)∧Els w T ys ev (fun j y cs => RepD w T y cs (Ss j)):=by
 obtain ⟨A,c,h1,h2,h3⟩:=h
 rcases h3 with ⟨hA,hc⟩ | ⟨b,o,arr,hA,hS,hk,hs,Ss,k1,k2,he⟩
 · exact ⟨fun _ _ => False,fun _ _ h => h.elim,fun _ _ _ _ h => h.elim,A,c,h1,h2,.inl (List.eq_nil_of_length_eq_zero (by omega))⟩
 · refine ⟨Ss, fun j y hy => (k1 j y hy).1, k2, A, c, h1, h2, .inr ⟨b, o, hA, fun j y hy => ⟨fun i hi => ?_, he j y hy⟩⟩⟩
   have:=mul_lt_of (get_lt hy) h2 hi
   rw [Nat.add_assoc]
   exact cellAt_lt hk (by omega)
theorem RepF.flatD:∀ {T:Ty} {x:T.C} {cs:Nat→Value},T.flat=true→RepF F w T x cs→RepD w' T x cs (fun _ => False):=by
 intro T
 induction T with
 | int k => intro x cs _ h; exact h
 | bool => intro x cs _ h; exact h
 | sl t => intro x cs hf; cases hf
 | pair p q ihp ihq =>
   intro x cs hf h
   simp only [Ty.flat,Bool.and_eq_true] at hf
   exact ⟨fun _ => False,fun _ => False,fun _ h => h,fun _ h => h,fun _ h => h.elim,ihp hf.1 h.1,ihq hf.2 h.2⟩
 | unit => intros; trivial
theorem RepF.flatF {T:Ty} {x:T.C} {cs:Nat→Value} (hf:T.flat=true) (h:RepF F w T x cs):RepF F' w' T x cs:=(h.flatD (w':=w') hf).toF fun _ _ h => h.elim
theorem RepF.ones:∀ {T:Ty} {x:T.C} {cs:Nat→Value},RepF F w T x cs→∀ i,i<T.size→(cs i).oneCell'=true:=by
 intro T
 induction T with
 | int k => intro x cs h i hi; simp only [Ty.size] at hi; obtain rfl : i = 0 := by omega
            have h':cs 0=.int k x:=h
            rw [h']; rfl
 | bool => intro x cs h i hi; simp only [Ty.size] at hi; obtain rfl : i = 0 := by omega
           have h':cs 0=.bool x:=h
           rw [h']; rfl
 | sl t => intro x cs h i hi; simp only [Ty.size] at hi; obtain rfl : i = 0 := by omega
           obtain ⟨A,c,h',_⟩:=h
           rw [h']; rfl
 | pair p q ihp ihq =>
   intro x cs h i hi
   simp only [Ty.size] at hi
   by_cases e:i<p.size
   · exact ihp h.1 i e
   · have := ihq h.2 (i - p.size) (by omega)
     rwa [show p.size+(i - p.size)=i by omega] at this
 | unit => intro x cs _ i hi; simp [Ty.size] at hi
theorem RepD.ones {T:Ty} {x:T.C} {cs:Nat→Value} {S0:BS} (h:RepD w T x cs S0):∀ i,i<T.size→(cs i).oneCell'=true:=(h.toF (F:=fun _ _ => True) fun _ _ _ => trivial).ones
def newsOf (w:World) (b o n:Nat):List Value:=(List.range n).map fun k => cv w b o k
theorem newsOf_get {b o n k:Nat} (h:k<n):(newsOf w b o n)[k]?=some (cv w b o k):=by simp [newsOf,h]
theorem newsOf_length {b o n:Nat}:(newsOf w b o n).length=n:=by simp [newsOf]
structure Base (w : World) (S : Nat → Nat → BS) (len : Nat) (F1 : FS) (T : Ty) (xs : List T.C) (bv : Value) (R : Nat → T.C → (Nat → Value) → Prop) : Prop where
 at_:∃ A c,bv=.slice A xs.length c∧xs.length≤c∧((A=none∧c=0)∨∃ b o arr,A=some ⟨b,o,none⟩∧(∃ k,S len k b)∧(∀ i,¬ F1 b i)∧Blk w b arr∧o+c * T.size≤arr.size∧∀ (j:Nat) (x:T.C),xs[j]?=some x→R j x (cv w b (o+j * T.size)))
theorem app_row (h : Rl G fl s a w vals B F S) {t ty e : TypeId} {q : TypeInfo} {z : Value} {T : Ty} (hu : P.underlying t = some (.slice e)) (hi : P.info? e = some q) (hz : q.zero = some z) (hzs : z.cells.size = q.size) (hqs : q.size = T.size) (hT0 : 0 < T.size) (hb : q.bytes ≤ 4096)
 {xs ys:List T.C} {bv ev:Value} {Rb Re:Nat→T.C→(Nat→Value)→Prop} (hbase:Base w S s.length F1 T xs bv Rb) (hels:Els w T ys ev Re) (hm:0<ys.length) (hbig:xs.length+ys.length≤most)
 (hone:∀ j y cs,Re j y cs→∀ i,i<T.size→(cs i).oneCell'=true) (hup:∀ y i,F y i→F1 y i) (hto:∀ y i,F1 y i→F y i∨∃ k,S s.length k y) :
 ∃ v w' S1, (Builtin.append_ #[t, t] ty #[bv, ev]).run P w = .ok v w' ∧ Rl G [] s a w' vals B F1 S1 ∧ (∀ y k, S s.length k y → FreeB G w' S1 y) ∧ (∀ y q u, F1 y q → cellAt w y q = some u → cellAt w' y q = some u) ∧
   (∀ y k,S s.length k y→(∀ b o c,bv=.slice (some ⟨b,o,none⟩) xs.length c→y≠b)→w'.heap[y]?=w.heap[y]?) ∧
   ∃ b o c arr, v = .slice (some ⟨b, o, none⟩) (xs ++ ys).length c ∧ (xs ++ ys).length ≤ c ∧ Blk w' b arr ∧ o + c * T.size ≤ arr.size ∧ FreeB G w' S1 b ∧ (∀ i, ¬ F1 b i) ∧ (∀ k, S s.length k b → ∃ o0 c0, bv = .slice (some ⟨b, o0, none⟩) xs.length c0) ∧
     ∀ (j:Nat) (x:T.C),(xs ++ ys)[j]?=some x→(j<xs.length∧∃ cs,Rb j x cs∧∀ i,i<T.size→cv w' b (o+j * T.size) i=cs i)∨(xs.length≤j∧∃ cs,Re (j - xs.length) x cs∧∀ i,i<T.size→cv w' b (o+j * T.size) i=cs i):=by
 obtain ⟨A2,c2,rfl,hc2,hel⟩:=hels.at_
 rcases hel with rfl | ⟨b2,o2,rfl,hel⟩
 · simp at hm
 obtain ⟨A,c0,rfl,hc0,hba⟩:=hbase.at_
 -- the old cells
 obtain ⟨olds,hrow,hold⟩:∃ olds,Row w q.size xs.length (.slice A xs.length c0) olds∧∀ b o,A=some ⟨b,o,none⟩→olds=newsOf w b o (xs.length * T.size):=by
  rcases hba with ⟨rfl,rfl⟩ | ⟨b,o,arr,rfl,_,_,hblk,hfit,_⟩
  · have hx : xs.length = 0 := by omega
    exact ⟨[],⟨by simp [hx],.inl ⟨by rw [hx],hx⟩⟩,fun _ _ e => by cases e⟩
  · refine ⟨newsOf w b o (xs.length * T.size), ⟨by rw [newsOf_length, hqs], .inr ⟨b, o, c0, arr, rfl, hc0, hblk, by rw [hqs]; exact hfit, fun k hk => ?_⟩⟩, fun b' o' e => by cases e; rfl⟩
    rw [hqs] at hk
    rw [newsOf_get hk]
    have:xs.length * T.size≤c0 * T.size:=Nat.mul_le_mul_right _ hc0
    obtain ⟨u,hu'⟩:=cellAt_lt hblk (show o+k<arr.size by omega)
    simp [cv,hu']
 have hdiv:∀ {k:Nat},k<ys.length * T.size→k / T.size<ys.length∧k=k / T.size * T.size+k % T.size∧k % T.size<T.size:=by
  intro k hk
  refine ⟨Nat.div_lt_of_lt_mul (by rw [Nat.mul_comm]; exact hk), ?_,Nat.mod_lt _ hT0⟩
  rw [Nat.mul_comm]
  exact (Nat.div_add_mod k T.size).symm
 have hnew:∀ {k:Nat},k<ys.length * T.size→cellAt w b2 (o2+k)=some (cv w b2 o2 k)∧(cv w b2 o2 k).oneCell'=true:=by
  intro k hk
  obtain ⟨h1,h2,h3⟩:=hdiv hk
  obtain ⟨h4,h5⟩:=hel (k / T.size) (ys[k / T.size]) (by simp [h1])
  obtain ⟨u,hu'⟩:=h4 (k % T.size) h3
  have h6:=hone _ _ _ h5 (k % T.size) h3
  have e1:o2+k / T.size * T.size+k % T.size=o2+k:=by omega
  rw [e1] at hu'
  have e2:cv w b2 (o2+k / T.size * T.size) (k % T.size)=cv w b2 o2 k:=by simp only [cv]; rw [e1]
  rw [e2] at h6
  exact ⟨by simp [cv,hu'],h6⟩
 obtain ⟨v,w',hrun,hg⟩:=append_run (ty:=ty) (c2:=c2) (a2:=⟨b2,o2,none⟩) (news:=newsOf w b2 o2 (ys.length * T.size)) hu hi hz hzs (by omega) hb hrow (by rw [newsOf_length,hqs]) (fun j u hj => by
  have hlt:=get_lt hj
  rw [newsOf_length] at hlt
  rw [newsOf_get hlt] at hj
  obtain rfl:=Option.some.inj hj
  rw [add_addr]
  exact (hnew hlt).1) (fun u hu' => by
  obtain ⟨k,hk⟩:=List.mem_iff_getElem?.1 hu'
  have hlt:=get_lt hk
  rw [newsOf_length] at hlt
  rw [newsOf_get hlt] at hk
  obtain rfl:=Option.some.inj hk
  exact (hnew hlt).2) hm hbig
 obtain ⟨S1,r1,r2,r3,r4,r5⟩:=h.growRow (F1:=F1) hg hup hto (fun b o c e => by
  rcases hba with ⟨rfl,_⟩ | ⟨b',o',arr,rfl,k1,k2,_⟩
  · simp at e
  · simp only [Value.slice.injEq, Option.some.injEq, Addr.mk.injEq] at e
    obtain ⟨⟨rfl,rfl,_⟩,_⟩:=e
    exact ⟨k1,k2⟩)
 refine ⟨v,w',S1,hrun,r1,r3,r5,r4, ?_⟩
 obtain ⟨b,o,c,arr,rfl,hnc,hblk,hfit,hcells,hway⟩:=hg.at_
 obtain ⟨f1,f2⟩:=r2 b o c rfl
 refine ⟨b,o,c,arr,by rw [List.length_append],by rw [List.length_append]; exact hnc,hblk,by rw [← hqs]; exact hfit,f1,f2,fun k hk => ?_,fun j x hj => ?_⟩
 · rcases hway with ⟨c1, e, _⟩ | ⟨rfl, _⟩
   · exact ⟨o,c1,e⟩
   · have := (h.sub _ _ _ hk).1
     omega
 · have hjl := get_lt hj
   rw [List.length_append] at hjl
   have hidx:∀ i,i<T.size→cv w' b (o+j * T.size) i=((olds ++ newsOf w b2 o2 (ys.length * T.size))[j * T.size+i]?).getD undef:=by
    intro i hi
    have:=mul_lt_of (c:=xs.length+ys.length) hjl (Nat.le_refl _) hi
    have:=hcells (j * T.size+i) (by rw [hqs]; exact this)
    simp only [cv]
    rw [Nat.add_assoc,this]
   have hol:olds.length=xs.length * T.size:=by rw [hrow.len,hqs]
   by_cases hjx:j<xs.length
   · rw [List.getElem?_append_left hjx] at hj
     refine .inl ⟨hjx, ?_⟩
     rcases hba with ⟨_,hc⟩ | ⟨b0,o0,arr0,rfl,_,_,hblk0,hfit0,hR⟩
     · omega
     · refine ⟨_, hR j x hj, fun i hi => ?_⟩
       have hlt:=mul_lt_of hjx (Nat.le_refl _) hi
       rw [hidx i hi,List.getElem?_append_left (by omega),hold b0 o0 rfl,newsOf_get hlt]
       simp only [Option.getD_some,cv]
       rw [Nat.add_assoc]
   · rw [List.getElem?_append_right (by omega)] at hj
     refine .inr ⟨by omega, ?_⟩
     obtain ⟨_,hR⟩:=hel _ x hj
     refine ⟨_,hR,fun i hi => ?_⟩
     have hlt:=mul_lt_of (get_lt hj) (Nat.le_refl _) hi
     have e1:j * T.size+i - olds.length=(j - xs.length) * T.size+i:=by
        rw [hol,Nat.sub_mul]
        have:=Nat.mul_le_mul_right T.size (show xs.length≤j by omega)
        omega
     rw [hidx i hi,List.getElem?_append_right (by rw [hol]; have:=Nat.mul_le_mul_right T.size (show xs.length≤j by omega); omega),e1,newsOf_get hlt]
     simp only [Option.getD_some,cv]
     rw [Nat.add_assoc]
end
end GoV

/- Appending: the operation. -/
namespace GoV
open Go
section
variable {G:Ctx} {fl:List (L × Value)} {st st' s s' ex:St} {a:Act} {w w':World} {vals vals':VS} {B B':Nat→Nat} {F F' F1:FS} {S:Nat→Nat→BS} {E:Env} {P:Program}

theorem app_deep (h : Rl G fl s a w vals B F S) {t ty e : TypeId} {q : TypeInfo} {z : Value} {T : Ty} (hu : P.underlying t = some (.slice e)) (hi : P.info? e = some q) (hz : q.zero = some z) (hzs : z.cells.size = q.size) (hqs : q.size = T.size) (hT0 : 0 < T.size) (hb : q.bytes ≤ 4096)
 {xs ys:List T.C} {bv ev:Value} {Sb:BS} {Ss:Nat→BS} (hbase:RepD w (.sl T) xs (fun _ => bv) Sb) (hnb:NoF F Sb) (hSb:∀ y,Sb y→∃ k,S s.length k y)
 (hels:Els w T ys ev (fun j y cs => RepD w T y cs (Ss j))) (hSs:∀ j y,Ss j y→(∃ k,S s.length k y)∧(∀ i,¬ F y i)∧¬ Sb y) (hSd:∀ j j' y,j≠j'→Ss j y→¬ Ss j' y) (hm:0<ys.length) (hbig:xs.length+ys.length≤most) :
 ∃ v w' S1,(Builtin.append_ #[t,t] ty #[bv,ev]).run P w=.ok v w'∧Rl G [(.d .deep (.sl T) (xs ++ ys),v)] s a w' vals B F S1∧v.oneCell'=true:=by
 obtain ⟨A,c,e1,e2,e3⟩:=hbase
 simp only at e1
 obtain ⟨Sbs, k1, k2, hB, hbase0⟩ : ∃ Sbs : Nat → BS, (∀ j y, Sbs j y → Sb y ∧ ∀ b o c, bv = .slice (some ⟨b, o, none⟩) xs.length c → y ≠ b) ∧ (∀ j j' y, j ≠ j' → Sbs j y → ¬ Sbs j' y) ∧ Base w S s.length F T xs bv (fun j x cs => RepD w T x cs (Sbs j)) ∧
  (∀ b o c,bv=.slice (some ⟨b,o,none⟩) xs.length c→Sb b):=by
  rcases e3 with ⟨rfl,rfl⟩ | ⟨b,o,arr,rfl,hS,hk,hs,Sbs,k1,k2,he⟩
  · exact ⟨fun _ _ => False,fun _ _ h => h.elim,fun _ _ _ _ h => h.elim,⟨none,0,e1,e2,.inl ⟨rfl,rfl⟩⟩,fun b o c h => by rw [e1] at h; simp at h⟩
  · refine ⟨Sbs, fun j y hy => ⟨(k1 j y hy).1, fun b' o' c' h => ?_⟩, k2, ⟨some ⟨b, o, none⟩, c, e1, e2, .inr ⟨b, o, arr, rfl, hSb b hS, fun i => hnb b hS i, hk, hs, he⟩⟩, fun b' o' c' h => ?_⟩
    · rw [e1] at h
      simp only [Value.slice.injEq,Option.some.injEq,Addr.mk.injEq] at h
      obtain ⟨⟨rfl,_,_⟩,_⟩:=h
      exact (k1 j y hy).2
    · rw [e1] at h
      simp only [Value.slice.injEq,Option.some.injEq,Addr.mk.injEq] at h
      obtain ⟨⟨rfl,_,_⟩,_⟩:=h
      exact hS
 obtain ⟨v,w',S1,r1,r2,r3,r4,r5,b,o,c',arr,rfl,q1,q2,q3,q4,q5,q6,q7⟩:=app_row (ty:=ty) h hu hi hz hzs hqs hT0 hb hB hels hm hbig (fun j y cs hr => hr.ones) (fun _ _ h => h) (fun _ _ h => .inl h)
 have hSse:∀ j y,Ss j y→∀ b o c,bv=.slice (some ⟨b,o,none⟩) xs.length c→y≠b:=fun j y hy b o c hbv e => (hSs j y hy).2.2 (e ▸ hbase0 b o c hbv)
 have hne:∀ y,(∃ k,S s.length k y)→(∀ b o c,bv=.slice (some ⟨b,o,none⟩) xs.length c→y≠b)→y≠b:=by
  rintro y ⟨k,hk⟩ hy rfl
  obtain ⟨o0,c0,hbv⟩:=q6 k hk
  exact hy _ _ _ hbv rfl
 refine ⟨_,w',_,r1,r2.merge (F':=F) (X:=fun y => y=b∨(∃ j,Sbs j y)∨∃ j,Ss j y) (fun y hy => .inr ?_) (fun _ _ h => h) (fun _ _ h => .inl h) ⟨⟨_,c',rfl,q1,.inr ⟨b,o,arr,rfl,.inl rfl,q2,q3,fun j => if j<xs.length then Sbs j else Ss (j - xs.length),fun j y hy => ?_,fun j j' y hne' hy hy' => ?_,fun j x hj => ?_⟩⟩, ?_⟩ trivial,rfl⟩
 · rcases hy with rfl | ⟨j, hy⟩ | ⟨j, hy⟩
   · exact q4
   · obtain ⟨k, hk⟩ := hSb y (k1 j y hy).1
     exact r3 y k hk
   · obtain ⟨k, hk⟩ := (hSs j y hy).1
     exact r3 y k hk
 · dsimp only at hy
   split at hy
   · exact ⟨.inr (.inl ⟨j,hy⟩),hne y (hSb y (k1 j y hy).1) (k1 j y hy).2⟩
   · exact ⟨.inr (.inr ⟨_,hy⟩),hne y (hSs _ y hy).1 (hSse _ y hy)⟩
 · dsimp only at hy hy'
   split at hy <;> split at hy'
   · exact k2 j j' y hne' hy hy'
   · exact (hSs _ y hy').2.2 (k1 j y hy).1
   · exact (hSs _ y hy).2.2 (k1 j' y hy').1
   · exact hSd _ _ y (by omega) hy hy'
 · rcases q7 j x hj with ⟨hjl, cs, hr, hcv⟩ | ⟨hjl, cs, hr, hcv⟩
   · dsimp only
     rw [if_pos hjl]
     refine (hr.stable fun y hy => ?_).congr hcv
     obtain ⟨k,hk⟩:=hSb y (k1 j y hy).1
     exact r5 y k hk (k1 j y hy).2
   · dsimp only
     rw [if_neg (by omega)]
     refine (hr.stable fun y hy => ?_).congr hcv
     obtain ⟨k,hk⟩:=(hSs _ y hy).1
     exact r5 y k hk (hSse _ y hy)
 · rintro y (rfl | ⟨j, hy⟩ | ⟨j, hy⟩) i hi
   · exact q5 i hi
   · exact hnb y (k1 j y hy).1 i hi
   · exact (hSs j y hy).2.1 i hi
theorem app_sha (h : Rl G fl s a w vals B F S) {t ty e : TypeId} {q : TypeInfo} {z : Value} {T : Ty} (hu : P.underlying t = some (.slice e)) (hi : P.info? e = some q) (hz : q.zero = some z) (hzs : z.cells.size = q.size) (hqs : q.size = T.size) (hT0 : 0 < T.size) (hb : q.bytes ≤ 4096)
 {xs ys:List T.C} {bv ev:Value} (hup:∀ y i,F y i→F1 y i) (hto:∀ y i,F1 y i→F y i∨∃ k,S s.length k y) (hbase:Base w S s.length F1 T xs bv (fun _ x cs => RepF F1 w T x cs))
 (hels:Els w T ys ev (fun _ y cs => RepF F1 w T y cs)) (hm:0<ys.length) (hbig:xs.length+ys.length≤most) :
 ∃ v w' S1,(Builtin.append_ #[t,t] ty #[bv,ev]).run P w=.ok v w'∧Rl G [(.d .sha (.sl T) (xs ++ ys),v)] s a w' vals B F1 S1∧v.oneCell'=true:=by
 obtain ⟨v,w',S1,r1,r2,r3,r4,r5,b,o,c',arr,rfl,q1,q2,q3,q4,q5,q6,q7⟩:=app_row (ty:=ty) h hu hi hz hzs hqs hT0 hb hbase hels hm hbig (fun j y cs hr => hr.ones) hup hto
 refine ⟨_,w',_,r1,r2.merge (F':=F1) (X:=fun y => y=b) (fun y hy => .inr (by rw [hy]; exact q4)) (fun _ _ h => h) (fun _ _ h => .inl h) ⟨⟨_,c',rfl,q1,.inr ⟨b,o,arr,rfl,rfl,q2,q3,fun j x hj => ?_⟩⟩, ?_⟩ trivial,rfl⟩
 · rcases q7 j x hj with ⟨_, cs, hr, hcv⟩ | ⟨_, cs, hr, hcv⟩
   · exact (hr.stable (fun _ _ h => h) r4).congr hcv
   · exact (hr.stable (fun _ _ h => h) r4).congr hcv
 · rintro y rfl i hi
   exact q5 i hi
theorem LRep.rf {o:Fl} {t:Ty} {x:List t.C} {v:Value} {S0:BS} (h:LRep F w (.d o (.sl t) x) v S0):RepF (fun b i => F b i∨S0 b) w (.sl t) x (fun _ => v):=h.toF (fun _ _ h => .inl h) (fun _ _ h => .inr h)
theorem LRep.slv {o:Fl} {t:Ty} {x:List t.C} {v:Value} {S0:BS} (h:LRep F w (.d o (.sl t) x) v S0):∃ A c,v=.slice A x.length c∧x.length≤c:=by
 obtain ⟨A,c,h1,h2,_⟩:=h.rf
 exact ⟨A,c,h1,h2⟩
theorem app_dd {fb fe : Fl} {T : Ty} {xs ys : List T.C} {bv : Value} (h : Rl G (fl ++ [((.d fb (.sl T) xs : L), bv)]) s a w vals B F S) {t ty e : TypeId} {q : TypeInfo} {z : Value} (hu : P.underlying t = some (.slice e)) (hi : P.info? e = some q) (hz : q.zero = some z) (hzs : z.cells.size = q.size) (hqs : q.size = T.size) (hT0 : 0 < T.size) (hb : q.bytes ≤ 4096)
 {el:L} {ev:Value} (hel:(T.flat=true∧(∀ (fe:Fl) (t1:Ty) (ys:List t1.C),el=.d fe (.sl t1) ys→∃ Fe,RepF Fe w (.sl t1) ys (fun _ => ev))∧∀ t',el=.nil t'→ev=.slice none 0 0)∨fl=[(el,ev)])
 (how:fb.owned=true) (hele:el=.d fe (.sl T) ys) (hbig:xs.length+ys.length≤most) :
 ∃ v w' F' S',(Builtin.append_ #[t,t] ty #[bv,ev]).run P w=.ok v w'∧Rl G [(.d (if T.flat || fe=.deep then fb else .sha) (.sl T) (xs ++ ys),v)] s a w' vals B F' S'∧v.oneCell'=true:=by
 have hbl:=(h.fleaf fl.length _ bv List.getElem?_concat_length).1
 have evd:∀ {fe:Fl} {ys:List T.C},el=.d fe (.sl T) ys→∃ Fe,RepF Fe w (.sl T) ys (fun _ => ev):=by
  rintro fe ys rfl
  rcases hel with ⟨_,e1,_⟩ | rfl
  · exact e1 _ _ _ rfl
  · exact ⟨_,(h.fleaf 0 _ _ rfl).1.rf⟩
 have hno:∀ y,S s.length (fl.length+1) y→∀ i,¬ F y i:=by
  intro y hy i
  cases fb with
  | deep => exact hbl.2 y hy i
  | sha => exact hbl.2 y hy i
  | frt => cases how
  | jnk jl jh => cases how
  | fro => cases how
 obtain ⟨Fe,hrf⟩:=evd hele
 by_cases hm:ys.length=0
 · have hy0 : ys = [] := List.eq_nil_of_length_eq_zero hm
   subst hy0
   obtain ⟨A,c,hv1,hv2⟩:=hbl.slv
   obtain ⟨A2,c2,hv3,_⟩:=hrf
   simp only at hv3
   have hle:fb.le (if T.flat || fe=.deep then fb else .sha)=true:=by
    split
    · cases fb <;> first | rfl | cases how
    · cases fb <;> first | rfl | cases how
   obtain ⟨F2,S2,k1,k2⟩:=LRep.co hle hbl
   rw [List.append_nil]
   exact ⟨_,w,F2,_,by rw [hv1,hv3]; exact append_none hu hi hv2,by rw [← hv1]; exact h.merge (X:=S2) (fun y hy => .inl ⟨_,k1.sub y hy⟩) k1.up (fun y i hy => (k1.to y i hy).imp id fun hy => .inl ⟨_,hy⟩) k2 trivial,rfl⟩
 · by_cases hcase : fb = .deep ∧ (T.flat || decide (fe = .deep)) = true
   · obtain ⟨rfl, hc⟩ := hcase
     have hc':(if T.flat || fe=.deep then Fl.deep else .sha)=.deep:=by
        split
        · rfl
        · rename_i hn; simp only [Bool.or_eq_true,decide_eq_true_eq] at hn hc; exact absurd hc hn
     rw [hc']
     -- the elements,alone
     obtain ⟨Ss,hels,hSs,hSd⟩:∃ Ss:Nat→BS,Els w T ys ev (fun j y cs => RepD w T y cs (Ss j))∧(∀ j y,Ss j y→(∃ k,S s.length k y)∧(∀ i,¬ F y i)∧¬ S s.length (fl.length+1) y)∧∀ j j' y,j≠j'→Ss j y→¬ Ss j' y:=by
        by_cases hf:T.flat=true
        · obtain ⟨A, c, k1, k2, k3⟩ := Els.ofF hrf
          refine ⟨fun _ _ => False,⟨A,c,k1,k2,k3.imp id ?_⟩,fun _ _ h => h.elim,fun _ _ _ _ h => h.elim⟩
          rintro ⟨b,o,hA,he⟩
          exact ⟨b,o,hA,fun j y hy => ⟨(he j y hy).1,(he j y hy).2.flatD hf⟩⟩
        · have hfe : fe = .deep := by simpa [hf] using hc
          subst hfe
          rcases hel with ⟨hf',_⟩ | rfl
          · exact absurd hf' hf
          · subst hele
            have hle:=(h.fleaf 0 _ _ rfl).1
            obtain ⟨Ss,k1,k2,k3⟩:=Els.ofD hle.1
            refine ⟨Ss,k3,fun j y hy => ⟨⟨_,k1 j y hy⟩,fun i => hle.2 y (k1 j y hy) i,fun hy' => ?_⟩,k2⟩
            exact h.disj _ _ _ _ y (by simp) (k1 j y hy) hy'
     obtain ⟨v,w',S1,m1,m2,m3⟩:=app_deep (ty:=ty) h hu hi hz hzs hqs hT0 hb hbl.1 hbl.2 (fun y hy => ⟨_,hy⟩) hels hSs hSd (by omega) hbig
     exact ⟨v,w',F,S1,m1,m2,m3⟩
   · have hc':(if T.flat || fe=.deep then fb else .sha)=.sha:=by
        split
        · rename_i hn
          cases fb with
          | deep => simp only [Bool.or_eq_true,decide_eq_true_eq] at hn hcase; exact absurd ⟨trivial,hn⟩ hcase
          | sha => rfl
          | frt => cases how
          | jnk jl jh => cases how
          | fro => cases how
        · rfl
     rw [hc']
     generalize hF1:(fun y i => F y i∨((∃ k,S s.length k y)∧∀ b o c,bv=.slice (some ⟨b,o,none⟩) xs.length c→y≠b):FS)=F1
     have hup:∀ y i,F y i→F1 y i:=fun y i hy => by rw [← hF1]; exact .inl hy
     have hin:∀ y i,(∃ k,S s.length k y)→(∀ b o c,bv=.slice (some ⟨b,o,none⟩) xs.length c→y≠b)→F1 y i:=fun y i h1 h2 => by rw [← hF1]; exact .inr ⟨h1,h2⟩
     have hto:∀ y i,F1 y i→F y i∨∃ k,S s.length k y:=fun y i hy => by rw [← hF1] at hy; exact hy.imp id And.left
     have hF1b:∀ {b o c},bv=.slice (some ⟨b,o,none⟩) xs.length c→S s.length (fl.length+1) b→∀ i,¬ F1 b i:=by
        intro b o c hbv hS i hi
        rw [← hF1] at hi
        rcases hi with hi | ⟨_,hi⟩
        · exact hno b hS i hi
        · exact hi b o c hbv rfl
     have hbase:Base w S s.length F1 T xs bv (fun _ x cs => RepF F1 w T x cs):=by
        cases fb with
        | deep =>
          obtain ⟨A,c,e1,e2,e3⟩:=hbl.1
          simp only at e1
          refine ⟨A,c,e1,e2,e3.imp id ?_⟩
          rintro ⟨b,o,arr,rfl,k1,k2,k3,Ss,k4,k5,k6⟩
          refine ⟨b,o,arr,rfl,⟨_,k1⟩,hF1b e1 k1,k2,k3,fun j x hj => (k6 j x hj).toF fun y i hy => hin y i ⟨_,(k4 j y hy).1⟩ fun b' o' c' hb' => ?_⟩
          rw [e1] at hb'
          simp only [Value.slice.injEq,Option.some.injEq,Addr.mk.injEq] at hb'
          obtain ⟨⟨rfl,_,_⟩,_⟩:=hb'
          exact (k4 j y hy).2
        | sha =>
          obtain ⟨A,c,e1,e2,e3⟩:=hbl.1
          refine ⟨A,c,e1,e2,e3.imp id ?_⟩
          rintro ⟨b,o,arr,rfl,k1,k2,k3,k6⟩
          exact ⟨b,o,arr,rfl,⟨_,k1⟩,hF1b e1 k1,k2,k3,fun j x hj => (k6 j x hj).stable hup (fun _ _ _ _ h => h)⟩
        | frt => cases how
        | jnk jl jh => cases how
        | fro => cases how
     have hels:Els w T ys ev (fun _ y cs => RepF F1 w T y cs):=by
        by_cases hf:T.flat=true
        · obtain ⟨A, c, k1, k2, k3⟩ := Els.ofF hrf
          refine ⟨A,c,k1,k2,k3.imp id ?_⟩
          rintro ⟨b,o,hA,he⟩
          exact ⟨b,o,hA,fun j y hy => ⟨(he j y hy).1,(he j y hy).2.flatF hf⟩⟩
        · rcases hel with ⟨hf', _⟩ | rfl
          · exact absurd hf' hf
          · subst hele
            have hle:=(h.fleaf 0 _ _ rfl).1
            refine Els.ofF (hle.toF hup fun y i hy => hin y i ⟨_,hy⟩ fun b o c hbv e => ?_)
            subst e
            have hSb:S s.length (1+1) y:=by
             cases fb with
             | deep =>
               obtain ⟨A,c',e1,e2,e3⟩:=hbl.1
               simp only at e1
               rw [e1] at hbv
               rcases e3 with ⟨rfl,_⟩ | ⟨b',o',arr,rfl,k1,_⟩
               · simp at hbv
               · simp only [Value.slice.injEq, Option.some.injEq, Addr.mk.injEq] at hbv
                 obtain ⟨⟨rfl,_,_⟩,_⟩:=hbv
                 exact k1
             | sha =>
               obtain ⟨A,c',e1,e2,e3⟩:=hbl.1
               rw [e1] at hbv
               rcases e3 with ⟨rfl,_⟩ | ⟨b',o',arr,rfl,k1,_⟩
               · simp at hbv
               · simp only [Value.slice.injEq, Option.some.injEq, Addr.mk.injEq] at hbv
                 obtain ⟨⟨rfl,_,_⟩,_⟩:=hbv
                 exact k1
             | frt => cases how
             | jnk jl jh => cases how
             | fro => cases how
            exact h.disj _ _ _ _ y (by simp) hy hSb
     obtain ⟨v,w',S1,m1,m2,m3⟩:=app_sha (ty:=ty) h hu hi hz hzs hqs hT0 hb hup hto hbase hels (by omega) hbig
     exact ⟨v,w',F1,S1,m1,m2,m3⟩
theorem append_ok {l : L} {bv : Value} (h : Rl G (fl ++ [(l, bv)]) s a w vals B F S) {t ty e : TypeId} {q : TypeInfo} {z : Value} {T : Ty} (hu : P.underlying t = some (.slice e)) (hi : P.info? e = some q) (hz : q.zero = some z) (hzs : z.cells.size = q.size) (hqs : q.size = T.size) (hT0 : 0 < T.size) (hb : q.bytes ≤ 4096)
 {el r:L} {ev:Value} (hel:(T.flat=true∧(∀ (fe:Fl) (t1:Ty) (ys:List t1.C),el=.d fe (.sl t1) ys→∃ Fe,RepF Fe w (.sl t1) ys (fun _ => ev))∧∀ t',el=.nil t'→ev=.slice none 0 0)∨fl=[(el,ev)])
 (hx:(appendL T l el).exec s=some (r,s')) :
 s'=s∧∃ v w' F' S',(Builtin.append_ #[t,t] ty #[bv,ev]).run P w=.ok v w'∧Rl G [(r,v)] s a w' vals B F' S'∧v.oneCell'=true:=by
 have hlast:=(h.fleaf fl.length l bv List.getElem?_concat_length).1
 -- the base alone
 have keep : ∀ {r : L}, (∀ F1 S1, LRep F1 w l bv S1 → ∃ F2 S2, Less F1 F2 S1 S2 ∧ LRep F2 w r bv S2) → LinkOK s vals B w r bv → (∃ A c n, bv = .slice A n c ∧ n ≤ c) → (∃ A2 c2, ev = .slice A2 0 c2) →
  ∃ v w' F' S',(Builtin.append_ #[t,t] ty #[bv,ev]).run P w=.ok v w'∧Rl G [(r,v)] s a w' vals B F' S'∧v.oneCell'=true:=by
  rintro r hr hk ⟨A,c,n,rfl,hnc⟩ ⟨A2,c2,rfl⟩
  obtain ⟨F2,S2,k1,k2⟩:=hr _ _ hlast
  refine ⟨_,w,F2,_,append_none hu hi hnc,h.merge (X:=S2) (fun y hy => .inl ⟨_,k1.sub y hy⟩) k1.up (fun y i hy => (k1.to y i hy).imp id fun hy => .inl ⟨_,hy⟩) k2 hk,rfl⟩
 have evnil:∀ {t'},el=.nil t'→ev=.slice none 0 0:=by
  rintro t' rfl
  rcases hel with ⟨_,_,e1⟩ | rfl
  · exact e1 _ rfl
  · exact (h.fleaf 0 _ _ rfl).1.nilVal
 unfold appendL at hx
 split at hx
 · rename_i t1 t2
   obtain ⟨_,s1,h1,hx⟩:=M.bind_some hx
   obtain ⟨_,e1⟩:=M.must_some h1
   rw [e1] at hx
   obtain ⟨_,s2,h2,hx⟩:=M.bind_some hx
   obtain ⟨_,e2⟩:=M.must_some h2
   rw [e2] at hx
   obtain ⟨rfl,rfl⟩:=M.pure_some hx
   have hbn:bv=.slice none 0 0:=hlast.nilVal
   exact ⟨rfl,keep (fun F1 S1 hr => ⟨F1,S1,⟨fun _ _ h => h,fun _ _ h => .inl h,fun _ h => h⟩,hr⟩) trivial ⟨none,0,0,hbn,Nat.le_refl _⟩ ⟨none,0,evnil rfl⟩⟩
 · rename_i fb t1 xs t2
   obtain ⟨_,s0,h0,hx⟩:=M.bind_some hx
   obtain ⟨how,e0⟩:=M.must_some h0
   rw [e0] at hx
   obtain ⟨_,s1,h1,hx⟩:=M.bind_some hx
   obtain ⟨_,e1⟩:=M.must_some h1
   rw [e1] at hx
   obtain ⟨_,s2,h2,hx⟩:=M.bind_some hx
   obtain ⟨_,e2⟩:=M.must_some h2
   rw [e2] at hx
   obtain ⟨rfl,rfl⟩:=M.pure_some hx
   obtain ⟨A,c,hv1,hv2⟩:=hlast.slv
   exact ⟨rfl,keep (fun F1 S1 hr => ⟨F1,S1,⟨fun _ _ h => h,fun _ _ h => .inl h,fun _ h => h⟩,hr⟩) trivial ⟨A,c,_,hv1,hv2⟩ ⟨none,0,evnil rfl⟩⟩
 · rename_i t1 fe t2 ys
   obtain ⟨_,s1,h1,hx⟩:=M.bind_some hx
   obtain ⟨ht,e1⟩:=M.must_some h1
   rw [e1] at hx
   split at hx
   · rename_i ht2
     subst ht2
     obtain ⟨_,s2,h2,hx⟩:=M.bind_some hx
     obtain ⟨hbig,e2⟩:=M.must_some h2
     rw [e2] at hx
     obtain ⟨rfl,rfl⟩:=M.pure_some hx
     have hbn:bv=.slice none 0 0:=hlast.nilVal
     have hbl:LRep F w (.d .deep (.sl t2) []) bv (fun _ => False):=by rw [hbn]; exact LRep.ofNil (S:=fun _ => False) .deep t2
     refine ⟨rfl, ?_⟩
     have h':=h.coFloat (m:=fl.length) (l':=.d .deep (.sl t2) []) (u':=bv) (F':=F) (S0':=fun _ => False) List.getElem?_concat_length ⟨fun _ _ h => h,fun _ _ h => .inl h,fun _ h => h.elim⟩ hbl trivial
     have e9:(fl ++ [(L.nil t1,bv)]).set fl.length (.d .deep (.sl t2) [],bv)=fl ++ [((.d .deep (.sl t2) []:L),bv)]:=by simp
     rw [e9] at h'
     have:=app_dd (ty:=ty) (xs:=[]) (ys:=ys) (fe:=fe) h' hu hi hz hzs hqs hT0 hb hel rfl rfl (by have:=of_decide_eq_true hbig; simpa using this)
     simpa using this
   · exact (M.fail_some hx).elim
 · rename_i fb t1 xs fe t2 ys
   split at hx
   · rename_i hts
     obtain ⟨ht1,ht2⟩:=hts
     subst ht1
     subst ht2
     obtain ⟨_,s0,h0,hx⟩:=M.bind_some hx
     obtain ⟨how,e0⟩:=M.must_some h0
     rw [e0] at hx
     obtain ⟨_,s2,h2,hx⟩:=M.bind_some hx
     obtain ⟨hbig,e2⟩:=M.must_some h2
     rw [e2] at hx
     obtain ⟨rfl,rfl⟩:=M.pure_some hx
     exact ⟨rfl,app_dd h hu hi hz hzs hqs hT0 hb hel how rfl (of_decide_eq_true hbig)⟩
   · exact (M.fail_some hx).elim
 · exact (M.fail_some hx).elim
theorem run_append_zeros {t tx ty e : TypeId} {k k2 : IntKind} {i : TypeInfo} {z : Value} (ht : P.underlying t = some (.slice e)) (hx : P.underlying tx = some (.int k)) (hi : P.info? e = some i) (hz : i.zero = some z)
 (n:Nat) (h0:0<n) (h31:n≤4294967296) (hb:i.bytes≤4096) (hs:0<i.size) (w:World) :
 (Builtin.append_ #[t, tx] ty #[.slice none 0 0, .int k2 (n : Int)]).run P w =
  .ok (.slice (some ⟨w.heap.size,0,none⟩) n (grownCap w n 0 e)) (w.drew.alloc (.cells (Builtin.zeroCells z.cells n ++ Builtin.zeroCells z.cells (grownCap w n 0 e - n)) e)):=by
 have hn:n≠0:=by omega
 have hbytes:n * i.bytes≤17592186044416:=by
  have:n * i.bytes≤4294967296 * 4096:=Nat.mul_le_mul h31 hb
  omega
 have h63':¬ (9223372036854775807<(n:Int)):=by omega
 have h48':¬ (281474976710656<Builtin.nextslicecap n 0 * i.bytes):=by rw [nextslicecap_zero h0]; omega
 have hw:IntKind.i64.wrap (n:Int)=(n:Int):=by
  have e:IntKind.i64.wrap (n:Int)=(if (n:Int) % 18446744073709551616 ≥ 9223372036854775808 then (n:Int) % 18446744073709551616 - 18446744073709551616 else (n:Int) % 18446744073709551616):=by
   simp [IntKind.wrap,IntKind.bits,IntKind.signed]
  rw [e]
  split <;> omega
 have hneg:¬ ((n:Int)<0):=by omega
 have hby:¬ (281474976710656<(n:Int) * (i.bytes:Int)):=by
  have:((n * i.bytes:Nat):Int)=(n:Int) * (i.bytes:Int):=by simp
  omega
 have hsz:¬ (n * i.size=0):=by
  have:=Nat.mul_pos h0 hs
  omega
 have hsz0:¬ (i.size=0):=by omega
 simp [Builtin.append_,run_underlying ht,run_underlying hx,Go.sizeOf,typeInfo,zeroValue,hi,hz,Go.asInt,asIntOf,hw,hneg,hby,hn,h63',h48',hsz,hsz0,Question.forced,run_firstCells_none,newRow,grownCap]
theorem zerosOp_ok (hE : EnvOK P E) (h : Rl G [] st a w vals B F S) {o : Oper} {c : Call} {x y : Operand} {t t' : TypeId} (ho : o.op = .call c) (hc : c.callee = .builtin .append) (ha : c.args.toList = [x, y]) (ht : c.argTypes.toList = [t, t'])
 {e:TypeId} {T:Ty} {n n':Nat} {ag ag':Bool} {TT TT':Option Ty} {zs zs':List L} {k:IntKind} (hti:E.ti t=some ⟨.slice e T,n,ag,TT,zs⟩) (hti':E.ti t'=some ⟨.int k,n',ag',TT',zs'⟩)
 (hx:(zerosOp E o.dst T t t' x y).exec st=some ((),st')):OpOK P o a w fun a' w' => Rel G [] st' a' w':=by
 unfold zerosOp at hx
 obtain ⟨la,s1,h1,hx⟩:=M.bind_some hx
 obtain ⟨e1,hla⟩:=opnd1_ok h h1
 rw [e1] at hx
 obtain ⟨lb,s2,h2,hx⟩:=M.bind_some hx
 obtain ⟨e2,hlb⟩:=opnd1_ok h h2
 rw [e2] at hx
 obtain ⟨m,s3,h3,hx3⟩:=M.bind_some hx
 clear hx
 obtain ⟨e3,o3,k3,rfl⟩:=asInt_ok h3
 rw [e3] at hx3
 have hx:=hx3
 clear hx3
 split at hx
 · rename_i tn
   obtain ⟨_,s4,h4,hx⟩:=M.bind_some hx
   obtain ⟨hm1,e4⟩:=M.must_some h4
   rw [e4] at hx
   obtain ⟨_,s5,h5,hx⟩:=M.bind_some hx
   obtain ⟨hm2,e5⟩:=M.must_some h5
   rw [e5] at hx
   have hm1:=of_decide_eq_true hm1
   have hm2:=of_decide_eq_true hm2
   simp only [most] at hm2
   obtain ⟨hu,ie,q,hie,hT,hok,hq,hqs⟩:=tk_slice hE hti
   obtain ⟨q',hq',hs1,hb0,hb1,z,hz,hzc,hz1,hzl,hzr,hzT⟩:=hok.info
   rw [hq] at hq'
   obtain rfl:=Option.some.inj hq'
   obtain ⟨hTs,hT0,hTz⟩:=hzT T hT
   obtain ⟨d,hd,_,hk⟩:=(hE.ti t' _ hti').und
   simp only [TKOK] at hk
   subst hk
   obtain ⟨mn,rfl⟩:∃ mn:Nat,m=(mn:Int):=⟨m.toNat,by omega⟩
   have hrun:=run_append_zeros (P:=P) (ty:=o.type) (k2:=k3) hu hd hq hz mn (by omega) (by omega) hb1 (by omega) w
   have hargs:c.args=#[x,y]:=by
    have:c.args=c.args.toList.toArray:=by simp
    rw [this,ha]
   have htys:c.argTypes=#[t,t']:=by
    have:c.argTypes=c.argTypes.toList.toArray:=by simp
    rw [this,ht]
   have hbn:a.eval x=.slice none 0 0:=hla.1.nilVal
   refine op_value (w':=w.drew.alloc (.cells (Builtin.zeroCells z.cells mn ++ Builtin.zeroCells z.cells (grownCap w mn 0 e - mn)) e)) (v:=.slice (some ⟨w.heap.size,0,none⟩) mn (grownCap w mn 0 e)) ?_ ?_
   · rw [execOp, ho]
     simp only [resolve,hc,hargs,htys,Sem.run_bind,Sem.run_pure,Result.andThen_ok,invoke,List.map_toArray,List.map_cons,List.map_nil,hbn,hlb.int]
     simp [builtin,hrun]
   · have hge := grownCap_ge w mn 0 e
     have h1:=(h.drawn (w.drawn+1)).alloc (.cells (Builtin.zeroCells z.cells mn ++ Builtin.zeroCells z.cells (grownCap w mn 0 e - mn)) e)
     have hblk:=blk_alloc w.drew (Builtin.zeroCells z.cells mn ++ Builtin.zeroCells z.cells (grownCap w mn 0 e - mn)) e
     have hzs:z.cells.size=T.size:=by rw [hzc,hTs]
     have h2:=h1.pushX (l:=.d .deep (.sl T) (List.replicate mn T.zero)) (u:=.slice (some ⟨w.heap.size,0,none⟩) mn (grownCap w mn 0 e)) (X:=fun b => b=w.heap.size) ((h.drawn (w.drawn+1)).fresh _) ⟨?_,(h.drawn (w.drawn+1)).noF⟩ trivial
     · exact dstV_ok (sh:=.one) (ls:=[_]) (us:=[_]) h2 rfl rfl (by simp [Ones,Value.oneCell']) hx
     · refine ⟨some ⟨w.heap.size, 0, none⟩, grownCap w mn 0 e, by simp, by simpa using hge, .inr ⟨w.heap.size, 0, _, rfl, rfl, hblk, ?_, fun _ _ => False, fun _ _ h => h.elim, fun _ _ _ _ h => h.elim, fun j y hj => ?_⟩⟩
       · simp only [Array.size_append, size_zeroCells, hzs, ← Nat.add_mul]
         rw [Nat.zero_add]
         apply Nat.le_of_eq
         congr 1
         omega
       · rw [List.getElem?_replicate] at hj
         split at hj
         · rename_i hjm
           obtain rfl:=Option.some.inj hj
           refine RepD.congr (fun i hi => ?_) (RepD.stable (w:=default) (fun _ hb => hb.elim) hTz)
           have hlt:=mul_lt_of (c:=mn) hjm (Nat.le_refl _) hi
           simp only [cv]
           refine Eq.trans (congrArg (fun o => Option.getD o undef) (cellAt_blk hblk _)) ?_
           rw [Array.getElem?_append_left (by rw [size_zeroCells,hzs]; omega)]
           simp only [Builtin.zeroCells]
           have hk:0+j * T.size+i<mn * z.cells.size:=by rw [hzs]; omega
           have hmod:(0+j * T.size+i) % z.cells.size=i:=by
             rw [hzs,Nat.zero_add,Nat.mul_comm,Nat.mul_add_mod]
             exact Nat.mod_eq_of_lt hi
           generalize 0+j * T.size+i=kk at hk hmod ⊢
           simp [hk,hmod,show i<z.cells.size by omega]
         · cases hj
 · exact (M.fail_some hx).elim
theorem appendOp_ok (hE : EnvOK P E) (h : Rl G [] st a w vals B F S) {o : Oper} {c : Call} {x y : Operand} {t t' : TypeId} (ho : o.op = .call c) (hc : c.callee = .builtin .append) (ha : c.args.toList = [x, y]) (ht : c.argTypes.toList = [t, t'])
 (hx:(appendOp E o.dst t t' x y).exec st=some ((),st')):OpOK P o a w fun a' w' => Rel G [] st' a' w':=by
 unfold appendOp at hx
 split at hx
 · rename_i e T n ag TT zs k n' ag' TT' zs' hti hti'
   exact zerosOp_ok hE h ho hc ha ht hti hti' hx
 · rename_i e T n ag TT zs e' T' n' ag' TT' zs' hti hti'
   obtain ⟨_,s0,h0,hx⟩:=M.bind_some hx
   obtain ⟨htt,e0⟩:=M.must_some h0
   rw [e0] at hx
   obtain rfl:=of_decide_eq_true htt
   obtain ⟨la,s1,h1,hx⟩:=M.bind_some hx
   obtain ⟨e1,hla⟩:=opnd1_ok h h1
   rw [e1] at hx
   obtain ⟨lb,s2,h2,hx⟩:=M.bind_some hx
   obtain ⟨e2,hlb⟩:=opnd1_ok h h2
   rw [e2] at hx
   obtain ⟨le,s3,h3,hx⟩:=M.bind_some hx
   obtain ⟨la',s4,h4,hx⟩:=M.bind_some hx
   obtain ⟨r,s5,h5,hx9⟩:=M.bind_some hx
   clear hx
   -- the elements
   obtain ⟨fl, S1, k1, k2, hel⟩ : ∃ fl S1, Rl G fl s3 a w vals B F S1 ∧ Keeps vals B w st s3 ∧
        ((T.flat=true∧(∀ (fe:Fl) (t1:Ty) (ys:List t1.C),le=.d fe (.sl t1) ys→∃ Fe,RepF Fe w (.sl t1) ys (fun _ => a.eval y))∧∀ t',le=.nil t'→a.eval y=.slice none 0 0)∨fl=[(le,a.eval y)]):=by
    unfold elemsL at h3
    split at h3
    · rename_i p rg
      split at h3
      · rename_i hf
        simp only [snap] at h3
        obtain ⟨l0,s6,h6,h7⟩:=M.bind_some h3
        obtain ⟨e6,c0,fo,t0,x0,hv,rfl,hp⟩:=placed h h6
        rw [e6] at h7
        obtain ⟨rfl,rfl⟩:=M.pure_some h7
        have hr:=hp.link hp.nd hlb.2
        refine ⟨[],S,h,.refl _ _ _ _,.inl ⟨hf,fun fe t1 ys heq => ?_,fun t' heq => by simp [froL,cutL] at heq⟩⟩
        simp only [froL,cutL,L.d.injEq,Ty.sl.injEq] at heq
        obtain ⟨_,rfl,heq⟩:=heq
        cases heq
        exact ⟨_,hp.rep.cut hr⟩
      · obtain ⟨S', g1, g2⟩ := steal_ok h hlb.2 h3
        exact ⟨_,S',g1,g2,.inr rfl⟩
    · obtain ⟨rfl, rfl⟩ := M.pure_some h3
      exact ⟨_,_,h.push hlb.1 hlb.2,.refl _ _ _ _,.inr rfl⟩
   obtain ⟨S2,m1,m2⟩:=moveL_ok k1 ⟨hla.1,k2.link _ _ hla.2⟩ h4
   obtain ⟨hu,ie,q,hie,hT,hok,hq,hqs⟩:=tk_slice hE hti
   obtain ⟨q',hq',hs1,hb0,hb1,z,hz,hzc,hz1,hzl,hzr,hzT⟩:=hok.info
   rw [hq] at hq'
   obtain rfl:=Option.some.inj hq'
   obtain ⟨hTs,hT0,hTz⟩:=hzT T hT
   obtain ⟨e5,v,w',F',S',n1,n2,n3⟩:=append_ok (ty:=o.type) m1 hu hq hz (by rw [hzc,hs1]) hqs hT0 hb1 hel h5
   rw [e5] at hx9
   have hargs:c.args=#[x,y]:=by
    have:c.args=c.args.toList.toArray:=by simp
    rw [this,ha]
   have htys:c.argTypes=#[t,t]:=by
    have:c.argTypes=c.argTypes.toList.toArray:=by simp
    rw [this,ht]
   refine op_value (w':=w') (v:=v) ?_ (dstV_ok (sh:=.one) (ls:=[_]) (us:=[_]) n2 rfl rfl (by simpa [Ones] using n3) hx9)
   rw [execOp,ho]
   simp only [resolve,hc,hargs,htys,Sem.run_bind,Sem.run_pure,Result.andThen_ok,invoke,List.map_toArray,List.map_cons,List.map_nil]
   simp [builtin,n1]
 · exact (M.fail_some hx).elim
end
end GoV

/- 'clear' of a stretch of a slice. -/
namespace GoV
open Go
section
variable {G:Ctx} {fl:List (L × Value)} {st st' s s' ex:St} {a:Act} {w w':World} {vals vals':VS} {B B':Nat→Nat} {F F' F1:FS} {S:Nat→Nat→BS} {E:Env} {P:Program}

theorem dec_tt {p:Prop} [Decidable p] (h:p):decide p=true:=decide_eq_true h
def rgLo (rg:Option (Nat × Option Nat)):Nat:=match rg with | none => 0 | some (lo,_) => lo
def rgN (rg:Option (Nat × Option Nat)) (N:Nat):Nat:=match rg with | none => N | some (lo,q) => q.getD (N - lo)
theorem wipe_in {α:Type} (zz:α) {rg:Option (Nat × Option Nat)} {x:List α} (h:rgLo rg+rgN rg x.length≤x.length) {j:Nat} (hj:rgLo rg≤j∧j<rgLo rg+rgN rg x.length):(wipe zz rg x)[j]?=some zz:=by
 obtain ⟨h1,h2⟩:=hj
 rcases rg with _ | ⟨lo,_ | n⟩
 · have h2 : j < 0 + x.length := h2
   show (List.replicate x.length zz)[j]?=some zz
   rw [List.getElem?_replicate,if_pos (by omega)]
 · have h1 : lo ≤ j := h1
   have h2:j<lo+(x.length - lo):=h2
   have h:lo+(x.length - lo)≤x.length:=h
   show (x.take lo ++ List.replicate (x.length - lo) zz)[j]?=some zz
   rw [List.getElem?_append_right (by rw [List.length_take]; omega),List.getElem?_replicate,if_pos (by rw [List.length_take]; omega)]
 · have h1 : lo ≤ j := h1
   have h2:j<lo+n:=h2
   have h:lo+n≤x.length:=h
   show (x.take lo ++ List.replicate n zz ++ x.drop (lo+n))[j]?=some zz
   rw [List.append_assoc,List.getElem?_append_right (by rw [List.length_take]; omega),List.getElem?_append_left (by rw [List.length_take,List.length_replicate]; omega),List.getElem?_replicate,if_pos (by rw [List.length_take]; omega)]
theorem wipe_out {α:Type} (zz:α) {rg:Option (Nat × Option Nat)} {x:List α} (h:rgLo rg+rgN rg x.length≤x.length) {j:Nat} (hj:¬ (rgLo rg≤j∧j<rgLo rg+rgN rg x.length)):(wipe zz rg x)[j]?=x[j]?:=by
 rcases rg with _ | ⟨lo,_ | n⟩
 · have hj : ¬ (0 ≤ j ∧ j < 0 + x.length) := hj
   show (List.replicate x.length zz)[j]?=x[j]?
   rw [List.getElem?_replicate,if_neg (by omega),List.getElem?_eq_none (by omega)]
 · have hj : ¬ (lo ≤ j ∧ j < lo + (x.length - lo)) := hj
   have h:lo+(x.length - lo)≤x.length:=h
   show (x.take lo ++ List.replicate (x.length - lo) zz)[j]?=x[j]?
   by_cases c1:j<lo
   · rw [List.getElem?_append_left (by rw [List.length_take]; omega),List.getElem?_take,if_pos c1]
   · rw [List.getElem?_append_right (by rw [List.length_take]; omega),List.getElem?_replicate,if_neg (by rw [List.length_take]; omega),List.getElem?_eq_none (by omega)]
 · have hj : ¬ (lo ≤ j ∧ j < lo + n) := hj
   have h:lo+n≤x.length:=h
   show (x.take lo ++ List.replicate n zz ++ x.drop (lo+n))[j]?=x[j]?
   by_cases c1:j<lo
   · rw [List.append_assoc,List.getElem?_append_left (by rw [List.length_take]; omega),List.getElem?_take,if_pos c1]
   · have hl : (x.take lo ++ List.replicate n zz).length = lo + n := by rw [List.length_append, List.length_take, List.length_replicate]; omega
     rw [List.getElem?_append_right (by rw [hl]; omega),hl,List.getElem?_drop]
     congr 1; omega
theorem cut_rg {α:Type} {rg:Option (Nat × Option Nat)} {x:List α} (h:rgLo rg+rgN rg x.length≤x.length):(cut rg x).length=rgN rg x.length:=by
 rcases rg with _ | ⟨lo,_ | n⟩
 · rfl
 · simp [cut,rgN]
 · simp only [cut, rgN, rgLo, Option.getD_some] at h ⊢
   simp; omega
theorem zeroCells_get (z:Array Value) {n k:Nat} (h:k<n * z.size):(Builtin.zeroCells z n).toList[k]?=some (z.getD (k % z.size) undef):=by
 have hz:0<z.size:=by
  rcases Nat.eq_zero_or_pos z.size with e | e
  · rw [e] at h; omega
  · exact e
 have hm:=Nat.mod_lt k hz
 simp only [Builtin.zeroCells,Array.toList_map,Array.toList_range,List.getElem?_map,List.getElem?_range h,Option.map_some]
 congr 1
 rw [getElem!_pos z _ hm]
 simp [Array.getD,hm]
theorem clear_some {t e ty : TypeId} {q : TypeInfo} {z : Value} (hu : P.underlying t = some (.slice e)) (hi : P.info? e = some q) (hz : q.zero = some z) {b o n c : Nat} {arr : Array Value} (hb : Blk w b arr) (hn : n ≠ 0)
 (hfit:o+n * z.cells.size≤arr.size) (h1:Ones z.cells.toList) :
 (Builtin.clear_ #[t] ty #[.slice (some ⟨b, o, none⟩) n c]).run P w = .ok (.tuple #[]) (w.setRow b (rowOf arr.toList o (Builtin.zeroCells z.cells n).toList).toArray) ∧
  Blk (w.setRow b (rowOf arr.toList o (Builtin.zeroCells z.cells n).toList).toArray) b (rowOf arr.toList o (Builtin.zeroCells z.cells n).toList).toArray:=by
 have hq:(underlying t).run P w=.ok (.slice e) w:=underlying_run hu
 obtain ⟨ty',hb⟩:=hb
 have hl:(Builtin.zeroCells z.cells n).toList.length=n * z.cells.size:=by
  rw [Array.length_toList,size_zeroCells]
 have hone:∀ v∈(Builtin.zeroCells z.cells n).toList,v.oneCell'=true:=by
  intro v hv
  obtain ⟨k,hk⟩:=List.getElem?_of_mem hv
  have hlt:=get_lt hk
  rw [hl] at hlt
  rw [zeroCells_get _ hlt] at hk
  obtain rfl:=Option.some.inj hk
  have hz0:0<z.cells.size:=by
   rcases Nat.eq_zero_or_pos z.cells.size with e | e
   · rw [e] at hlt; omega
   · exact e
  have hm:=Nat.mod_lt k hz0
  refine h1 _ ?_
  simp only [Array.getD,hm,dif_pos]
  exact Array.getElem_mem_toList hm
 have h2:=run_storeCells_at (P:=P) b o ty' (Builtin.zeroCells z.cells n).toList 0 arr w hb (by rw [hl]; simpa using hfit) hone
 simp only [Nat.add_zero] at h2
 refine ⟨?_,ty', ?_⟩
 · obtain ⟨m, rfl⟩ : ∃ m, n = m + 1 := ⟨n - 1, by omega⟩
   simp [Builtin.clear_]
   rw [hq]
   simp [zeroValue_run hi hz,h2,rowOf]
 · exact setRow_heap w b _ _ ty' _ hb
theorem clear_ok (hE : EnvOK P E) (h : Rl G [] st a w vals B F S) {o : Oper} {c : Call} {x : Operand} {t : TypeId} (ho : o.op = .call c) (hc : c.callee = .builtin .clear) (ha : c.args.toList = [x]) (ht : c.argTypes.toList = [t])
 (hx:(do M.check o.dst.isNone; clearOp E t x:M Unit).exec st=some ((),st')):OpOK P o a w fun a' w' => Rel G [] st' a' w':=by
 obtain ⟨_,s1,h1,hx⟩:=M.bind_some hx
 obtain ⟨hd,e1⟩:=M.must_some h1
 rw [e1] at hx
 have hd:o.dst=none:=by simpa using hd
 have hargs:c.args=#[x]:=by
  have:c.args=c.args.toList.toArray:=by simp
  rw [this,ha]
 have htys:c.argTypes=#[t]:=by
  have:c.argTypes=c.argTypes.toList.toArray:=by simp
  rw [this,ht]
 have fin:∀ w2,(Builtin.clear_ #[t] o.type #[a.eval x]).run P w=.ok (.tuple #[]) w2→Rel G [] st' a w2→OpOK P o a w fun a' w' => Rel G [] st' a' w':=by
  intro w2 n1 hr
  refine op_value (w':=w2) (v:=.tuple #[]) ?_ ?_
  · rw [execOp, ho]
    simp only [resolve,hc,hargs,htys,Sem.run_bind,Sem.run_pure,Result.andThen_ok,invoke,List.map_toArray,List.map_cons,List.map_nil]
    simp [builtin,n1]
  · rw [hd]
    exact hr
 unfold clearOp at hx
 split at hx
 · rename_i e T n ag TT zs hti
   obtain ⟨la,s2,h2,hx⟩:=M.bind_some hx
   obtain ⟨e2,hla⟩:=opnd1_ok h h2
   rw [e2] at hx
   split at hx
   · rename_i p rg
     obtain ⟨_,s3,h3,hx⟩:=M.bind_some hx
     obtain ⟨hsub,e3⟩:=M.must_some h3
     rw [e3] at hx
     obtain ⟨l0,s4,h4,hx⟩:=M.bind_some hx
     obtain ⟨e4,c0,o0,T0,y,hv,rfl,hp⟩:=placed h h4
     rw [e4] at hx
     simp only [] at hx
     split at hx
     · rename_i hT
       subst hT
       obtain ⟨o1,s5,h5,hx⟩:=M.bind_some hx
       obtain ⟨how,e5⟩:=M.opt_some h5
       rw [e5] at hx
       obtain ⟨_,s6,h6,hx⟩:=M.bind_some hx
       obtain ⟨hwok,e6⟩:=M.must_some h6
       rw [e6] at hx
       obtain ⟨pr,pk,ps⟩:=p
       have hps:ps=none:=by simpa using hsub
       subst hps
       have hr:=hp.link hp.nd hla.2
       obtain ⟨hl,hu⟩:=hp.root rfl
       have hcell:=hp.cell
       simp only at hl hu hcell
       have hroot:=(h.leaf _ _ _ _ _ hcell hl hu).1
       obtain ⟨hund,ie,q,hie,hiT,hok,hq,hqs⟩:=tk_slice hE hti
       obtain ⟨q',hq',hs1,hb0,hb1,z,hz,hzc,hz1,hzl,hzr,hzT⟩:=hok.info
       rw [hq] at hq'
       obtain rfl:=Option.some.inj hq'
       obtain ⟨hTs,hT0,hTz⟩:=hzT T0 hiT
       have hones:=hok.ones q z hq hz
       have hzsz:z.cells.size=T0.size:=by rw [hzc,hTs]
       -- the row's value
       have hsl:∃ A C,hv=.slice A y.length C∧y.length≤C∧((A=none∧C=0)∨∃ b off arr,A=some ⟨b,off,none⟩∧S pr (pk+1) b∧Blk w b arr∧off+C * T0.size≤arr.size):=by
        cases o0 with
        | deep =>
          obtain ⟨A,C,k1,k2,k3⟩:=hroot.1
          exact ⟨A,C,k1,k2,k3.imp id fun ⟨b,off,arr,g1,g2,g3,g4,_⟩ => ⟨b,off,arr,g1,g2,g3,g4⟩⟩
        | sha =>
          obtain ⟨A,C,k1,k2,k3⟩:=hroot.1
          exact ⟨A,C,k1,k2,k3.imp id fun ⟨b,off,arr,g1,g2,g3,g4,_⟩ => ⟨b,off,arr,g1,g2,g3,g4⟩⟩
        | jnk lo hi =>
          obtain ⟨A,C,k1,k2,k3⟩:=hroot.1
          exact ⟨A,C,k1,k2,k3.imp id fun ⟨b,off,arr,g1,g2,g3,g4,_⟩ => ⟨b,off,arr,g1,g2,g3,g4⟩⟩
        | frt => simp [wipeFl,Fl.owned] at how
        | fro => simp [wipeFl,Fl.owned] at how
       obtain ⟨A,C,hhv,hyC,hA⟩:=hsl
       -- the stretch
       have hst:rgLo rg+rgN rg y.length≤y.length∧∃ A',a.eval x=.slice A' (rgN rg y.length) (C - rgLo rg)∧((A=none∧A'=none)∨∃ b off o',A=some ⟨b,off,none⟩∧A'=some ⟨b,o',none⟩∧(rgLo rg<C→o'=off+rgLo rg * T0.size)):=by
        rcases rg with _ | ⟨lo,qq⟩
        · simp only [Resl] at hr
          rw [hr,hhv]
          refine ⟨by simp [rgLo,rgN],A,by simp [rgLo,rgN], ?_⟩
          rcases hA with ⟨rfl,_⟩ | ⟨b,off,arr,rfl,_⟩
          · exact .inl ⟨rfl,rfl⟩
          · exact .inr ⟨b,off,off,rfl,rfl,fun _ => by simp [rgLo]⟩
        · simp only [Resl] at hr
          obtain ⟨n',rfl,g1,A2,C2,g2,g3,A',g4,g5⟩:=hr
          rw [hhv] at g2
          simp only [Value.slice.injEq] at g2
          obtain ⟨rfl,_,rfl⟩:=g2
          refine ⟨g1,A',g4, ?_⟩
          rcases g5 with ⟨rfl,rfl⟩ | ⟨rfl,rfl⟩ | ⟨b,off,o',rfl,rfl,g6,_⟩
          · exact .inl ⟨rfl,rfl⟩
          · rcases hA with ⟨rfl, _⟩ | ⟨b, off, arr, rfl, _⟩
            · exact .inl ⟨rfl,rfl⟩
            · exact .inr ⟨b,off,off,rfl,rfl,fun _ => by simp [rgLo]⟩
          · exact .inr ⟨b,off,o',rfl,rfl,g6⟩
       obtain ⟨hfit,A',hev,hAA⟩:=hst
       have hcl:=cut_rg (x:=y) hfit
       obtain ⟨_,s6,h6,hx⟩:=M.bind_some hx
       obtain ⟨hzero,e6⟩:=M.must_some h6
       rw [e6] at hx
       have hzero:¬ (cut rg y).length=0:=by
        intro e
        rw [dec_tt e] at hzero
        cases hzero
       · skip
         obtain ⟨c',hc',hlt,rfl⟩:=M.writeL_some hx
         rw [hcell] at hc'
         obtain rfl:=Option.some.inj hc'
         have hn0:rgN rg y.length≠0:=by omega
         rcases hA with ⟨rfl,rfl⟩ | ⟨b,off,arr,rfl,hSb,hblk,hsz⟩
         · omega
         rcases hAA with ⟨hA,_⟩ | ⟨b',off',o',hA,rfl,ho'⟩
         · cases hA
         simp only [Option.some.injEq,Addr.mk.injEq] at hA
         obtain ⟨rfl,rfl,_⟩:=hA
         have hloC:rgLo rg<C:=by omega
         obtain rfl:=ho' hloC
         have hmul:(rgLo rg+rgN rg y.length) * T0.size≤C * T0.size:=Nat.mul_le_mul_right _ (by omega)
         rw [Nat.add_mul] at hmul
         obtain ⟨n1,n2⟩:=clear_some (ty:=o.type) (c:=C - rgLo rg) hund hq hz hblk hn0 (o:=off+rgLo rg * T0.size) (by rw [hzsz]; omega) hones
         have hzl2:(Builtin.zeroCells z.cells (rgN rg y.length)).toList.length=rgN rg y.length * T0.size:=by rw [Array.length_toList,size_zeroCells,hzsz]
         rw [← hev] at n1
         refine fin _ n1 ?_
         generalize hus:(Builtin.zeroCells z.cells (rgN rg y.length)).toList=us at n2 hzl2
         have hget0:∀ k,k<rgN rg y.length * T0.size→us[k]?=some (z.cells.getD (k % T0.size) undef):=by
          intro k hk
          rw [← hus,zeroCells_get _ (by rw [hzsz]; exact hk),hzsz]
         generalize hw':w.setRow b (rowOf arr.toList (off+rgLo rg * T0.size) us).toArray=w' at n2
         have hw:OnlyAt w w' b:=by rw [← hw']; exact only_setRow _ _ _
         have hfitr:off+rgLo rg * T0.size+us.length≤arr.toList.length:=by simp; omega
         have hget:∀ k,cellAt w' b k=if off+rgLo rg * T0.size≤k∧k<off+rgLo rg * T0.size+us.length then us[k - (off+rgLo rg * T0.size)]? else cellAt w b k:=by
          intro k
          rw [cellAt_blk n2,cellAt_blk hblk]
          have:=rowOf_get (k:=k) hfitr
          simpa using this
         -- the elements' cells
         have cvin:∀ j,rgLo rg≤j→j<rgLo rg+rgN rg y.length→∀ i,i<T0.size→cv w' b (off+j * T0.size) i=z.cells.getD i undef:=by
          intro j j1 j2 i hi
          obtain ⟨d,rfl⟩:∃ d,j=rgLo rg+d:=⟨j - rgLo rg,by omega⟩
          have hdn:d * T0.size+T0.size≤rgN rg y.length * T0.size:=by
           have:=Nat.mul_le_mul_right T0.size (show d+1≤rgN rg y.length by omega)
           rwa [Nat.succ_mul] at this
          have hk:off+(rgLo rg+d) * T0.size+i - (off+rgLo rg * T0.size)=d * T0.size+i:=by rw [Nat.add_mul]; omega
          simp only [cv,hget]
          rw [if_pos (by rw [Nat.add_mul,hzl2]; omega),hk,hget0 _ (by omega)]
          have:(d * T0.size+i) % T0.size=i:=by rw [Nat.mul_comm,Nat.mul_add_mod]; exact Nat.mod_eq_of_lt hi
          rw [this]
          rfl
         have cvout:∀ j,¬ (rgLo rg≤j∧j<rgLo rg+rgN rg y.length)→∀ i,i<T0.size→cv w' b (off+j * T0.size) i=cv w b (off+j * T0.size) i:=by
          intro j hj i hi
          simp only [cv,hget]
          rw [if_neg ?_]
          rw [hzl2]
          rintro ⟨g1,g2⟩
          by_cases c1:j<rgLo rg
          · have := Nat.mul_le_mul_right T0.size (show j + 1 ≤ rgLo rg by omega)
            rw [Nat.succ_mul] at this
            omega
          · have := Nat.mul_le_mul_right T0.size (show rgLo rg + rgN rg y.length ≤ j by omega)
            rw [Nat.add_mul] at this
            omega
         have hFb:∀ i,¬ F b i:=by
          cases o0 with
          | deep => exact hroot.2 b hSb
          | sha => exact hroot.2 b hSb
          | jnk lo hi => exact hroot.2 b hSb
          | frt => simp [wipeFl,Fl.owned] at how
          | fro => simp [wipeFl,Fl.owned] at how
         have hFw:∀ y q u,F y q→cellAt w y q=some u→cellAt w' y q=some u:=fun y q u hF hq => by
          rw [cellAt_of_heap (hw.heap y fun e => hFb q (e ▸ hF))]; exact hq
         have hno:o0≠.fro:=by intro e; subst e; simp [wipeFl,Fl.owned] at how
         have hbox:=h.box_false hcell hl hno
         have hwl:(wipe T0.zero rg y).length=y.length:=by
          have:∀ j:Nat,(wipe T0.zero rg y)[j]?=none↔y[j]?=none:=by
           intro j
           by_cases hj:rgLo rg≤j∧j<rgLo rg+rgN rg y.length
           · rw [wipe_in _ hfit hj]
             simp; omega
           · rw [wipe_out _ hfit hj]
          have h1:=this y.length
          have h2:=this (wipe T0.zero rg y).length
          simp at h1 h2
          omega
         have hsize:off+C * T0.size≤(rowOf arr.toList (off+rgLo rg * T0.size) us).toArray.size:=by
          have:=rowOf_length (old:=arr.toList) (us:=us) (o:=off+rgLo rg * T0.size) hfitr
          simp only [List.size_toArray,this,Array.length_toList]
          exact hsz
         have hzD:∀ (X:BS) (cs:Nat→Value),(∀ i,i<T0.size→cs i=z.cells.getD i undef)→RepD w' T0 T0.zero cs X:=by
          intro X cs hcs
          exact ((hTz.stable (w':=w') (fun b hb => hb.elim)).up (fun _ h => h.elim)).congr hcs
         refine (h.absorb (o':=o1) (x':=wipe T0.zero rg y) (X:=S pr (pk+1)) (F':=F) (e:=allE) hcell (.inl hl) hu hhv hbox hwl hSb hw hFb ⟨.all _ hwl,fun _ i _ _ _ _ _ hcol => by rw [testBit_allE] at hcol; cases hcol⟩ (fun y hy => .inl hy) (fun _ _ h => h) (fun _ _ h => .inl h) ?_).rel
         cases o0 with
         | jnk jl jh =>
           obtain ⟨l9,rfl,hl9,rfl⟩:∃ l9,rg=some (l9,none)∧l9≤jl∧o1=.deep:=by
            simp only [wipeFl] at how
            split at how
            · exact ⟨_,rfl,by simpa [wipeOk] using hwok,(Option.some.inj how).symm⟩
            · cases how
           obtain ⟨A,C',k1,k2,k3⟩:=hroot.1
           rw [hhv] at k1
           simp only [Value.slice.injEq] at k1
           obtain ⟨rfl,_,rfl⟩:=k1
           rcases k3 with ⟨k3,_⟩ | ⟨b',off',arr',k3,k4,k5,k6,Ss,k7,k8,k9⟩
           · cases k3
           · simp only [Option.some.injEq, Addr.mk.injEq] at k3
             obtain ⟨rfl,rfl,_⟩:=k3
             refine ⟨⟨some ⟨b,off,none⟩,C,by rw [hwl]; exact hhv,by rw [hwl]; exact k2,.inr ⟨b,off,_,rfl,k4,n2,hsize,fun j => if j<l9 then Ss j else fun _ => False,fun j q hq => ?_,fun j j' q hne hq hq' => ?_,fun j f hf => ?_⟩⟩,hroot.2⟩
             · dsimp only at hq
               split at hq
               · exact k7 j q hq
               · exact hq.elim
             · dsimp only at hq hq'
               split at hq
               · split at hq'
                 · exact k8 j j' q hne (.inl (by omega)) (.inl (by omega)) hq hq'
                 · exact hq'.elim
               · exact hq.elim
             · by_cases hin : rgLo (some (l9, none)) ≤ j ∧ j < rgLo (some (l9, none)) + rgN (some (l9, none)) y.length
               · rw [wipe_in _ hfit hin] at hf
                 obtain rfl:=Option.some.inj hf
                 exact hzD _ _ fun i hi => cvin j hin.1 hin.2 i hi
               · rw [wipe_out _ hfit hin] at hf
                 have hj:=get_lt hf
                 have hjl:j<l9:=by
                  simp only [rgLo,rgN,Option.getD_none] at hin
                  omega
                 dsimp only
                 rw [if_pos hjl]
                 exact ((k9 j f hf).stable fun y hy => hw.heap y (k7 _ y hy).2).congr fun i hi => cvout j hin i hi
         | deep =>
           obtain rfl:o1=.deep:=by simpa [wipeFl,Fl.owned] using how.symm
           obtain ⟨A,C',k1,k2,k3⟩:=hroot.1
           rw [hhv] at k1
           simp only [Value.slice.injEq] at k1
           obtain ⟨rfl,_,rfl⟩:=k1
           rcases k3 with ⟨k3,_⟩ | ⟨b',off',arr',k3,k4,k5,k6,Ss,k7,k8,k9⟩
           · cases k3
           · simp only [Option.some.injEq, Addr.mk.injEq] at k3
             obtain ⟨rfl,rfl,_⟩:=k3
             refine ⟨⟨some ⟨b,off,none⟩,C,by rw [hwl]; exact hhv,by rw [hwl]; exact k2,.inr ⟨b,off,_,rfl,k4,n2,hsize,Ss,k7,k8,fun j f hf => ?_⟩⟩,hroot.2⟩
             by_cases hin:rgLo rg≤j∧j<rgLo rg+rgN rg y.length
             · rw [wipe_in _ hfit hin] at hf
               obtain rfl:=Option.some.inj hf
               exact hzD _ _ fun i hi => cvin j hin.1 hin.2 i hi
             · rw [wipe_out _ hfit hin] at hf
               exact ((k9 j f hf).stable fun y hy => hw.heap y (k7 _ y hy).2).congr fun i hi => cvout j hin i hi
         | sha =>
           obtain rfl:o1=.sha:=by simpa [wipeFl,Fl.owned] using how.symm
           obtain ⟨A,C',k1,k2,k3⟩:=hroot.1
           rw [hhv] at k1
           simp only [Value.slice.injEq] at k1
           obtain ⟨rfl,_,rfl⟩:=k1
           rcases k3 with ⟨k3,_⟩ | ⟨b',off',arr',k3,k4,k5,k6,k9⟩
           · cases k3
           · simp only [Option.some.injEq, Addr.mk.injEq] at k3
             obtain ⟨rfl,rfl,_⟩:=k3
             refine ⟨⟨some ⟨b,off,none⟩,C,by rw [hwl]; exact hhv,by rw [hwl]; exact k2,.inr ⟨b,off,_,rfl,k4,n2,hsize,fun j f hf => ?_⟩⟩,hroot.2⟩
             by_cases hin:rgLo rg≤j∧j<rgLo rg+rgN rg y.length
             · rw [wipe_in _ hfit hin] at hf
               obtain rfl:=Option.some.inj hf
               exact (hzD (fun _ => False) _ fun i hi => cvin j hin.1 hin.2 i hi).toF fun _ _ h => h.elim
             · rw [wipe_out _ hfit hin] at hf
               exact ((k9 j f hf).stable (fun _ _ h => h) hFw).congr fun i hi => cvout j hin i hi
         | frt => simp [wipeFl,Fl.owned] at how
         | fro => simp [wipeFl,Fl.owned] at how
     · exact (M.fail_some hx).elim
   · exact (M.fail_some hx).elim
 · exact (M.fail_some hx).elim
theorem cap_ok (hE : EnvOK P E) (h : Rl G [] st a w vals B F S) {o : Oper} {c : Call} {x : Operand} {t : TypeId} (ho : o.op = .call c) (hc : c.callee = .builtin .cap) (ha : c.args.toList = [x]) (ht : c.argTypes[0]? = some t)
 {u:Unit} (hx:(capOp E o.dst t x).exec st=some (u,st')):OpOK P o a w fun a' w' => Rel G [] st' a' w':=by
 unfold capOp at hx
 split at hx
 · rename_i e T n ag TT zs hti
   obtain ⟨l,st1,h1,h2⟩:=M.bind_some hx
   obtain ⟨rfl,hl⟩:=opnd1_ok h h1
   split at h2
   · have hv:a.eval x=.slice none 0 0:=by
        have:=hl.1
        exact LRep.nilVal (S0:=fun _ => False) this
     have hu:=(tk_slice hE hti).1
     have hargs:c.args=#[x]:=by
        have:c.args=c.args.toList.toArray:=by simp
        rw [this,ha]
     refine op_value (w':=w) (v:=.int .i64 0) ?_ (dst1_ok h .ofInt rfl h2)
     have hb:∀ cs,(builtin .cap c.argTypes o.type cs #[a.eval x]).run P w=.ok (.value (.int .i64 0)) w:=by
        intro cs
        simp only [builtin,Builtin.cap_,ht,hv,Sem.run_bind]
        simp [underlying_run hu,goInt]
     rw [execOp,ho]
     simp only [resolve,hc,hargs,Sem.run_bind,Sem.run_pure,Result.andThen_ok,invoke,List.map_toArray,List.map_cons,List.map_nil]
     exact hb _
   · exact (M.fail_some h2).elim
 · exact (M.fail_some hx).elim
end
end GoV

/- All operations; V is sound. -/
namespace GoV
open Go
section
variable {G:Ctx} {fl:List (L × Value)} {st st' s s' ex:St} {a:Act} {w w':World} {vals vals':VS} {B B':Nat→Nat} {F F' F1:FS} {S:Nat→Nat→BS} {E:Env} {P:Program}

theorem minmax_ok (h : Rl G [] st a w vals B F S) {o : Oper} {c : Call} {mn : Bool} {x y : Operand} {t : TypeId} (ho : o.op = .call c) (hc : c.callee = .builtin (if mn then .min else .max)) (ha : c.args.toList = [x, y])
 (hx:(minmaxOp E mn o.dst t x y).exec st=some ((),st')):OpOK P o a w fun a' w' => Rel G [] st' a' w':=by
 unfold minmaxOp at hx
 obtain ⟨la,s1,h1,hx1⟩:=M.bind_some hx
 obtain ⟨e1,hla⟩:=opnd1_ok h h1
 rw [e1] at hx1
 obtain ⟨lb,s2,h2,hx2⟩:=M.bind_some hx1
 obtain ⟨e2,hlb⟩:=opnd1_ok h h2
 rw [e2] at hx2
 obtain ⟨b,s3,h3,hx3⟩:=M.bind_some hx2
 obtain ⟨e3,fo,kb,rfl⟩:=asInt_ok h3
 rw [e3] at hx3
 split at hx3
 · rename_i fa k av
   have hargs:c.args=#[x,y]:=by
    have:c.args=c.args.toList.toArray:=by simp
    rw [this,ha]
   refine op_value (w':=w) (v:=.int k (if mn then (if b<av then b else av) else (if b > av then b else av))) ?_ (dst1_ok h .ofInt rfl hx3)
   rw [execOp,ho]
   simp only [resolve,hc,hargs,Sem.run_bind,Sem.run_pure,Result.andThen_ok,invoke,List.map_toArray,List.map_cons,List.map_nil,hla.int,hlb.int]
   cases mn <;> simp [builtin,Builtin.min_,Builtin.max_,Builtin.min2,Builtin.max2,hla.int,hlb.int]
 · exact (M.fail_some hx3).elim
theorem vop_ok (hE:EnvOK P E):∀ call,CallOK P call→Enters P call→∀ G np soft,StepsOK P E call np soft G:=by
 intro call hcall hent G np soft st st' a w o hrel hx
 obtain ⟨vals,B,F,S,h⟩:=hrel
 unfold vop at hx
 split at hx
 · rename_i x ho; exact move_ok h ho hx
 · rename_i x ho; exact assign_ok h ho hx
 · rename_i c x y ho; exact pick_ok h ho hx
 · rename_i t ho; exact alloc_ok hE h ho hx
 · rename_i t x ho; exact box_ok hE h ho hx
 · rename_i t ps ho; exact build_ok hE h ho hx
 · rename_i t n ps ho; exact buildSlice_ok hE h ho hx
 · rename_i t x ho; exact load_ok hE h ho hx
 · rename_i t x y ho; exact store_ok hE h ho hx
 · rename_i x ho; exact nilCheck_ok h ho hx
 · rename_i op t x y yt ho; exact binOp_ok hE h ho hx
 · rename_i op t x ho; exact unOp_ok h ho hx
 · rename_i t1 t2 x ho; exact convert_ok hE h ho hx
 · rename_i f first caps ho; exact makeFunc_ok h ho hx
 · rename_i t l c ho; exact make_ok hE h ho hx
 · rename_i t x lo hi mx ho
   obtain ⟨_,s1,h1,hx1⟩:=M.bind_some hx
   obtain ⟨hm,e1⟩:=M.must_some h1
   rw [e1] at hx1
   have:mx=none:=by simpa using hm
   subst this
   exact slice_ok hE h ho hx1
 · rename_i t x f ho; exact fieldAddr_ok hE h ho hx
 · rename_i t x f ho; exact field_ok hE h ho hx
 · rename_i t x i ho; exact index_ok hE h ho hx
 · rename_i t x i ho; exact indexV_ok hE h ho hx
 · rename_i x i ho; exact extract_ok h ho hx
 · rename_i c ho
   split at hx
   · rename_i hc
     split at hx
     · rename_i x t ha ht; exact len_ok hE h ho hc ha ht hx
     · exact (M.fail_some hx).elim
   · rename_i hc
     split at hx
     · rename_i x y t ha ht; exact minmax_ok (mn:=true) h ho hc ha hx
     · exact (M.fail_some hx).elim
   · rename_i hc
     split at hx
     · rename_i x y t ha ht; exact minmax_ok (mn:=false) h ho hc ha hx
     · exact (M.fail_some hx).elim
   · rename_i hc
     split at hx
     · rename_i x y t t' ha ht; exact appendOp_ok hE h ho hc ha ht hx
     · exact (M.fail_some hx).elim
   · rename_i hc
     split at hx
     · rename_i x t ha ht; exact clear_ok hE h ho hc ha ht hx
     · exact (M.fail_some hx).elim
   · rename_i hc
     split at hx
     · rename_i x t ha ht; exact cap_ok hE h ho hc ha ht hx
     · exact (M.fail_some hx).elim
   · rename_i x hc; exact call_ok hE hcall hent h ho hc hx
   · exact (M.fail_some hx).elim
 · exact (M.fail_some hx).elim
theorem sound (hE:EnvOK P E) (hF:FnsOK P E) (n:Nat):CallOK P (fun g cs => .of (vcall E n g cs)):=(vcall_ok hE hF (vop_ok hE) n).1
end
end GoV
