/- A part of the proof of FnPictured: an interpreter of the model over plain data, its soundness, and what it makes of the functions that the statement reaches. Conditions: none beyond what the given statement itself says. -/
import Derived.Test.YtbimgkhikmmhoaaTF
import Derived.Deep.Slices
import Derived.Carry
import Derived.SizedLaws
import Derived.JoinedOf
set_option linter.unusedVariables false
set_option linter.unusedSimpArgs false
set_option linter.unnecessarySimpa false
set_option linter.unusedSectionVars false
/- What a statement's arguments are, as data; a statement that V shows true holds. -/
namespace GoV
open Go Go.ChangeShapes Go.WideShapes Go.RowKit

/-! ## Types -/
def tyS (f : TypeId → Ty → Bool) (P : Program) : Nat → List Field → Ty → Bool
 | o,[x],T => decide (x.offset=o) && (decide (P.cellsOf x.type=T.size) && f x.type T)
 | o,x::y::r,.pair a b => decide (x.offset=o) && (decide (P.cellsOf x.type=a.size) && (f x.type a && tyS f P (o+a.size) (y::r) b))
 | _,_,_ => false
def tyB (P : Program) : Nat → TypeId → Ty → Bool
 | 0,_,_ => false
 | n + 1, t, T => match P.underlying t, T with
   | some (.int k),.int k' => decide (k=k')
   | some .bool,.bool => true
   | some (.slice e),.sl T' => decide (P.cellsOf e=T'.size) && (decide (0<T'.size) && tyB P n e T')
   | some (.struct fs),T => decide (P.cellsOf t=T.size) && tyS (tyB P n) P 0 fs.toList T
   | _,_ => false
def WfT : (T : Ty) → T.C → Prop
 | .int k,x => k.min≤x∧x≤k.max
 | .bool,_ => True
 | .sl t,l => (l.length:Int)≤9223372036854775807∧∀ x,x∈l→WfT t x
 | .pair a b,x => WfT a x.1∧WfT b x.2
 | .unit,_ => True
def FAll (w:World):FS:=fun b _ => b<w.heap.size
theorem cell?_lt {w:World} {a:Addr} {v:Value} (h:w.cell? a=some v):a.block<w.heap.size:=by
 by_cases e:a.block<w.heap.size
 · exact e
 · have : w.heap[a.block]? = none := by simp; omega
   simp [World.cell?,this] at h
section
variable {H:Type} {enc:TypeId × Value→H} {P:Program} {w:World} {base:Nat} {spare:Nat→Bool} {held:Bool}
theorem list_of {α:Type} (z:α) {n:Nat} {p:Nat→α→Prop} (h:∀ i,i<n→∃ x,p i x):∃ l:List α,l.length=n∧∀ i x,l[i]?=some x→p i x:=by
 haveI:Inhabited α:=⟨z⟩
 obtain ⟨f,hf⟩:=Deep.choose_lt h
 refine ⟨(List.range n).map f,by simp,fun i x hx => ?_⟩
 rw [List.getElem?_map] at hx
 obtain ⟨j,hj,rfl⟩:=Option.map_eq_some_iff.1 hx
 have hlt:i<n:=by have:=get_lt hj; simpa using this
 rw [List.getElem?_range hlt] at hj
 obtain rfl:=Option.some.inj hj
 exact hf i hlt
theorem open_any : ∀ (n : Nat) (t : TypeId) (T : Ty) (fuel : Nat) (cs : List Value) (x : DataW H × List MemPlace), tyB P n t T = true → DataW.trod enc P w base spare held fuel t cs = some x →
 cs.length=T.size∧∃ v:T.C,RepF (FAll w) w T v (fun i => cs.getD i undef)∧WfT T v
 | 0,_,_,_,_,_,h,_ => by cases h
 | n+1,t,T,fuel,cs,x,h,hd => by
   have ih:=open_any n
   unfold tyB at h
   split at h
   · rename_i k k' ht
     have e:k=k':=of_decide_eq_true h
     subst e
     obtain ⟨m,rfl,_,hw⟩:=DataW.trod_int ht hd
     refine ⟨rfl,m,rfl, ?_⟩
     simp only [Lit.wf,Bool.and_eq_true,decide_eq_true_eq] at hw
     exact hw
   · rename_i ht
     obtain ⟨b,rfl,_⟩:=DataW.trod_bool ht hd
     exact ⟨rfl,b,rfl,trivial⟩
   · rename_i e T' ht
     simp only [Bool.and_eq_true,decide_eq_true_eq] at h
     obtain ⟨hc,hpos,hb⟩:=h
     rcases Deep.open_slice ht hd with ⟨rfl,_⟩ | ⟨a,len,cap,m,fu,D,Pl,rfl,_,hl,hm,hmm,_,hx⟩
     · exact ⟨rfl,[],⟨none,0,rfl,Nat.le_refl _,.inl rfl⟩,by simp,fun y hy => by cases hy⟩
     · have hlen : len ≤ m := by rw [hmm]; split <;> omega
       obtain ⟨l,hll,hl2⟩:=list_of (T'.zero) (n:=len) (p:=fun i v => RepF (FAll w) w T' v (fun k => ((w.cells? base (a.add (i * P.cellsOf e)) (P.cellsOf e)).getD []).getD k undef)∧WfT T' v) (fun i hi => by
        obtain ⟨cs',h1,h2⟩:=hx i (by omega)
        obtain ⟨_,v,hv,hw⟩:=ih e T' fu cs' _ hb h2
        exact ⟨v,by rw [h1]; exact hv,hw⟩)
       refine ⟨rfl,l,⟨some a,cap,by rw [hll]; rfl,by omega, ?_⟩, ?_,fun y hy => ?_⟩
       · by_cases hz : len = 0
         · left
           cases l with
           | nil => rfl
           | cons _ _ => simp at hll; omega
         · right
           have hcell:∀ i,i<len→∀ k,k<T'.size→∃ u,w.cell? ((a.add (i * T'.size)).add k)=some u∧((w.cells? base (a.add (i * P.cellsOf e)) (P.cellsOf e)).getD []).getD k undef=u:=by
             intro i hi k hk
             obtain ⟨cs',h1,h2⟩:=hx i (by omega)
             obtain ⟨_,g1,g2⟩:=World.cells?_some h1
             have g3:=g2 k (by omega)
             rw [hc] at g3
             have hk':k<cs'.length:=by omega
             refine ⟨cs'[k],by rw [g3]; simp [hk'], ?_⟩
             rw [h1]
             simp [List.getD,hk']
           obtain ⟨u0,hu0,_⟩:=hcell 0 (by omega) 0 hpos
           obtain ⟨b,off,spot⟩:=a
           have hspot:spot=none:=by simpa [Addr.add] using World.cell?_spot hu0
           subst hspot
           refine ⟨b,off,rfl,fun j y hy => ?_⟩
           have hj:j<len:=by rw [← hll]; exact get_lt hy
           have hat:∀ k,k<T'.size→∃ u,cellAt w b (off+j * T'.size+k)=some u∧((w.cells? base ((⟨b,off,none⟩:Addr).add (j * P.cellsOf e)) (P.cellsOf e)).getD []).getD k undef=u:=by
             intro k hk
             obtain ⟨u,h1,h2⟩:=hcell j hj k hk
             refine ⟨u, ?_,h2⟩
             rw [Deep.add_add,add_plain] at h1
             simpa [cellAt,Nat.add_assoc] using h1
           refine ⟨fun k hk => ?_,(hl2 j y hy).1.congr fun k hk => ?_⟩
           · obtain ⟨u, h1, _⟩ := hat k hk
             exact ⟨cell?_lt (a:=⟨b,_,none⟩) h1,u,h1⟩
           · obtain ⟨u, h1, h2⟩ := hat k hk
             rw [h2]
             simp [cv,h1]
       · simp only [maxLen] at hm
         rw [hll]
         omega
       · obtain ⟨i, hi⟩ := List.getElem?_of_mem hy
         exact (hl2 i y hi).2
   · rename_i fs ht
     simp only [Bool.and_eq_true,decide_eq_true_eq] at h
     obtain ⟨hsz,hs⟩:=h
     obtain ⟨xs,m,_,_,hl,_,hf⟩:=DataW.trod_struct ht hd
     refine ⟨hl.trans hsz, ?_⟩
     have key : ∀ (r : List Field) (o i : Nat) (T : Ty), tyS (tyB P n) P o r T = true → (∀ j f, r[j]? = some f → fs[i + j]? = some f) → i + r.length = fs.size → o + T.size ≤ cs.length →
      ∃ v:T.C,RepF (FAll w) w T v (fun k => cs.getD (o+k) undef)∧WfT T v:=by
       have field : ∀ (i : Nat) (f : Field) (T : Ty), fs[i]? = some f → P.cellsOf f.type = T.size → tyB P n f.type T = true → f.offset + T.size ≤ cs.length →
        ∃ v:T.C,RepF (FAll w) w T v (fun k => cs.getD (f.offset+k) undef)∧WfT T v:=by
        intro i f T hfi hc hb ho
        have hlt:i<xs.length:=by
         rename_i hxl _ _
         have:i<fs.size:=by
             rcases Nat.lt_or_ge i fs.size with g | g
             · exact g
             · rw [Array.getElem?_eq_none g] at hfi; cases hfi
         omega
        have h1:=hf i f hfi
        rw [List.getElem?_eq_getElem hlt] at h1
        obtain ⟨_,v,hv,hw⟩:=ih f.type T m _ _ hb h1
        refine ⟨v,hv.congr fun k hk => ?_,hw⟩
        rw [hc]
        simp only [List.getD_eq_getElem?_getD,List.getElem?_take,if_pos hk,List.getElem?_drop]
       intro r
       induction r with
       | nil => intro o i T h; simp [tyS] at h
       | cons f r ihr =>
         intro o i T h hfs hlen ho
         cases r with
         | nil =>
           simp only [tyS,Bool.and_eq_true,decide_eq_true_eq] at h
           obtain ⟨rfl,h2,h3⟩:=h
           exact field i f T (by simpa using hfs 0 f rfl) h2 h3 ho
         | cons g r =>
           cases T <;> first | (simp [tyS] at h; done) | skip
           rename_i a b
           simp only [tyS,Bool.and_eq_true,decide_eq_true_eq] at h
           obtain ⟨rfl,h2,h3,h4⟩:=h
           simp only [Ty.size] at ho
           obtain ⟨v,hv,hw⟩:=field i f a (by simpa using hfs 0 f rfl) h2 h3 (by omega)
           obtain ⟨v',hv',hw'⟩:=ihr (f.offset+a.size) (i+1) b h4 (fun j f' hj => by
             have:=hfs (j+1) f' (by simpa using hj)
             rwa [Nat.add_assoc,Nat.add_comm 1 j]) (by simp only [List.length_cons] at hlen ⊢; omega) (by omega)
           exact ⟨(v,v'),⟨hv,hv'.congr fun k hk => by rw [Nat.add_assoc]⟩,hw,hw'⟩
     obtain ⟨v,hv,hw⟩:=key fs.toList 0 0 _ hs (fun j f hj => by simpa using hj) (by simp) (by omega)
     exact ⟨v,hv.congr fun k hk => by show cs.getD k undef=cs.getD (0+k) undef; rw [Nat.zero_add],hw⟩
   · cases h
end

/-! ## Arguments -/
def shA (agg:Bool):Sh:=bif agg then .agg else .one
def cellA (agg:Bool) (T:Ty) (x:T.C):Cell:=⟨.val (shA agg),T.leaves .fro x,false,false,false,0,0⟩
def ArgR (w:World) (agg:Bool) (T:Ty) (x:T.C) (v:Value):Prop:=∃ us,VR (shA agg) us v∧us.length=T.size∧RepF (FAll w) w T x (fun i => us.getD i undef)
def aggB (P:Program) (t:TypeId):Bool:=match P.underlying t with | some (.struct _) => true | _ => false
theorem open_arg {H : Type} {enc : TypeId × Value → H} {P : Program} {w : World} {base b0 : Nat} {r : Reach} {spare : Nat → Bool} {held : Bool} {n : Nat} {t : TypeId} {T : Ty} {agg : Bool} {v : Value} {d : DataW H} {ps : List MemPlace}
 (hb:tyB P n t T=true) (ha:aggB P t=agg) (hval:Value.okWide P w r b0 t v) (hd:DataW.Trod enc P w base spare held t v d ps):∃ x:T.C,ArgR w agg T x v∧WfT T x:=by
 obtain ⟨fuel,hf⟩:=hd
 obtain ⟨hl,x,hx,hw⟩:=open_any n t T fuel _ _ hb hf
 refine ⟨x,⟨v.cells.toList, ?_,hl,hx⟩,hw⟩
 subst ha
 cases n with
 | zero => cases hb
 | succ n =>
   unfold tyB at hb
   split at hb
   · rename_i k k' ht
     obtain ⟨m,rfl⟩:=okWide_int ht hval
     simp [aggB,ht,shA,VR,Value.cells]
   · rename_i ht
     obtain ⟨m,rfl⟩:=okWide_bool ht hval
     simp [aggB,ht,shA,VR,Value.cells]
   · rename_i e T' ht
     obtain ⟨a,l,c,rfl⟩:=okWide_slice ht hval
     simp [aggB,ht,shA,VR,Value.cells]
   · rename_i fs ht
     obtain ⟨cs,rfl,_⟩:=okWide_struct ht hval
     simp [aggB,ht,shA,VR,Value.cells]
   · cases hb
theorem CRep.lrep {F:FS} {w:World} {l:L} {v:Value} (h:CRep F w l v) (S:BS):LRep F w l v S:=by
 cases h with
 | d T x v h1 h2 => exact .d T x v h1 h2
 | nil t => exact .nil t
 | fe T x o b base h1 h2 => exact .fe T x o b base h1 h2
 | rp ls o b us h1 h2 h3 => exact .rp ls o b us h1 h2 h3
 | fn f caps arr h1 h2 => exact .fn f caps arr h1 h2
theorem CRep.noref {F:FS} {w:World} {l:L} {v:Value} (h:CRep F w l v):l.ref=false:=by cases h <;> rfl
theorem law_run {P : Program} {E : Env} (hE : EnvOK P E) (hF : FnsOK P E) {f : FuncId} {cells fin : List Cell} (h : vlim E f cells = some (⟨.one, [.d .fro .bool true]⟩, fin)) {W : World} {args : List Value}
 (hlen:args.length=cells.length) (hargs:∀ i c,cells[i]?=some c→∃ agg T,∃ x:T.C,c=cellA agg T x∧ArgR W agg T x (args.getD i undef)) :
 Calls P f args.toArray W fun e W' => e=.returned (.bool true)∧Below W.heap.size W W':=by
 obtain ⟨n,hn⟩:=lim_some.1 h
 have hcall:=hn n (Nat.le_refl _)
 have hv:∀ i,∃ us:List Value,∀ c,cells[i]?=some c→∃ agg T,∃ x:T.C,c=cellA agg T x∧VR (shA agg) us (args.getD i undef)∧us.length=T.size∧RepF (FAll W) W T x (fun i => us.getD i undef):=by
  intro i
  cases hc:cells[i]? with
  | none => exact ⟨[],fun c h => by cases h⟩
  | some c =>
    obtain ⟨agg,T,x,e,us,h1,h2,h3⟩:=hargs i c hc
    exact ⟨us,fun c' hc' => by obtain rfl:=Option.some.inj hc'; exact ⟨agg,T,x,e,h1,h2,h3⟩⟩
 obtain ⟨vals,hvals⟩:=Classical.axiomOfChoice hv
 have hleaf:∀ (i:Nat) (c:Cell) (k:Nat) (l:L) (u:Value),cells[i]?=some c→c.ls[k]?=some l→(vals i)[k]?=some u→CRep (FAll W) W l u:=by
  intro i c k l u hc hl hu
  obtain ⟨agg,T,x,rfl,h1,h2,h3⟩:=hvals i c hc
  have:=(leaves_fro h3 hl).1
  simpa [List.getD,hu] using this
 have hnr:noRef cells:=by
  intro c hc l hl
  obtain ⟨i,hi⟩:=List.getElem?_of_mem hc
  obtain ⟨k,hk⟩:=List.getElem?_of_mem hl
  obtain ⟨agg,T,x,e,h1,h2,h3⟩:=hvals i c hi
  have hkl:k<(vals i).length:=by
   rw [h2]
   have:=get_lt hk
   rw [e] at this
   simpa [cellA,leaves_length] using this
  exact (hleaf i c k l _ hi hk (List.getElem?_eq_getElem hkl)).noref
 let G:Ctx:=⟨W,FAll W,fun b => b<W.heap.size,fun _ => False,args.toArray⟩
 have hrl:Rl G [] cells ⟨G.args,[]⟩ G.w0 vals (fun _ => 0) G.F0 (fun _ _ _ => False):=by
  refine ⟨by simpa [G] using hlen, rfl, fun i c hc => ?_, fun i c k l u hc hl hu => ?_, fun k l u hf => by simp at hf, fun i k i' k' b _ hb _ => hb, fun i k b hb => hb.elim, fun b o hb => ⟨hb, .inl hb⟩,
   fun b o hb => ⟨hb,fun v hv => hv⟩,fun b hb => ⟨hb,rfl⟩,⟨rfl,rfl,rfl,Nat.le_refl _⟩,fun i c hc hp => rfl⟩
  · obtain ⟨agg, T, x, rfl, h1, h2, h3⟩ := hvals i c hc
    simp only [CellOK,cellA]
    refine ⟨by rw [h2,leaves_length],by simpa [G] using h1,fun u hu => ?_⟩
    obtain ⟨k,hk⟩:=List.getElem?_of_mem hu
    have hkl:k<(T.leaves .fro x).length:=by rw [leaves_length,← h2]; exact get_lt hk
    have:=(leaves_fro h3 (List.getElem?_eq_getElem hkl)).2
    simpa [List.getD,hk] using this
  · have := hleaf i c k l u hc hl hu
    exact ⟨this.lrep _,link_of_ref this.noref⟩
 have:=sound hE hF n f cells _ _ (by simp only [CallR.of_get]; exact hcall) G vals (fun _ => 0) (fun _ _ _ => False) hnr hrl
 refine this.mono fun e W' he => ?_
 obtain ⟨v,us,rfl,h1,_,h3,_,_,_,a',vals',B',F',S',hr⟩:=he
 simp only [VR] at h1
 subst h1
 have hl:=(hr.fleaf 0 _ _ rfl).1
 have hc:CRep F' W' (.d .fro .bool true) v:=hl
 refine ⟨?_,hr.wo.1,hr.wo.2.1,hr.wo.2.2.1,hr.wo.2.2.2,fun k hk => (hr.un k hk).2⟩
 cases hc with
 | d _ _ _ _ h2 =>
   simp only [RepF] at h2
   rw [h2]
theorem below_trodAll {H : Type} {enc : TypeId × Value → H} {P : Program} (hl : laidOutB P = true) {W W' : World} (hb : Below W.heap.size W W') : ∀ {ts : List TypeId} {vs : List Value} {ds : List (DataW H)} {ps : List MemPlace},
 (ts.all fun t => P.readableRec t && decide (t<P.types.size))=true→DataW.TrodAll enc P W 0 (fun _ => true) true ts vs ds ps→DataW.TrodAll enc P W' 0 (fun b => decide (b<W.heap.size)) true ts vs ds ps
 | [],vs,ds,ps,_,h => by
   obtain ⟨rfl,rfl,rfl⟩:=trodAll_nil h
   exact trodAll_mk0
 | t::ts,vs,ds,ps,ht,h => by
   obtain ⟨v,vs',d,ds',p,q,rfl,rfl,rfl,h1,h2⟩:=trodAll_cons h
   simp only [List.all_cons,Bool.and_eq_true,decide_eq_true_eq] at ht
   have hlt:∀ x∈p,x.block<W.heap.size:=by obtain ⟨m,hm⟩:=h1; exact DataW.trod_lt m _ _ _ hm
   exact ⟨p,q,Below.trod hl ht.1.1 ht.1.2 h1 hb hlt,below_trodAll hl hb ht.2 h2,rfl⟩
end GoV

/- The tables' checks, for the kernel. -/
namespace GoV
open Go

def zrepB : L → Value → Bool
 | .d .fro (.int k) x,.int k' y => decide (k'=k) && decide (y=x)
 | .d .fro .bool x,.bool y => decide (y=x)
 | .nil _,.slice none 0 0 => true
 | .dead,_ => true
 | _,_ => false
theorem zrepB_ok {l:L} {v:Value} (h:zrepB l v=true):ZRep l v:=by
 unfold zrepB at h
 split at h
 · simp only [Bool.and_eq_true, decide_eq_true_eq] at h
   obtain ⟨rfl,rfl⟩:=h
   rfl
 · simp only [decide_eq_true_eq] at h
   subst h
   rfl
 · rfl
 · trivial
 · cases h
def zeroB : Ty → (Nat → Value) → Nat → Bool
 | .int k, cs, o => match cs o with
   | .int k' n => decide (k'=k) && decide (n=0)
   | _ => false
 | .bool, cs, o => match cs o with
   | .bool b => !b
   | _ => false
 | .sl _, cs, o => match cs o with
   | .slice none 0 0 => true
   | _ => false
 | .pair a b,cs,o => zeroB a cs o && zeroB b cs (o+a.size)
 | .unit,_,_ => true
theorem zeroB_ok {w : World} : ∀ (T : Ty) (cs : Nat → Value) (o : Nat) (S : BS), zeroB T cs o = true → RepD w T T.zero (fun k => cs (o + k)) S
 | .int k,cs,o,S,h => by
   simp only [zeroB] at h
   split at h
   · rename_i k' n e
     simp only [Bool.and_eq_true,decide_eq_true_eq] at h
     obtain ⟨rfl,rfl⟩:=h
     exact e
   · cases h
 | .bool,cs,o,S,h => by
   simp only [zeroB] at h
   split at h
   · rename_i b e
     cases b with
     | true => cases h
     | false => exact e
   · cases h
 | .sl t,cs,o,S,h => by
   simp only [zeroB] at h
   split at h
   · rename_i e
     exact ⟨none,0,e,Nat.le_refl _,.inl ⟨rfl,rfl⟩⟩
   · cases h
 | .pair a b,cs,o,S,h => by
   simp only [zeroB,Bool.and_eq_true] at h
   refine ⟨fun _ => False,fun _ => False,fun _ h => h.elim,fun _ h => h.elim,fun _ h => h.elim,zeroB_ok a cs o _ h.1, ?_⟩
   have:=zeroB_ok (w:=w) b cs (o+a.size) (fun _ => False) h.2
   exact this.congr fun i _ => by rw [Nat.add_assoc]
 | .unit,_,_,_,_ => trivial
def isAggV : Value → Bool
 | .agg _ => true
 | _ => false
def fieldB (P:Program) (f:Field) (p:Nat × Nat × Bool):Bool :=
 decide (p.1 = f.offset) && match P.info? f.type with
    | some q => decide (q.size = p.2.1) && (decide (q.size ≠ 0) && match P.underlying f.type with
      | some d => decide (isAggD d=p.2.2)
      | none => false)
    | none => false
def tkB (P : Program) (E : Env) (d : TypeDesc) : TK → Bool
 | .int k => match d with
   | .int k' => decide (k'=k)
   | _ => false
 | .bool => match d with
   | .bool => true
   | _ => false
 | .slice e t => match d with
   | .slice e' => decide (e' = e) && match E.ti e with
     | some ie => decide (ie.T=some t)
     | none => false
   | _ => false
 | .struct ps => match d with
   | .struct fs => decide (ps.length = fs.size) && (List.range fs.size).all fun i => match fs[i]?, ps[i]? with
     | some f,some p => fieldB P f p
     | _,_ => true
   | _ => false
 | .arr m w ag => match d with
   | .array m' e => decide (m' = m) && match P.info? e with
     | some q => decide (q.size = w) && match P.underlying e with
       | some d => decide (isAggD d=ag)
       | none => false
     | none => false
   | _ => false
 | .other => true
theorem tkB_ok {P:Program} {E:Env} {d:TypeDesc} {tk:TK} (h:tkB P E d tk=true):TKOK P E d tk:=by
 cases tk with
 | int k =>
   simp only [tkB] at h
   split at h
   · simp only [decide_eq_true_eq] at h; subst h; rfl
   · cases h
 | bool =>
   simp only [tkB] at h
   split at h
   · rfl
   · cases h
 | slice e t =>
   simp only [tkB] at h
   split at h
   · simp only [Bool.and_eq_true, decide_eq_true_eq] at h
     obtain ⟨rfl,h⟩:=h
     split at h
     · rename_i ie hie
       exact ⟨rfl,ie,hie,of_decide_eq_true h⟩
     · cases h
   · cases h
 | struct ps =>
   simp only [tkB] at h
   split at h
   · rename_i fs
     simp only [Bool.and_eq_true,decide_eq_true_eq,List.all_eq_true,List.mem_range] at h
     obtain ⟨h1,h2⟩:=h
     refine ⟨fs,rfl,h1,fun i f p hf hp => ?_⟩
     have hi:i<fs.size:=by
        rcases Nat.lt_or_ge i fs.size with g | g
        · exact g
        · rw [Array.getElem?_eq_none g] at hf; cases hf
     have:=h2 i hi
     rw [hf,hp] at this
     simp only [fieldB,Bool.and_eq_true,decide_eq_true_eq] at this
     obtain ⟨g1,g2⟩:=this
     split at g2
     · rename_i q hq
       simp only [Bool.and_eq_true,decide_eq_true_eq] at g2
       obtain ⟨g3,g4,g5⟩:=g2
       split at g5
       · rename_i d hd
         exact ⟨g1,q,d,hq,g3,g4,hd,of_decide_eq_true g5⟩
       · cases g5
     · cases g2
   · cases h
 | arr m w ag =>
   simp only [tkB] at h
   split at h
   · rename_i m' e
     simp only [Bool.and_eq_true,decide_eq_true_eq] at h
     obtain ⟨rfl,h⟩:=h
     split at h
     · rename_i q hq
       simp only [Bool.and_eq_true,decide_eq_true_eq] at h
       obtain ⟨h1,h2⟩:=h
       split at h2
       · rename_i d hd
         exact ⟨e,rfl,q,d,hq,h1,hd,of_decide_eq_true h2⟩
       · cases h2
     · cases h
   · cases h
 | other => trivial
def zB (i:TI) (z:Value):Bool :=
 decide (z.cells.size = i.n) && ((i.agg || !isAggV z) && (decide (i.zs.length = i.n) && (((List.range i.n).all fun k => match i.zs[k]?, z.cells[k]? with
    | some l,some u => zrepB l u
    | _, _ => true) && ((z.cells.toList.all fun u => u.oneCell') && match i.T with
      | some T => decide (T.size=i.n) && (decide (0<T.size) && zeroB T (fun k => z.cells.getD k undef) 0)
      | none => true))))
def tiB (P:Program) (E:Env) (t:TypeId) (i:TI):Bool :=
 (match P.info? t with
    | some q => decide (q.size = i.n) && (decide (0 < q.bytes) && (decide (q.bytes ≤ 4096 ∧ q.bytes ≤ 64 * i.n) && match q.zero with
      | some z => zB i z
      | none => false))
    | none => false) && match P.underlying t with
      | some d => decide (isAggD d=i.agg) && tkB P E d i.tk
      | none => false
theorem tiB_ok {P:Program} {E:Env} {t:TypeId} {i:TI} (h:tiB P E t i=true):TIOK P E t i:=by
 simp only [tiB,Bool.and_eq_true] at h
 obtain ⟨h1,h2⟩:=h
 split at h1
 · rename_i q hq
   simp only [Bool.and_eq_true,decide_eq_true_eq] at h1
   obtain ⟨g1,g2,g3,g4⟩:=h1
   split at g4
   · rename_i z hz
     simp only [zB,Bool.and_eq_true,decide_eq_true_eq,List.all_eq_true,List.mem_range,Bool.or_eq_true,Bool.not_eq_true'] at g4
     obtain ⟨k1,k2,k3,k4,k5,k6⟩:=g4
     refine ⟨⟨q,hq,g1,g2,g3.1,z,hz,k1,fun ha => ?_,k3,fun k l u hl hu => ?_,fun T hT => ?_⟩,fun q' hq' => by rw [hq] at hq'; obtain rfl:=Option.some.inj hq'; exact g3.2,fun q' z' hq' hz' => ?_, ?_⟩
     · rcases k2 with k2 | k2
       · rw [ha] at k2; cases k2
       · cases z <;> first | rfl | (simp [isAggV] at k2; done)
     · have hk : k < i.n := by rw [← k3]; exact get_lt hl
       have:=k4 k hk
       rw [hl,hu] at this
       exact zrepB_ok this
     · rw [hT] at k6
       simp only [Bool.and_eq_true,decide_eq_true_eq] at k6
       obtain ⟨m1,m2,m3⟩:=k6
       refine ⟨m1,m2, ?_⟩
       exact (zeroB_ok T _ 0 _ m3).congr fun i _ => by rw [Nat.zero_add]
     · rw [hq] at hq'
       obtain rfl:=Option.some.inj hq'
       rw [hz] at hz'
       obtain rfl:=Option.some.inj hz'
       exact k5
     · split at h2
       · rename_i d hd
         simp only [Bool.and_eq_true,decide_eq_true_eq] at h2
         exact ⟨d,hd,h2.1,tkB_ok h2.2⟩
       · cases h2
   · cases g4
 · cases h1
theorem assoc_mem {α : Type _} : ∀ {l : List (Nat × α)} {k : Nat} {x : α}, assoc l k = some x → (k, x) ∈ l
 | [],k,x,h => by cases h
 | (j,y)::r,k,x,h => by
   simp only [assoc] at h
   cases e:Nat.beq j k with
   | true =>
     rw [e] at h
     have e':j=k:=Nat.eq_of_beq_eq_true e
     obtain rfl:=Option.some.inj h
     subst e'
     exact List.mem_cons_self
   | false =>
     rw [e] at h
     exact List.mem_cons_of_mem _ (assoc_mem h)
def FnOKp (P : Program) (p : Nat × Func) : Prop := P.funcs[p.1]? = some p.2 ∧ (p.2.name == "runtime.NumGoroutine") = false ∧ p.2.body.isSome = true
end GoV
