/- A part of the proof of FnPictured: an interpreter of the model over plain data, its soundness, and what it makes of the functions that the statement reaches. Conditions: none beyond what the given statement itself says. -/
import Derived.Test.YtbimgkhikmmhoaaTG
import Derived.Laws.StructEq
set_option linter.unusedVariables false
set_option linter.unusedSimpArgs false
set_option linter.unnecessarySimpa false
set_option linter.unusedSectionVars false
/- A function that tells where an element stands: 'wire'. -/
namespace GoV
open Go
structure OpIs (o : Oper) (op : Op) (d : Nat) : Prop where
 op:o.op=op
 dst:o.dst=some d
 guard:o.guard=none
section
variable {G:Ctx} {st st':St} {a:Act} {w w':World} {vals:VS} {B:Nat→Nat} {F:FS} {S:Nat→Nat→BS} {E:Env} {P:Program}

structure At (a : Act) (n : Nat) (f : Nat → Value) : Prop where
 size:a.tmps.size=n
 get:∀ k,a.eval (.tmp k)=f k
 df:a.defers=[]
def updF (f:Nat→Value) (d:Nat) (v:Value) (k:Nat):Value:=if k=d then v else f k
theorem At.put {n d:Nat} {f:Nat→Value} {v:Value} (h:At a n f) (hd:d<n):At (a.put (some d) v) n (updF f d v):=by
 refine ⟨by simp [Act.put,h.size],fun k => ?_,h.df⟩
 have:=getD_put (a:=a) (d:=d) (i:=k) (v:=v) (by rw [h.size]; exact hd)
 simp only [Act.eval,updF]
 rw [this]
 by_cases e:d=k
 · rw [if_pos e,if_pos e.symm]
 · rw [if_neg e, if_neg (fun e' => e e'.symm)]
   exact h.get k
theorem noAdr_ok (h1 : ∀ t i, E.ti t = some i → TIOK P E t i) (h2 : ∀ f fn, E.fns f = some fn → P.funcs[f]? = some fn) (h3 : P.follows .mixedOrders = true) (h4 : ∀ t i T, E.eqt t = true → E.ti t = some i → i.T = some T → EqtOK P t (flatTs T)) :
 EnvOK P { E with adr:=fun _ => none }:=by
 refine ⟨fun t i h => ?_,h2,h3,h4,fun g p h => by cases h⟩
 obtain ⟨k1,k0,k2,d,g1,g2,g3⟩:=h1 t i h
 exact ⟨k1,k0,k2,d,g1,g2,by cases hk:i.tk <;> rw [hk] at g3 <;> exact g3⟩
theorem at_args {us:List Value} {n:Nat} (h:us.length≤n):At ⟨us.toArray ++ Array.replicate (n - us.toArray.size) undef,[]⟩ n (fun k => us.getD k undef):=by
 refine ⟨by simp; omega,fun k => ?_,rfl⟩
 simp only [Act.eval,Array.getD_eq_getD_getElem?,Array.getElem?_append,List.getD_eq_getElem?_getD]
 by_cases hk:k<us.toArray.size
 · rw [if_pos hk]
   simp
 · rw [if_neg hk]
   have:us[k]?=none:=List.getElem?_eq_none (by simpa using hk)
   rw [this,Array.getElem?_replicate]
   split <;> rfl
theorem wpOp_val {ops : Array Oper} {Q : Exit → Act → World → Prop} {i : Nat} {o : Oper} {op : Op} {d n : Nat} {f : Nat → Value} (v : Value) {K : Act → World → Prop} (h : OpIs o op d) (hi : ops[i]? = some o) (ha : At a n f) (hd : d < n)
 (hr:(execOp a.eval o).run P w=.ok (.value v) w') (hK:∀ a',At a' n (updF f d v)→K a' w'):wpOp P ops Q i K a w:=by
 simp only [wpOp,hi]
 rw [if_pos (by simp [Region.wanted,h.guard])]
 refine .inl (op_value (R:=fun a' w2 => a'=a.put (some d) v∧w2=w') hr ⟨by rw [h.dst],rfl⟩ K Q ?_)
 rintro _ _ ⟨rfl,rfl⟩
 exact hK _ (ha.put hd)
theorem asI64_ok {l:L} {x:Int} (hx:(asI64 l).exec st=some (x,st')):st'=st∧∃ o,l=.d o (.int .i64) x:=by
 unfold asI64 at hx
 split at hx
 · obtain ⟨rfl,rfl⟩:=M.pure_some hx; exact ⟨rfl,_,rfl⟩
 · exact (M.fail_some hx).elim
theorem vls_one {vs:List Val} {us:List Value} {l:L} (h:Vls st vals B F w (⟨.one,[l]⟩::vs) us):∃ u us',us=u::us'∧OL st vals B F w l u∧Vls st vals B F w vs us':=by
 cases us with
 | nil => exact h.elim
 | cons u us =>
   obtain ⟨⟨xs,h1,h2,_⟩,h3⟩:=h
   simp only [VR] at h2
   subst h2
   exact ⟨u,us,rfl,h1.1,h3⟩
theorem wire_wp {fn : Func} {R : Ending → World → Prop} {w1 : World} {o1 o2 q0 q1 q2 q3 q4 q5 q6 q7 q8 q9 q10 : Oper} {r0 r1 : Nat} {ts tp tw ti : TypeId} (hres : fn.results = #[.tmp 6])
 (h1:OpIs o1 (.box ts (.tmp 0)) 3) (h2:OpIs o2 (.assign (.const (.pointer none))) 6) (g0:OpIs q0 (.fieldAddr ts (.tmp 3) 1) 7) (g1:OpIs q1 (.load tw (.tmp 7)) 8) (g2:OpIs q2 (.move (.tmp 1)) 9) (g3:OpIs q3 (.fieldAddr ts (.tmp 3) 0) 10)
 (g4:OpIs q4 (.load tp (.tmp 10)) 11) {c:Call} (hcc:c.callee=.builtin .len) (hca:c.args=#[.tmp 11]) (hct:c.argTypes=#[tp]) (g5:OpIs q5 (.call c) 12) (g6:OpIs q6 (.binOp .mul ti (.tmp 9) (.tmp 12) ti) 13) (g7:OpIs q7 (.move (.tmp 2)) 14)
 (g8:OpIs q8 (.binOp .add ti (.tmp 13) (.tmp 14) ti) 15) (g9:OpIs q9 (.indexAddr tw (.tmp 8) (.tmp 15)) 16) (g10:OpIs q10 (.assign (.tmp 16)) 6)
 {A:Option Addr} {m cA b off mm cc sz:Nat} {x y idx:Int} {e1 e2:TypeId} {fs:Array Field} {fd0 fd1:Field} {y0 y1:TypeInfo} (hidx:IntKind.i64.wrap (IntKind.i64.wrap (x * (m:Int))+y)=idx) (hi0:0≤idx) (hilt:idx.toNat<mm)
 (hw1:w.alloc (.cells #[.slice A m cA,.slice (some ⟨b,off,none⟩) mm cc] ts)=w1) (hsz:(Go.sizeOf e1).run P w1=.ok sz w1) (hu:P.underlying tw=some (.slice e1)) (hup:P.underlying tp=some (.slice e2))
 (hund:P.underlying ts=some (.struct fs)) (hfd0:fs[0]?=some fd0) (hfo0:fd0.offset=0) (hg0:P.info? fd0.type=some y0) (hg00:y0.size≠0) (hfd1:fs[1]?=some fd1) (hfo1:fd1.offset=1) (hg1:P.info? fd1.type=some y1) (hg10:y1.size≠0)
 (l0:(Instr.loadAt tp (.pointer (some ⟨w.heap.size,0,none⟩))).run P w1=.ok (.slice A m cA) w1) (l1:(Instr.loadAt tw (.pointer (some ⟨w.heap.size,1,none⟩))).run P w1=.ok (.slice (some ⟨b,off,none⟩) mm cc) w1)
 {a0:Act} {f:Nat→Value} (ha:At a0 17 f) (f0:f 0=.agg #[.slice A m cA,.slice (some ⟨b,off,none⟩) mm cc]) (f1:f 1=.int .i64 x) (f2:f 2=.int .i64 y) (hR:R (.returned (.pointer (some ⟨b,off+idx.toNat * sz,none⟩))) w1) :
 (Code.seq (.region r0 #[o1,o2] false) (.seq (.region r1 #[q0,q1,q2,q3,q4,q5,q6,q7,q8,q9,q10] false) .ret)).wp P (bodyPost P fn R) a0 w:=by
 refine wp_seq (wp_region ?_)
 show wpOps P #[o1,o2] _ [0,1] _ w
 rw [wpOps_cons]
 refine wpOp_val (w':=w1) (.pointer (some ⟨w.heap.size,0,none⟩)) h1 rfl ha (by omega) ?_ fun a1 ha => ?_
 · rw [execOp, h1.op, ← hw1]
   simp [Instr.box,newVar,newRow,ha.get,f0,Value.cells]
 rw [wpOps_cons]
 refine wpOp_val (w':=w1) (.pointer none) h2 rfl ha (by omega) (by rw [execOp,h2.op]; rfl) fun a2 ha => ?_
 refine wp_seq (wp_region ?_)
 show wpOps P #[q0,q1,q2,q3,q4,q5,q6,q7,q8,q9,q10] _ [0,1,2,3,4,5,6,7,8,9,10] _ w1
 rw [wpOps_cons]
 refine wpOp_val (w':=w1) (.pointer (some ⟨w.heap.size,1,none⟩)) g0 rfl ha (by omega) ?_ fun a3 ha => ?_
 · rw [execOp, g0.op]
   simp [ha.get,updF,Instr.fieldAt,underlying_run hund,hfd1,Instr.sureAddr,fieldPlace,sizeOf_run hg1,hg10,add_addr,hfo1]
 rw [wpOps_cons]
 refine wpOp_val (w':=w1) (.slice (some ⟨b,off,none⟩) mm cc) g1 rfl ha (by omega) ?_ fun a4 ha => ?_
 · rw [execOp, g1.op]
   simp [ha.get,updF,l1]
 rw [wpOps_cons]
 refine wpOp_val (w':=w1) (.int .i64 x) g2 rfl ha (by omega) (by rw [execOp,g2.op]; simp [ha.get,updF,f1]) fun a5 ha => ?_
 rw [wpOps_cons]
 refine wpOp_val (w':=w1) (.pointer (some ⟨w.heap.size,0,none⟩)) g3 rfl ha (by omega) ?_ fun a6 ha => ?_
 · rw [execOp, g3.op]
   simp [ha.get,updF,Instr.fieldAt,underlying_run hund,hfd0,Instr.sureAddr,fieldPlace,sizeOf_run hg0,hg00,add_addr,hfo0]
 rw [wpOps_cons]
 refine wpOp_val (w':=w1) (.slice A m cA) g4 rfl ha (by omega) ?_ fun a7 ha => ?_
 · rw [execOp, g4.op]
   simp [ha.get,updF,l0]
 rw [wpOps_cons]
 refine wpOp_val (w':=w1) (.int .i64 (m:Int)) g5 rfl ha (by omega) ?_ fun a8 ha => ?_
 · rw [execOp, g5.op]
   simp only [resolve,hcc,hca,Sem.run_bind,Sem.run_pure,Result.andThen_ok,invoke,List.map_toArray,List.map_cons,List.map_nil]
   simp [ha.get,updF,builtin,Builtin.len_,hct,underlying_run hup,goInt]
 rw [wpOps_cons]
 refine wpOp_val (w':=w1) (.int .i64 (IntKind.i64.wrap (x * m))) g6 rfl ha (by omega) ?_ fun a9 ha => ?_
 · rw [execOp, g6.op]
   simp [ha.get,updF,eqGuard,binOp,Op.intArith]
 rw [wpOps_cons]
 refine wpOp_val (w':=w1) (.int .i64 y) g7 rfl ha (by omega) (by rw [execOp,g7.op]; simp [ha.get,updF,f2]) fun a10 ha => ?_
 rw [wpOps_cons]
 refine wpOp_val (w':=w1) (.int .i64 idx) g8 rfl ha (by omega) ?_ fun a11 ha => ?_
 · rw [execOp, g8.op]
   simp [ha.get,updF,eqGuard,binOp,Op.intArith,hidx]
 rw [wpOps_cons]
 refine wpOp_val (w':=w1) (.pointer (some ⟨b,off+idx.toNat * sz,none⟩)) g9 rfl ha (by omega) ?_ fun a12 ha => ?_
 · have hul : P.underlying tw = some (.slice (P.elem tw)) := by simp [Program.elem, hu]
   have hel:P.elem tw=e1:=by simp [Program.elem,hu]
   have hrun:=run_indexAt_slice w1 tw ⟨b,off,none⟩ mm cc .i64 idx hul
   rw [if_pos ⟨hi0,by omega⟩,hel,hsz] at hrun
   rw [execOp,g9.op]
   simp only [Result.andThen_ok,add_addr] at hrun
   simp [ha.get,updF,hrun]
 rw [wpOps_cons]
 refine wpOp_val (w':=w1) (.pointer (some ⟨b,off+idx.toNat * sz,none⟩)) g10 rfl ha (by omega) (by rw [execOp,g10.op]; simp [ha.get,updF]) fun a13 ha => ?_
 refine wp_ret ⟨ha.df,.pointer (some ⟨b,off+idx.toNat * sz,none⟩), ?_, ?_⟩
 · have := ha.get 6
   simp only [updF,Act.eval,Array.getD_eq_getD_getElem?] at this
   simp [results,hres,this]
 · exact hR
theorem wire_ok (hE : EnvOK P E) {g : FuncId} {fn : Func} (hfn : P.funcs[g]? = some fn) (hn : (fn.name == "runtime.NumGoroutine") = false) {o1 o2 q0 q1 q2 q3 q4 q5 q6 q7 q8 q9 q10 : Oper} {r0 r1 : Nat} {ts tp tw ti : TypeId}
 (hbody:fn.body=some (.seq (.region r0 #[o1,o2] false) (.seq (.region r1 #[q0,q1,q2,q3,q4,q5,q6,q7,q8,q9,q10] false) .ret))) (hnt:fn.ntmps=17) (hres:fn.results=#[.tmp 6])
 (h1:OpIs o1 (.box ts (.tmp 0)) 3) (h2:OpIs o2 (.assign (.const (.pointer none))) 6) (g0:OpIs q0 (.fieldAddr ts (.tmp 3) 1) 7) (g1:OpIs q1 (.load tw (.tmp 7)) 8) (g2:OpIs q2 (.move (.tmp 1)) 9) (g3:OpIs q3 (.fieldAddr ts (.tmp 3) 0) 10)
 (g4:OpIs q4 (.load tp (.tmp 10)) 11) {c:Call} (hcc:c.callee=.builtin .len) (hca:c.args=#[.tmp 11]) (hct:c.argTypes=#[tp]) (g5:OpIs q5 (.call c) 12) (g6:OpIs q6 (.binOp .mul ti (.tmp 9) (.tmp 12) ti) 13) (g7:OpIs q7 (.move (.tmp 2)) 14)
 (g8:OpIs q8 (.binOp .add ti (.tmp 13) (.tmp 14) ti) 15) (g9:OpIs q9 (.indexAddr tw (.tmp 8) (.tmp 15)) 16) (g10:OpIs q10 (.assign (.tmp 16)) 6)
 {is iw ip:TI} (his:E.ti ts=some is) (hf0:fieldOff is 0=some (0,1,false)) (hf1:fieldOff is 1=some (1,1,false)) (hiw:E.ti tw=some iw) (hip:E.ti tp=some ip) {e1 e2:TypeId} {T T2:Ty} (hkw:iw.tk=.slice e1 T) (hkp:ip.tk=.slice e2 T2)
 (hnw:iw.n=1∧iw.agg=false) (hnp:ip.n=1∧ip.agg=false):AdrOK P g (adrWire T):=by
 refine ⟨⟨fn,hfn,hn,by rw [hbody]; rfl⟩, ?_⟩
 intro G st st' a w vals B F S vs us l h hv hx
 unfold adrWire at hx
 split at hx
 · rename_i p q f t
   replace hx:=M.bind_some hx
   obtain ⟨n,s1,k1,hx⟩:=hx
   replace hx:=M.bind_some hx
   obtain ⟨x,s2,k2,hx⟩:=hx
   replace hx:=M.bind_some hx
   obtain ⟨y,s3,k3,hx⟩:=hx
   cases us with
   | nil => exact hv.elim
   | cons u0 us =>
     obtain ⟨⟨xs,m1,m2,_⟩,hv⟩:=hv
     obtain ⟨u1,us,rfl,m3,hv⟩:=vls_one hv
     obtain ⟨u2,us,rfl,m4,hv⟩:=vls_one hv
     cases us with
     | cons => exact hv.elim
     | nil =>
     match xs,m1 with
     | [x1,x2],m1 =>
     obtain ⟨mp,mq,_⟩:=m1
     simp only [VR] at m2
     subst m2
     obtain ⟨e1',A,cA,m,rfl,_,rfl⟩:=lenL_ok h mp k1
     subst e1'
     obtain ⟨e2',fo,rfl⟩:=asI64_ok k2
     subst e2'
     obtain ⟨e3',fo',rfl⟩:=asI64_ok k3
     subst e3'
     have hu1:=m3.int
     have hu2:=m4.int
     subst hu1
     subst hu2
     obtain ⟨rfl,b,off,mm,cc,rfl,hi0,hilt,hol⟩:=indexL_ok h mq hx
     refine ⟨rfl,calls_of_wp hfn hbody ?_⟩
     generalize hidx:IntKind.i64.wrap (IntKind.i64.wrap (x * (m:Int))+y)=idx at hi0 hilt hol
     obtain ⟨hu,ie,qi,hie,hT,hok,hq,hqs⟩:=tk_slice hE (show E.ti tw=some ⟨.slice e1 T,iw.n,iw.agg,iw.T,iw.zs⟩ by rw [hiw,← hkw])
     obtain ⟨hup,_⟩:=tk_slice hE (show E.ti tp=some ⟨.slice e2 T2,ip.n,ip.agg,ip.T,ip.zs⟩ by rw [hip,← hkp])
     obtain ⟨fs,fd0,y0,_,hund,hfd0,hfo0,hg0,hg00,_⟩:=fieldOff_ok hE his hf0
     obtain ⟨fs1,fd1,y1,_,hund1,hfd1,hfo1,hg1,hg10,_⟩:=fieldOff_ok hE his hf1
     rw [hund] at hund1
     obtain rfl:fs=fs1:=by simpa using hund1
     have hsz:(Go.sizeOf e1).run P (w.alloc (.cells #[.slice A m cA,.slice (some ⟨b,off,none⟩) mm cc] ts))=.ok T.size (w.alloc (.cells #[.slice A m cA,.slice (some ⟨b,off,none⟩) mm cc] ts)):=by rw [sizeOf_run hq,hqs]
     have hul:P.underlying tw=some (.slice (P.elem tw)):=by simp [Program.elem,hu]
     have hel:P.elem tw=e1:=by simp [Program.elem,hu]
     have hrow:Blk (w.alloc (.cells #[.slice A m cA,.slice (some ⟨b,off,none⟩) mm cc] ts)) w.heap.size #[.slice A m cA,.slice (some ⟨b,off,none⟩) mm cc]:=blk_alloc w _ ts
     have hrel:=h.alloc (.cells #[.slice A m cA,.slice (some ⟨b,off,none⟩) mm cc] ts)
     have holw:OL st' vals B F (w.alloc (.cells #[.slice A m cA,.slice (some ⟨b,off,none⟩) mm cc] ts)) l (.pointer (some ⟨b,off+idx.toNat * T.size,none⟩)):=by
        have hp:=(h.push hol.1 hol.2).alloc (.cells #[.slice A m cA,.slice (some ⟨b,off,none⟩) mm cc] ts)
        obtain ⟨k5,k6⟩:=hp.fleaf 0 _ _ rfl
        rw [show (0:Nat)+1=([]:List (L × Value)).length+1 from rfl,upS_self] at k5
        exact ⟨k5,k6⟩
     generalize hw1:w.alloc (.cells #[.slice A m cA,.slice (some ⟨b,off,none⟩) mm cc] ts)=w1 at hsz hrow hrel holw
     have c0:cellAt w1 w.heap.size 0=some (.slice A m cA):=by rw [cellAt_blk hrow]; rfl
     have c1:cellAt w1 w.heap.size 1=some (.slice (some ⟨b,off,none⟩) mm cc):=by rw [cellAt_blk hrow]; rfl
     have l0:=(load_run (w:=w1) hE hip (b:=w.heap.size) (q:=0) (f:=fun _ => .slice A m cA) (fun j hj => by rw [hnp.1] at hj; obtain rfl:j=0:=(by omega); exact c0)).1
     have l1:=(load_run (w:=w1) hE hiw (b:=w.heap.size) (q:=1) (f:=fun _ => .slice (some ⟨b,off,none⟩) mm cc) (fun j hj => by rw [hnw.1] at hj; obtain rfl:j=0:=(by omega); exact c1)).1
     rw [hnp.2] at l0
     rw [hnw.2] at l1
     simp only [Bool.false_eq_true,if_false] at l0 l1
     rw [hnt]
     have ha:=at_args (us:=[.agg #[.slice A m cA,.slice (some ⟨b,off,none⟩) mm cc],.int .i64 x,.int .i64 y]) (n:=17) (by simp)
     exact wire_wp hres h1 h2 g0 g1 g2 g3 g4 hcc hca hct g5 g6 g7 g8 g9 g10 hidx hi0 hilt hw1 hsz hu hup hund hfd0 hfo0 hg0 hg00 hfd1 hfo1 hg1 hg10 l0 l1 ha rfl rfl rfl ⟨_,rfl,rfl,hrel,holw⟩
 · exact (M.fail_some hx).elim
end
end GoV

/- Structs of numbers and truth values, compared cell by cell. -/
namespace GoV
open Go
def fldT (P : Program) : Nat → List Ty → List Field → Bool
 | _,[],[] => true
 | k, .int q :: ts, f :: fs => (decide (f.name ≠ "_") && (Nat.beq f.offset k && (match P.underlying f.type with | some (.int q') => decide (q = q') | _ => false))) && fldT P (k + 1) ts fs
 | k, .bool :: ts, f :: fs => (decide (f.name ≠ "_") && (Nat.beq f.offset k && (match P.underlying f.type with | some .bool => true | _ => false))) && fldT P (k + 1) ts fs
 | _,_,_ => false
theorem drop_at {α:Type} {l r:List α} {k:Nat} {x:α} (h:l.drop k=x::r):l[k]?=some x∧l.drop (k+1)=r:=by
 have h1:=congrArg List.head? h
 have h2:=congrArg List.tail h
 rw [List.head?_drop] at h1
 rw [List.tail_drop] at h2
 exact ⟨h1,h2⟩
theorem eqFields_ok {P : Program} {w : World} {us vs : List Value} (d : Nat) : ∀ (ts : List Ty) (fs : List Field) (k : Nat) (us' vs' : List Value), fldT P k ts fs = true → us.drop k = us' → vs.drop k = vs' → TypedL ts us' → TypedL ts vs' →
 ∃ b:Bool,(Op.eqFields (d+1) us.toArray vs.toArray fs).run P w=.ok b w∧(b=true↔us'=vs'):=by
 intro ts
 induction ts with
 | nil =>
   intro fs k us' vs' hf h1 h2 t1 t2
   cases fs with
   | cons => simp [fldT] at hf
   | nil =>
     cases us' with
     | cons => exact t1.elim
     | nil =>
       cases vs' with
       | cons => exact t2.elim
       | nil => exact ⟨true,by simp [Op.eqFields],by simp⟩
 | cons T ts ih =>
   intro fs k us' vs' hf h1 h2 t1 t2
   cases fs with
   | nil => cases T <;> simp [fldT] at hf
   | cons f fs =>
     cases us' with
     | nil => cases T <;> exact t1.elim
     | cons u us' =>
       cases vs' with
       | nil => cases T <;> exact t2.elim
       | cons v vs' =>
         obtain ⟨hu,hur⟩:=drop_at h1
         obtain ⟨hv,hvr⟩:=drop_at h2
         have hua:us.toArray[k]?=some u:=by simpa using hu
         have hva:vs.toArray[k]?=some v:=by simpa using hv
         cases T with
         | int q =>
           simp only [fldT,Bool.and_eq_true,decide_eq_true_eq] at hf
           obtain ⟨⟨f1,f2,f3⟩,f4⟩:=hf
           have f2':f.offset=k:=Nat.eq_of_beq_eq_true f2
           split at f3
           · rename_i q' hq
             cases u with
             | int ku x =>
               cases v with
               | int kv y =>
                 obtain ⟨rfl,t1⟩:=t1
                 obtain ⟨rfl,t2⟩:=t2
                 have p1:(Go.part f.type us.toArray f.offset).run P w=.ok (.int q x) w:=by simp [Go.part,isAgg,run_underlying hq,f2',hu]
                 have p2:(Go.part f.type vs.toArray f.offset).run P w=.ok (.int q y) w:=by simp [Go.part,isAgg,run_underlying hq,f2',hv]
                 have p3:=run_equalIn_int (P:=P) w d f.type q q' x y hq
                 obtain ⟨b,g1,g2⟩:=ih fs (k+1) us' vs' f4 hur hvr t1 t2
                 by_cases e:x=y
                 · subst e
                   refine ⟨b, ?_,by simp [g2]⟩
                   simp only [Op.eqFields,f1,ne_eq,not_false_eq_true,if_true,Sem.run_bind,p1,p2,p3,Result.andThen_ok]
                   simpa using g1
                 · refine ⟨false, ?_, by simp [e]⟩
                   have e2:(x == y)=false:=beq_eq_false_iff_ne.2 e
                   simp only [Op.eqFields,f1,ne_eq,not_false_eq_true,if_true,Sem.run_bind,p1,p2,p3,Result.andThen_ok,e2]
                   simp
               | _ => exact t2.elim
             | _ => exact t1.elim
           · cases f3
         | bool =>
           simp only [fldT,Bool.and_eq_true,decide_eq_true_eq] at hf
           obtain ⟨⟨f1,f2,f3⟩,f4⟩:=hf
           have f2':f.offset=k:=Nat.eq_of_beq_eq_true f2
           split at f3
           · rename_i hq
             cases u with
             | bool x =>
               cases v with
               | bool y =>
                 have p1:(Go.part f.type us.toArray f.offset).run P w=.ok (.bool x) w:=by simp [Go.part,isAgg,run_underlying hq,f2',hu]
                 have p2:(Go.part f.type vs.toArray f.offset).run P w=.ok (.bool y) w:=by simp [Go.part,isAgg,run_underlying hq,f2',hv]
                 have p3:=run_equalIn_bool' (P:=P) w d f.type x y hq
                 obtain ⟨b,g1,g2⟩:=ih fs (k+1) us' vs' f4 hur hvr t1 t2
                 by_cases e:x=y
                 · subst e
                   refine ⟨b, ?_,by simp [g2]⟩
                   simp only [Op.eqFields,f1,ne_eq,not_false_eq_true,if_true,Sem.run_bind,p1,p2,p3,Result.andThen_ok]
                   simpa using g1
                 · refine ⟨false, ?_, by simp [e]⟩
                   have e2:(x == y)=false:=beq_eq_false_iff_ne.2 e
                   simp only [Op.eqFields,f1,ne_eq,not_false_eq_true,if_true,Sem.run_bind,p1,p2,p3,Result.andThen_ok,e2]
                   simp
               | _ => exact t2.elim
             | _ => exact t1.elim
           · cases f3
         | sl => exact t1.elim
         | pair => exact t1.elim
         | unit => exact t1.elim
theorem eqt_struct {P:Program} {t:TypeId} {fs:Array Field} {ts:List Ty} (hu:P.underlying t=some (.struct fs)) (hp:P.stoodInHeld t=false) (hm:P.eqGuardType P.depth t=false) (hf:fldT P 0 ts fs.toList=true):EqtOK P t ts:=by
 intro op x y us vs w hop t1 t2
 have hfo:P.fieldsOf t=fs:=by simp [Program.fieldsOf,hu]
 obtain ⟨b,g1,g2⟩:=eqFields_ok (P:=P) (w:=w) 9998 ts fs.toList 0 us vs hf rfl rfl t1 t2
 have ha:=run_equalIn_agg (P:=P) w 9999 t us.toArray vs.toArray (by rw [hfo]; exact hu) hp
 rw [hfo,g1] at ha
 refine ⟨b,run_eqGuard_agg w op t x y _ _ hm,g2, ?_⟩
 rcases hop with rfl | rfl
 · rw [run_eql_struct,ha]; simp [Result.andThen]
 · rw [run_neq_struct,ha]; simp [Result.andThen]
end GoV
