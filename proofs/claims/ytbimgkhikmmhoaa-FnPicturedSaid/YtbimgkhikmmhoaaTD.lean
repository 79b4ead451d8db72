/- A part of the proof of FnPictured: an interpreter of the model over plain data, its soundness, and what it makes of the functions that the statement reaches. Conditions: none beyond what the given statement itself says. -/
import Derived.Test.YtbimgkhikmmhoaaTC
import Derived.KernelRfl
set_option linter.unusedVariables false
set_option linter.unusedSimpArgs false
set_option linter.unnecessarySimpa false
set_option linter.unusedSectionVars false
/- V without rounds counted: what a call, a loop answers in the end. -/
namespace GoV
open Go

/-! ## In the end -/
def Evl (p:Nat→Prop):Prop:=∃ n0,∀ n,n0≤n→p n
theorem Evl.of {p:Nat→Prop} (h:∀ n,p n):Evl p:=⟨0,fun n _ => h n⟩
theorem Evl.mono {p q:Nat→Prop} (h:Evl p) (hpq:∀ n,p n→q n):Evl q:=by
 obtain ⟨n0,h0⟩:=h
 exact ⟨n0,fun n hn => hpq n (h0 n hn)⟩
theorem Evl.two {p q r:Nat→Prop} (h:Evl p) (h':Evl q) (hr:∀ n,p n→q n→r n):Evl r:=by
 obtain ⟨n0,h0⟩:=h
 obtain ⟨n1,h1⟩:=h'
 exact ⟨max n0 n1,fun n hn => hr n (h0 n (by omega)) (h1 n (by omega))⟩
theorem Evl.suc {p:Nat→Prop} (h:Evl fun n => p (n+1)):Evl p:=by
 obtain ⟨n0,h0⟩:=h
 refine ⟨n0+1,fun n hn => ?_⟩
 obtain ⟨k,rfl⟩:∃ k,n=k+1:=⟨n - 1,by omega⟩
 exact h0 k (by omega)
theorem Evl.ge {p:Nat→Prop} (m:Nat) (h:Evl fun n => p (max m n)):Evl p:=by
 obtain ⟨n0,h0⟩:=h
 refine ⟨max n0 m,fun n hn => ?_⟩
 have:p (max m n):=h0 n (by omega)
 rwa [Nat.max_eq_right (by omega)] at this
theorem Evl.all {p:Nat→Nat→Prop} (m:Nat) (h:∀ μ:Nat→Nat,(∀ n,m≤μ n)→Evl fun n => p n (μ n)):Evl fun n => ∀ m',m≤m'→p n m':=by
 classical
 have key:∀ n,∃ m',m≤m'∧((∃ m2,m≤m2∧¬ p n m2)→¬ p n m'):=by
  intro n
  by_cases e:∃ m2,m≤m2∧¬ p n m2
  · obtain ⟨m2, h1, h2⟩ := e
    exact ⟨m2,h1,fun _ => h2⟩
  · exact ⟨m,Nat.le_refl _,fun h => absurd h e⟩
 obtain ⟨n0,h0⟩:=h (fun n => (key n).choose) (fun n => (key n).choose_spec.1)
 refine ⟨n0,fun n hn m' hm' => ?_⟩
 by_cases e:p n m'
 · exact e
 · exact absurd (h0 n hn) ((key n).choose_spec.2 ⟨m',hm',e⟩)
open Classical in
noncomputable def lim {α:Type} (s:Nat→Option α):Option α:=if h:∃ r,Evl fun n => s n=some r then some h.choose else none
theorem lim_some {α:Type} {s:Nat→Option α} {r:α}:lim s=some r↔Evl fun n => s n=some r:=by
 unfold lim
 constructor
 · intro h
   split at h
   · rename_i e
     obtain rfl:=Option.some.inj h
     exact e.choose_spec
   · cases h
 · intro h
   have e:∃ r,Evl fun n => s n=some r:=⟨r,h⟩
   rw [dif_pos e]
   obtain ⟨n0,h0⟩:=e.choose_spec
   obtain ⟨n1,h1⟩:=h
   have g0:s (max n0 n1)=some e.choose:=h0 (max n0 n1) (by omega)
   have g1:s (max n0 n1)=some r:=h1 (max n0 n1) (by omega)
   rw [g0] at g1
   exact g1
noncomputable def vlim (E:Env) (f:FuncId) (cells:List Cell):Option R:=lim fun n => vcall E n f cells
noncomputable def loopL (body:(Ex→St→Option R)→St→Option R) (head:St→Option St) (K:Ex→St→Option R) (st:St):Option R:=lim fun m => loopN body head m K st
def regC (E : Env) (call : CallT) (f : FuncId) (np : Nat) : Code → (Ex → St → Option R) → St → Option R
 | .region id ops draw,K,st =>
   let K':=fun (st':St) => K .normal (endC (E.kp f id) st')
   if draw then opsD E call np (E.sn f id) ops 0 ops.toList [] K' st else opsE E call np (E.sn f id) (E.mid f id) ops ops.toList K' st
 | _,_,_ => none
noncomputable def joinL (E:Env) (call:CallT) (f:FuncId) (np:Nat) (c:Code) (K:Ex→St→Option R) (st:St):Option R:=lim fun _ => regC E call f np c K st
theorem joinL_eq {E:Env} {call:CallT} {f:FuncId} {np:Nat} {c:Code} {K:Ex→St→Option R} {st:St}:joinL E call f np c K st=regC E call f np c K st:=by
 unfold joinL
 cases h:regC E call f np c K st with
 | some r => exact lim_some.2 (.of fun _ => rfl)
 | none =>
   cases hl:lim fun _:Nat => (none:Option R) with
   | none => rfl
   | some r =>
     obtain ⟨n0,h0⟩:=lim_some.1 hl
     exact absurd (h0 n0 (Nat.le_refl _)) (by simp)
noncomputable def vexecL (E : Env) (call : CallT) (f : FuncId) (np : Nat) : Code → (Ex → St → Option R) → St → Option R
 | .skip,K,st => K .normal st
 | .label _,K,st => K .normal st
 | .region id ops draw, K, st => match headE E f (id + 1000000) st with
   | none => none
   | some st0 => bif (E.lh f (id+2000000)).isSome then joinL E call f np (.region id ops draw) K st0 else regC E call f np (.region id ops draw) K st0
 | .seq a b, K, st => vexecL E call f np a (fun e st' => match e with
  | .normal => vexecL E call f np b K st'
  | e => K e st') st
 | .cond c a b, K, st => match condAt E c st with
   | none => none
   | some x => bif x then vexecL E call f np a K st else vexecL E call f np b K st
 | .block id b, K, st => vexecL E call f np b (fun e st' => match e with
  | .exit i => if i=id then K .normal st' else K (.exit i) st'
  | e => K e st') st
 | .loop b, K, st => match headE E f (firstRegion b) st with
   | none => none
   | some st1 => loopL (vexecL E call f np b) (headE E f (firstRegion b)) K st1
 | .exit id,K,st => K (.exit id) st
 | .ret,K,st => K .ret st
 | _,_,_ => none

/-! ## Programs over slots that tend to one -/
namespace M
variable {α β:Type}
def Tend (m : M α) (ms : Nat → M α) : Prop := ∀ (γ : Type) (K : α → St → List (Nat × Nat) × List (Nat × Nat) → Option γ) (Ks : Nat → α → St → List (Nat × Nat) × List (Nat × Nat) → Option γ),
 (∀ x st q r,K x st q=some r→Evl fun n => Ks n x st q=some r)→∀ (st:St) (r:γ),m.runK st K=some r→Evl fun n => (ms n).runK st (Ks n)=some r
theorem runK_bind (m : M α) (f : α → M β) {γ : Type} : ∀ (st : St) (K : β → St → List (Nat × Nat) × List (Nat × Nat) → Option γ),
 (m >>= f).runK st K=m.runK st fun x st' q => (f x).runK st' fun y st2 q' => K y st2 (q.1 ++ q'.1,q.2 ++ q'.2):=by
 show ∀ st K,(m.bind f).runK st K=_
 induction m with
 | pure x => intro st K; rfl
 | fail => intro st K; rfl
 | must b k ih =>
   intro st K
   cases b with
   | true => exact ih st K
   | false => rfl
 | alt b k1 k2 ih1 ih2 =>
   intro st K
   cases b with
   | true => exact ih1 st K
   | false => exact ih2 st K
 | ext β o k ih =>
   intro st K
   cases o with
   | none => rfl
   | some x => exact ih x st K
 | get i k ih =>
   intro st K
   simp only [M.bind,runK]
   cases st[i]? with
   | none => rfl
   | some c => exact ih c st _
 | head i k ih =>
   intro st K
   simp only [M.bind,runK]
   cases st[i]? with
   | none => rfl
   | some c => exact ih c.hd st _
 | leaf i j k ih =>
   intro st K
   simp only [M.bind,runK]
   cases st[i]? with
   | none => rfl
   | some c =>
     simp only []
     cases c.ls[j]? with
     | none => rfl
     | some l => exact ih _ _ _ st _
 | set i c k ih =>
   intro st K
   simp only [M.bind,runK]
   split
   · exact ih _ _
   · rfl
 | view i k ih =>
   intro st K
   simp only [M.bind,runK]
   cases st[i]? with
   | none => rfl
   | some c =>
     simp only [List.append_assoc]
     exact ih _ st _
 | setL i j l d e s k ih =>
   intro st K
   simp only [M.bind,runK]
   cases st[i]? with
   | none => rfl
   | some c =>
     simp only []
     split
     · exact ih _ _
     · rfl
theorem Tend.refl (m:M α):Tend m fun _ => m:=by
 intro γ
 induction m with
 | pure x => intro K Ks h st r hr; exact h _ _ _ _ hr
 | fail => intro K Ks h st r hr; cases hr
 | must b k ih =>
   intro K Ks h st r hr
   cases b with
   | true => exact ih K Ks h st r hr
   | false => cases hr
 | alt b k1 k2 ih1 ih2 =>
   intro K Ks h st r hr
   cases b with
   | true => exact ih1 K Ks h st r hr
   | false => exact ih2 K Ks h st r hr
 | ext β o k ih =>
   intro K Ks h st r hr
   cases o with
   | none => cases hr
   | some x => exact ih x K Ks h st r hr
 | get i k ih =>
   intro K Ks h st r hr
   simp only [runK] at hr ⊢
   cases hc:st[i]? with
   | none => rw [hc] at hr; cases hr
   | some c =>
     rw [hc] at hr
     exact ih c _ _ (fun x st q r hr => h _ _ _ _ hr) st r hr
 | head i k ih =>
   intro K Ks h st r hr
   simp only [runK] at hr ⊢
   cases hc:st[i]? with
   | none => rw [hc] at hr; cases hr
   | some c =>
     rw [hc] at hr
     exact ih c.hd _ _ (fun x st q r hr => h _ _ _ _ hr) st r hr
 | leaf i j k ih =>
   intro K Ks h st r hr
   simp only [runK] at hr ⊢
   cases hc:st[i]? with
   | none => rw [hc] at hr; cases hr
   | some c =>
     rw [hc] at hr
     simp only [] at hr ⊢
     cases hl:c.ls[j]? with
     | none => rw [hl] at hr; cases hr
     | some l =>
       rw [hl] at hr
       exact ih l _ _ _ _ (fun x st q r hr => h _ _ _ _ hr) st r hr
 | set i c k ih =>
   intro K Ks h st r hr
   simp only [runK] at hr ⊢
   split at hr
   · rename_i e
     simp only [if_pos e]
     exact ih _ _ (fun x st q r hr => h _ _ _ _ hr) _ r hr
   · cases hr
 | view i k ih =>
   intro K Ks h st r hr
   simp only [runK] at hr ⊢
   cases hc:st[i]? with
   | none => rw [hc] at hr; cases hr
   | some c =>
     rw [hc] at hr
     exact ih _ _ _ (fun x st q r hr => h _ _ _ _ hr) st r hr
 | setL i j l d e s k ih =>
   intro K Ks h st r hr
   simp only [runK] at hr ⊢
   cases hc:st[i]? with
   | none => rw [hc] at hr; cases hr
   | some c =>
     rw [hc] at hr
     simp only [] at hr ⊢
     split at hr
     · rename_i e
       simp only [if_pos e]
       exact ih _ _ (fun x st q r hr => h _ _ _ _ hr) _ r hr
     · cases hr
theorem Tend.bind {m:M α} {ms:Nat→M α} {f:α→M β} {fs:Nat→α→M β} (h:Tend m ms) (hf:∀ x,Tend (f x) fun n => fs n x):Tend (m >>= f) fun n => ms n >>= fs n:=by
 intro γ K Ks hK st r hr
 simp only [runK_bind] at hr ⊢
 exact h _ _ _ (fun x st' q r hr => hf x _ _ _ (fun y st2 q' r hr => hK _ _ _ _ hr) _ _ hr) _ _ hr
theorem call_runK (r:CallR) (γ:Type) (st:St) (K:Val × List Cell→St→List (Nat × Nat) × List (Nat × Nat)→Option γ):(M.call r).runK st K=match r.get with | some p => K p st ([],[]) | none => none:=by
 obtain ⟨β,o,sel,f,g⟩:=r
 cases o with
 | none => rfl
 | some b =>
   simp only [M.call,runK,CallR.get,CallR.two,Option.map_some]
   cases sel b <;> rfl
theorem Tend.call {r:CallR} {rs:Nat→CallR} (h:∀ p,r.get=some p→Evl fun n => (rs n).get=some p):Tend (M.call r) fun n => M.call (rs n):=by
 intro γ K Ks hK st x hx
 simp only [call_runK] at hx ⊢
 cases hr:r.get with
 | none => rw [hr] at hx; cases hx
 | some p =>
   rw [hr] at hx
   refine (h p hr).two (hK _ _ _ _ hx) fun n h1 h2 => ?_
   rw [h1]
   exact h2
end M
section
variable {E:Env} {call:CallT} {calls:Nat→CallT} (hc:∀ g cs p,(call g cs).get=some p→Evl fun n => (calls n g cs).get=some p)
include hc
theorem vop_tend (np:Nat) (soft:Bool) (o:Oper):M.Tend (vop E call np soft o) fun n => vop E (calls n) np soft o:=by
 have hop:∀ dst g caps vs,M.Tend (callOp E call dst g caps vs) fun n => callOp E (calls n) dst g caps vs:=fun dst g caps vs => by
  unfold callOp
  exact .bind (.refl _) fun _ => .bind (.refl _) fun _ => .bind (.refl _) fun _ => .bind (.refl _) fun _ => .bind (.refl _) fun _ => .bind (.call (hc _ _)) fun _ => .refl _
 have hval:∀ dst c x,M.Tend (callVal E call dst c x) fun n => callVal E (calls n) dst c x:=fun dst c x => by
  unfold callVal
  refine .bind (.refl _) fun l => ?_
  split
  · exact .bind (.refl _) fun _ => hop _ _ _ _
  · refine .bind (.refl _) fun _ => ?_
    split
    · exact .refl _
    · exact hop _ _ _ _
  · exact .refl _
 unfold vop
 split <;> first | exact .refl _ | skip
 rename_i c _
 split <;> first | exact .refl _ | exact hval _ _ _
theorem opsE_tend {np : Nat} {soft mid : Bool} {ops : Array Oper} {K : St → Option R} {Ks : Nat → St → Option R} (hK : ∀ st r, K st = some r → Evl fun n => Ks n st = some r) :
 ∀ (l:List Oper) (st:St) (r:R),opsE E call np soft mid ops l K st=some r→Evl fun n => opsE E (calls n) np soft mid ops l (Ks n) st=some r
 | [],st,r,h => hK st r h
 | o::l,st,r,h => by
   have e:∀ st r,((vop E call np soft o).runK st fun _ st' _ => opsE E call np soft mid ops l K (bif mid then midR st' else st'))=some r→Evl fun n => ((vop E (calls n) np soft o).runK st fun _ st' _ => opsE E (calls n) np soft mid ops l (Ks n) (bif mid then midR st' else st'))=some r :=
     fun st r h => vop_tend hc np soft o _ _ _ (fun x st' q r hr => opsE_tend hK l _ r hr) st r h
   have e':∀ st r,((skipM o.dst).runK st fun _ st' _ => opsE E call np soft mid ops l K (bif mid then midR st' else st'))=some r→Evl fun n => ((skipM o.dst).runK st fun _ st' _ => opsE E (calls n) np soft mid ops l (Ks n) (bif mid then midR st' else st'))=some r :=
     fun st r h => M.Tend.refl _ _ _ _ (fun x st' q r hr => opsE_tend hK l _ r hr) st r h
   simp only [opsE] at h ⊢
   rcases hg:guardOf ops o with _ | ⟨_ | s,b⟩
   · simp only [hg] at h ⊢; exact e _ _ h
   · simp only [hg] at h; cases h
   · simp only [hg] at h ⊢
     rcases hb:boolAt st s with _ | _ | x
     · simp only [hb] at h; cases h
     · simp only [hb] at h ⊢; exact e' _ _ h
     · simp only [hb] at h ⊢
       cases x <;> cases b <;> simp only [cond_true,cond_false,Bool.false_eq_true,if_true,if_false] at h ⊢ <;> first | exact e _ _ h | exact e' _ _ h
theorem opsD_tend {np : Nat} {soft : Bool} {ops : Array Oper} {K : St → Option R} {Ks : Nat → St → Option R} (hK : ∀ st r, K st = some r → Evl fun n => Ks n st = some r) :
 ∀ (l:List Oper) (i:Nat) (log:List (Nat × (List (Nat × Nat) × List (Nat × Nat)))) (st:St) (r:R),opsD E call np soft ops i l log K st=some r→Evl fun n => opsD E (calls n) np soft ops i l log (Ks n) st=some r
 | [],i,log,st,r,h => by
   simp only [opsD] at h ⊢
   split at h
   · rename_i e; simp only [if_pos e]; exact hK st r h
   · cases h
 | o::l,i,log,st,r,h => by
   have e : ∀ g st r, ((vop E call np soft o).runK st fun _ st' f => opsD E call np soft ops (i + 1) l ((i, (g ++ f.1, f.2)) :: log) K st') = some r →
        Evl fun n => ((vop E (calls n) np soft o).runK st fun _ st' f => opsD E (calls n) np soft ops (i+1) l ((i,(g ++ f.1,f.2))::log) (Ks n) st')=some r :=
     fun g st r h => vop_tend hc np soft o _ _ _ (fun x st' q r hr => opsD_tend hK l _ _ st' r hr) st r h
   have e' : ∀ g st r, ((skipM o.dst).runK st fun _ st' f => opsD E call np soft ops (i + 1) l ((i, (g ++ f.1, f.2)) :: log) K st') = some r →
        Evl fun n => ((skipM o.dst).runK st fun _ st' f => opsD E (calls n) np soft ops (i+1) l ((i,(g ++ f.1,f.2))::log) (Ks n) st')=some r :=
     fun g st r h => M.Tend.refl _ _ _ _ (fun x st' q r hr => opsD_tend hK l _ _ st' r hr) st r h
   simp only [opsD] at h ⊢
   rcases hg:guardOf ops o with _ | ⟨_ | s,b⟩
   · simp only [hg] at h ⊢; exact e _ _ _ h
   · simp only [hg] at h; cases h
   · simp only [hg] at h ⊢
     rcases hb:boolAt st s with _ | _ | x
     · simp only [hb] at h; cases h
     · simp only [hb] at h ⊢; exact e' _ _ _ h
     · simp only [hb] at h ⊢
       cases x <;> cases b <;> simp only [cond_true,cond_false,Bool.false_eq_true,if_true,if_false] at h ⊢ <;> first | exact e _ _ _ h | exact e' _ _ _ h
end
def KTend (K:Ex→St→Option R) (Ks:Nat→Ex→St→Option R):Prop:=∀ e st r,K e st=some r→Evl fun n => Ks n e st=some r
theorem loopN_tend {body : (Ex → St → Option R) → St → Option R} {bodies : Nat → (Ex → St → Option R) → St → Option R} {head : St → Option St}
 (hb:∀ K Ks,KTend K Ks→∀ st r,body K st=some r→Evl fun n => bodies n (Ks n) st=some r) :
 ∀ (m:Nat) (μ:Nat→Nat),(∀ n,m≤μ n)→∀ K Ks,KTend K Ks→∀ st r,loopN body head m K st=some r→Evl fun n => loopN (bodies n) head (μ n) (Ks n) st=some r
 | 0,μ,hμ,K,Ks,hK,st,r,h => by cases h
 | m+1,μ,hμ,K,Ks,hK,st,r,h => by
   have hμ':∀ n,μ n=(μ n - 1)+1:=fun n => by have:=hμ n; omega
   have:Evl fun n => loopN (bodies n) head ((μ n - 1)+1) (Ks n) st=some r:=by
     simp only [loopN] at h ⊢
     refine hb _ _ ?_ st r h
     intro e st' r hr
     cases e with
     | normal =>
       rcases h2:head st' with _ | st2
       · simp only [h2] at hr; cases hr
       · simp only [h2] at hr ⊢
         exact loopN_tend hb m (fun n => μ n - 1) (fun n => by have:=hμ n; omega) K Ks hK st2 r hr
     | _ => exact hK _ _ _ hr
   refine this.mono fun n hn => ?_
   rw [hμ' n]
   exact hn
section
variable {E:Env} {call:CallT} {calls:Nat→CallT} (hc:∀ g cs p,(call g cs).get=some p→Evl fun n => (calls n g cs).get=some p)
include hc
theorem vexec_tend {f : FuncId} {np : Nat} : ∀ (c : Code) (K : Ex → St → Option R) (Ks : Nat → Ex → St → Option R), KTend K Ks → ∀ st r,
 vexecL E call f np c K st=some r→Evl fun n => vexec E (calls n) n f np c (Ks n) st=some r:=by
 intro c
 induction c with
 | skip => intro K Ks hK st r h; exact hK _ _ _ h
 | label _ => intro K Ks hK st r h; exact hK _ _ _ h
 | region id ops draw =>
   intro K Ks hK st r h
   simp only [vexecL,vexec] at h ⊢
   rcases h1:headE E f (id+1000000) st with _ | st0
   · simp only [h1] at h; cases h
   · simp only [h1] at h ⊢
     simp only [joinL_eq,Bool.cond_self,regC] at h
     split at h
     · rename_i e; simp only [if_pos e]
       exact opsD_tend hc (fun st r h => hK _ _ _ h) _ _ _ _ _ h
     · rename_i e; simp only [if_neg e]
       exact opsE_tend hc (fun st r h => hK _ _ _ h) _ _ _ h
 | seq a b iha ihb =>
   intro K Ks hK st r h
   simp only [vexecL,vexec] at h ⊢
   refine iha _ _ ?_ st r h
   intro e st' r hr
   cases e with
   | normal => exact ihb K Ks hK st' r hr
   | _ => exact hK _ _ _ hr
 | cond c a b iha ihb =>
   intro K Ks hK st r h
   simp only [vexecL,vexec] at h ⊢
   rcases hx:condAt E c st with _ | x
   · simp only [hx] at h; cases h
   · simp only [hx] at h ⊢
     cases x
     · exact ihb K Ks hK st r h
     · exact iha K Ks hK st r h
 | block id b ih =>
   intro K Ks hK st r h
   simp only [vexecL,vexec] at h ⊢
   refine ih _ _ ?_ st r h
   intro e st' r hr
   cases e with
   | exit i =>
     simp only [] at hr ⊢
     split at hr
     · rename_i e; simp only [if_pos e]; exact hK _ _ _ hr
     · rename_i e; simp only [if_neg e]; exact hK _ _ _ hr
   | _ => exact hK _ _ _ hr
 | loop b ih =>
   intro K Ks hK st r h
   simp only [vexecL,vexec] at h ⊢
   rcases h1:headE E f (firstRegion b) st with _ | st1
   · simp only [h1] at h; cases h
   · simp only [h1] at h ⊢
     obtain ⟨m,hm⟩:=lim_some.1 h
     exact Evl.ge m (loopN_tend (bodies:=fun n => vexec E (calls n) n f np b) ih m (fun n => max m n) (fun n => by omega) K Ks hK st1 r (hm m (Nat.le_refl _)) |>.two (Evl.of (p:=fun _ => True) fun _ => trivial) (fun n h _ => h) |> fun h => by
        obtain ⟨n0,h0⟩:=h
        refine ⟨max n0 m,fun n hn => ?_⟩
        have:=h0 n (by omega)
        simp only [Nat.max_eq_right (show m≤n by omega)] at this ⊢
        exact this)
 | exit id => intro K Ks hK st r h; exact hK _ _ _ h
 | ret => intro K Ks hK st r h; exact hK _ _ _ h
 | _ => intro K Ks hK st r h; cases h
end
theorem vexecL_tend {E : Env} {call : CallT} {f : FuncId} {np : Nat} : ∀ (c : Code) (K : Ex → St → Option R) (Ks : Nat → Ex → St → Option R), KTend K Ks → ∀ st r,
 vexecL E call f np c K st=some r→Evl fun n => vexecL E call f np c (Ks n) st=some r:=by
 have hc:∀ g cs p,(call g cs).get=some p→Evl fun n => ((fun _ => call:Nat→CallT) n g cs).get=some p:=fun g cs p h => .of fun _ => h
 intro c
 induction c with
 | skip => intro K Ks hK st r h; exact hK _ _ _ h
 | label _ => intro K Ks hK st r h; exact hK _ _ _ h
 | region id ops draw =>
   intro K Ks hK st r h
   simp only [vexecL] at h ⊢
   rcases h1:headE E f (id+1000000) st with _ | st0
   · simp only [h1] at h; cases h
   · simp only [h1] at h ⊢
     simp only [joinL_eq,Bool.cond_self,regC] at h ⊢
     split at h
     · rename_i e; simp only [if_pos e]
       exact opsD_tend hc (fun st r h => hK _ _ _ h) _ _ _ _ _ h
     · rename_i e; simp only [if_neg e]
       exact opsE_tend hc (fun st r h => hK _ _ _ h) _ _ _ h
 | seq a b iha ihb =>
   intro K Ks hK st r h
   simp only [vexecL] at h ⊢
   refine iha _ _ ?_ st r h
   intro e st' r hr
   cases e with
   | normal => exact ihb K Ks hK st' r hr
   | _ => exact hK _ _ _ hr
 | cond c a b iha ihb =>
   intro K Ks hK st r h
   simp only [vexecL] at h ⊢
   rcases hx:condAt E c st with _ | x
   · simp only [hx] at h; cases h
   · simp only [hx] at h ⊢
     cases x
     · exact ihb K Ks hK st r h
     · exact iha K Ks hK st r h
 | block id b ih =>
   intro K Ks hK st r h
   simp only [vexecL] at h ⊢
   refine ih _ _ ?_ st r h
   intro e st' r hr
   cases e with
   | exit i =>
     simp only [] at hr ⊢
     split at hr
     · rename_i e; simp only [if_pos e]; exact hK _ _ _ hr
     · rename_i e; simp only [if_neg e]; exact hK _ _ _ hr
   | _ => exact hK _ _ _ hr
 | loop b ih =>
   intro K Ks hK st r h
   simp only [vexecL] at h ⊢
   rcases h1:headE E f (firstRegion b) st with _ | st1
   · simp only [h1] at h; cases h
   · simp only [h1] at h ⊢
     obtain ⟨m,hm⟩:=lim_some.1 h
     have:=Evl.all (p:=fun n m' => loopN (vexecL E call f np b) (headE E f (firstRegion b)) m' (Ks n) st1=some r) m fun μ hμ =>
        loopN_tend (bodies:=fun _ => vexecL E call f np b) ih m μ hμ K Ks hK st1 r (hm m (Nat.le_refl _))
     exact this.mono fun n hn => lim_some.2 ⟨m,hn⟩
 | exit id => intro K Ks hK st r h; exact hK _ _ _ h
 | ret => intro K Ks hK st r h; exact hK _ _ _ h
 | _ => intro K Ks hK st r h; cases h

/-! ## Equations -/
def bodyOf (f:Func):Code:=match f.body with | some c => c | none => .skip
def retE (E:Env) (f:FuncId) (fn:Func) (np:Nat):Ex→St→Option R:=fun e st => if np≤st.length then retK E f fn np e st else none
def CallLe (E:Env) (call:CallT):Prop:=∀ g cs p,(call g cs).get=some p→vlim E g cs=some p
theorem vlim_fn {E : Env} {call : CallT} {f : FuncId} {fn : Func} (hc : CallLe E call) (hext : E.ext f = none) (hfn : E.fns f = some fn) (hb : fn.body.isSome = true) {cells : List Cell} {r : R}
 (h:vexecL E call f cells.length (bodyOf fn) (retE E f fn cells.length) (cells ++ List.replicate (fn.ntmps - cells.length) Cell.none)=some r):vlim E f cells=some r:=by
 refine lim_some.2 (Evl.suc ?_)
 obtain ⟨c,hbc⟩:=Option.isSome_iff_exists.1 hb
 have hcb:bodyOf fn=c:=by simp [bodyOf,hbc]
 rw [hcb] at h
 have:=vexec_tend (calls:=fun n g cs => .of (vcall E n g cs)) (fun g cs p hp => (lim_some.1 (hc g cs p hp)).mono fun n hn => (CallR.of_get _).trans hn) c _ (fun _ => retE E f fn cells.length) (fun e st r h => .of fun _ => h) _ _ h
 refine this.mono fun n hn => ?_
 simp only [vcall,hext,hfn,hbc]
 exact hn
theorem vlim_ext {E:Env} {f:FuncId} {g:List Cell→Option R} (hext:E.ext f=some g) {cells:List Cell} {r:R} (h:g cells=some r):vlim E f cells=some r:=by
 refine lim_some.2 (Evl.suc (.of fun n => ?_))
 simp only [vcall,hext]
 exact h
theorem loopL_step {E : Env} {call : CallT} {f : FuncId} {np : Nat} {b : Code} {head : St → Option St} {K : Ex → St → Option R} {st : St} {r : R}
 (h : vexecL E call f np b (fun e st' => match e with
  | .normal => match head st' with
    | none => none
    | some st2 => loopL (vexecL E call f np b) head K st2
  | e => K e st') st=some r):loopL (vexecL E call f np b) head K st=some r:=by
 refine lim_some.2 (Evl.suc ?_)
 simp only [loopN]
 refine vexecL_tend b _ _ ?_ st r h
 intro e st' r hr
 cases e with
 | normal =>
   rcases h2:head st' with _ | st2
   · simp only [h2] at hr; cases hr
   · simp only [h2] at hr ⊢
     exact lim_some.1 hr
 | _ => exact .of fun _ => hr

/-! ## Places in code -/
inductive Dir where | l | r | b | o
noncomputable def kAtL (E : Env) (call : CallT) (f : FuncId) (np : Nat) : List Dir → Code → (Ex → St → Option R) → (Ex → St → Option R)
 | .l :: p, .seq a b, K => kAtL E call f np p a (fun e st' => match e with
  | .normal => vexecL E call f np b K st'
  | e => K e st')
 | .r::p,.seq _ b,K => kAtL E call f np p b K
 | .l::p,.cond _ a _,K => kAtL E call f np p a K
 | .r::p,.cond _ _ b,K => kAtL E call f np p b K
 | .b :: p, .block id b, K => kAtL E call f np p b (fun e st' => match e with
  | .exit i => if i=id then K .normal st' else K (.exit i) st'
  | e => K e st')
 | .o :: p, .loop b, K => kAtL E call f np p b (fun e st' => match e with
  | .normal => match headE E f (firstRegion b) st' with
    | none => none
    | some st2 => loopL (vexecL E call f np b) (headE E f (firstRegion b)) K st2
  | e => K e st')
 | _,_,K => K
def codeAt : List Dir → Code → Code
 | .l::p,.seq a _ => codeAt p a
 | .r::p,.seq _ b => codeAt p b
 | .l::p,.cond _ a _ => codeAt p a
 | .r::p,.cond _ _ b => codeAt p b
 | .b::p,.block _ b => codeAt p b
 | .o::p,.loop b => codeAt p b
 | _,c => c
def loopBody : Code → Code
 | .loop b => b
 | c => c
noncomputable def topL (E:Env) (call:CallT) (f:FuncId) (fn:Func) (cells:List Cell):Option R :=
 vexecL E call f cells.length (bodyOf fn) (retE E f fn cells.length) (cells ++ List.replicate (fn.ntmps - cells.length) Cell.none)
noncomputable def loopAtL (E:Env) (call:CallT) (f:FuncId) (fn:Func) (np:Nat) (p:List Dir) (st:St):Option R :=
 loopL (vexecL E call f np (loopBody (codeAt p (bodyOf fn)))) (headE E f (firstRegion (loopBody (codeAt p (bodyOf fn))))) (kAtL E call f np p (bodyOf fn) (retE E f fn np)) st
noncomputable def roundL (E:Env) (call:CallT) (f:FuncId) (fn:Func) (np:Nat) (p:List Dir) (st:St):Option R :=
 vexecL E call f np (loopBody (codeAt p (bodyOf fn))) (fun e st' => match e with
  | .normal => match headE E f (firstRegion (loopBody (codeAt p (bodyOf fn)))) st' with
    | none => none
    | some st2 => loopAtL E call f fn np p st2
  | e => kAtL E call f np p (bodyOf fn) (retE E f fn np) e st') st
theorem loopAtL_step {E:Env} {call:CallT} {f:FuncId} {fn:Func} {np:Nat} {p:List Dir} {st:St} {r:R} (h:roundL E call f fn np p st=some r):loopAtL E call f fn np p st=some r:=loopL_step h
/-! ## Answers told by their data -/
open Classical in
noncomputable def tOf {α β:Type} (mk:β→α) (o:Option α):Option β:=if h:∃ b,o=some (mk b) then some h.choose else none
theorem tOf_some {α β:Type} {mk:β→α} {o:Option α} {b:β} (h:tOf mk o=some b):o=some (mk b):=by
 unfold tOf at h
 split at h
 · rename_i e
   obtain rfl:=Option.some.inj h
   exact e.choose_spec
 · cases h
theorem tOf_intro {α β:Type} {mk:β→α} (un:α→β) (hu:∀ b,un (mk b)=b) {o:Option α} {b:β} (h:o=some (mk b)):tOf mk o=some b:=by
 have e:∃ b,o=some (mk b):=⟨b,h⟩
 unfold tOf
 rw [dif_pos e]
 have h1:=e.choose_spec
 have h2:=Option.some.inj (h.symm.trans h1)
 rw [← hu e.choose,← h2,hu]
structure Tb where of ::
 β:Type
 sel:β→Bool
 mk:β→R
 mk2:β→R
def Tb.one (β:Type) (mk:β→R):Tb:=⟨β,fun _ => true,mk,mk⟩
def Tb.no:Tb:=.one Unit fun _ => (⟨.one,[]⟩,[])
noncomputable def callT (E:Env) (tab:FuncId→List Cell→Tb):CallT:=fun g cs => ⟨(tab g cs).β,tOf (fun b => bif (tab g cs).sel b then (tab g cs).mk b else (tab g cs).mk2 b) (vlim E g cs),(tab g cs).sel,(tab g cs).mk,(tab g cs).mk2⟩
theorem callT_le (E:Env) (tab:FuncId→List Cell→Tb):CallLe E (callT E tab):=by
 intro g cs p h
 simp only [callT,CallR.get,Option.map_eq_some_iff] at h
 obtain ⟨b,h1,rfl⟩:=h
 exact tOf_some h1
def Sub {α β:Type} (mk:β→α) (o:Option β) (o':Option α):Prop:=∀ b,o=some b→o'=some (mk b)
section
variable {α β γ:Type} {mk:β→α}
theorem Sub.ret {b:β}:Sub mk (some b) (some (mk b)):=fun b' h => by rw [Option.some.inj h]
theorem Sub.none {o:Option α}:Sub mk .none o:=fun b h => by cases h
theorem Sub.cond {c:Bool} {x y:Option β} {x' y':Option α} (h:Sub mk x x') (h':Sub mk y y'):Sub mk (bif c then x else y) (bif c then x' else y'):=by cases c; exact h'; exact h
theorem Sub.bind {o:Option γ} {k:γ→Option β} {k':γ→Option α} (h:∀ x,Sub mk (k x) (k' x)):Sub mk (o.bind k) (o.bind k'):=by
 cases o with
 | none => exact fun b h => by cases h
 | some x => exact h x
theorem Sub.loop {o:Option α}:Sub mk (tOf mk o) o:=fun _ h => tOf_some h
end
def assoc.{u} {α:Type u} (l:List (Nat × α)) (k:Nat):Option α :=
 match l with
 | [] => none
 | (j,x)::r => bif Nat.beq j k then some x else assoc r k
def vc (l:L):Cell:=⟨.val .one,[l],false,false,false,0,0⟩
def ac (ls:List L):Cell:=⟨.val .agg,ls,false,false,false,0,0⟩
def nn (n:Nat) (r:List Cell):List Cell:=List.replicate n Cell.none ++ r
def iL (x:Int):L:=.d .fro (.int .i64) x
def bL (x:Bool):L:=.d .fro .bool x
def kd : Nat → L → L → Bool
 | 0,_,_ => true
 | _+1,.d o _ _,.d o' _ _ => decide (o=o')
 | _+1,.nil _,.nil _ => true
 | n+1,.fn f cs,.fn g ds => Nat.beq f g && (cs.zip ds).all fun p => kd n p.1 p.2
 | n+1,.rp cs _,.rp ds _ => (cs.zip ds).all fun p => kd n p.1 p.2
 | _+1,.fe _ _ _,.fe _ _ _ => true
 | _+1,.dead,.dead => true
 | _+1,_,_ => false
def kdC (cs ds:List Cell):Bool:=(cs.zip ds).all fun p => (p.1.ls.zip p.2.ls).all fun q => kd 9 q.1 q.2
def pickT : List (List Cell × Tb) → List Cell → Tb
 | [],_ => .no
 | (ds,t)::r,cs => bif kdC ds cs then t else pickT r cs
def L.sub (i : Nat) : L → L
 | .rp ls _ => ls.getD i .dead
 | .fn _ ls => ls.getD i .dead
 | _ => .dead
def leafR (r:R) (i:Nat):L:=r.1.ls.getD i .dead
def leafF (r:R) (c i:Nat):L:=(r.2.getD c Cell.none).ls.getD i .dead
def L.dat (T : Ty) : L → T.C
 | .d _ T' x => if h:T'=T then h ▸ x else T.zero
 | .fe T' x _ => if h:T'=T then h ▸ x else T.zero
 | _ => T.zero
end GoV
