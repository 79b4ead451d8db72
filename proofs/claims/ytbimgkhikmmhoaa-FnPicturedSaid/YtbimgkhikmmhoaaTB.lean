/- A part of the proof of FnPictured: an interpreter of the model over plain data, its soundness, and what it makes of the functions that the statement reaches. Conditions: none beyond what the given statement itself says. -/
import Derived.Test.YtbimgkhikmmhoaaTA
import Derived.Laws.Cells
import Derived.Laws.CopyRow
import Derived.Laws.OwnMore
import Derived.Great.BuildSlice
import Derived.Laws.Small
import Derived.Laws.Tables
import Derived.Great.FillDense
import Derived.Laws.AppendOwn
set_option linter.unusedVariables false
set_option linter.unusedSimpArgs false
set_option linter.unnecessarySimpa false
set_option linter.unusedSectionVars false
/- Code: statements' ends, loops, conditions. -/
namespace GoV
open Go

section
variable {G:Ctx} {fl:List (L × Value)} {st st':St} {a:Act} {w w':World} {vals:VS} {B:Nat→Nat} {F F':FS} {S:Nat→Nat→BS} {E:Env} {P:Program}

/-! ## A loop's head -/
theorem setL_ff (c:Cell) (k:Nat) (l:L):c.setL k l false 0={ c with ls:=c.ls.set k l }:=by simp [Cell.setL,bit,esUp_zero]
theorem set_self {st:St} {r:Nat} {c:Cell} (hc:st[r]?=some c):st.set r c=st:=by
 apply List.ext_getElem?
 intro i
 rw [get_set (get_lt hc)]
 split
 · rename_i e; subst e; exact hc.symm
 · rfl
theorem Rl.coLsK : ∀ {f : List Fl} {ls ls' pre : List L} {st : St} {c : Cell} {r : Nat} {F : FS} {S : Nat → Nat → BS}, Rl G fl st a w vals B F S → GoV.coLsK f ls = some ls' → st[r]? = some c → c.ls = pre ++ ls → (∀ z, c.ck = .box z → z = false) →
 ∃ F' S',Rl G fl (st.set r { c with ls:=pre ++ ls' }) a w vals B F' S'∧Keeps vals B w st (st.set r { c with ls:=pre ++ ls' })∧∀ b o,F b o→F' b o
 | f,[],ls',pre,st,c,r,F,S,h,hx,hc,hl,_ => by
   simp only [GoV.coLsK,Option.some.injEq] at hx
   subst hx
   have hce:({ c with ls:=pre ++ [] }:Cell)=c:=by rw [← hl]
   refine ⟨F,S, ?_⟩
   rw [hce,set_self hc]
   exact ⟨h,.refl _ _ _ _,fun _ _ h => h⟩
 | [],l::ls,ls',pre,st,c,r,F,S,h,hx,hc,hl,_ => by
   simp only [GoV.coLsK,Option.some.injEq] at hx
   subst hx
   have hce:({ c with ls:=pre ++ l::ls }:Cell)=c:=by rw [← hl]
   refine ⟨F,S, ?_⟩
   rw [hce,set_self hc]
   exact ⟨h,.refl _ _ _ _,fun _ _ h => h⟩
 | o::os,l::ls,ls',pre,st,c,r,F,S,h,hx,hc,hl,hbox => by
   have hlk:c.ls[pre.length]?=some l:=by rw [hl]; simp
   -- the leaf stays
   have stay:∀ {y},GoV.coLsK os ls=some y→ls'=l::y→∃ F' S',Rl G fl (st.set r { c with ls:=pre ++ ls' }) a w vals B F' S'∧Keeps vals B w st (st.set r { c with ls:=pre ++ ls' })∧∀ b o,F b o→F' b o:=by
     rintro y hy rfl
     have:=Rl.coLsK (pre:=pre ++ [l]) h hy hc (by rw [hl]; simp) hbox
     simpa using this
   have go:∀ {x y},l.co o=some x→GoV.coLsK os ls=some y→ls'=x::y→∃ F' S',Rl G fl (st.set r { c with ls:=pre ++ ls' }) a w vals B F' S'∧Keeps vals B w st (st.set r { c with ls:=pre ++ ls' })∧∀ b o,F b o→F' b o:=by
     rintro x y hco hy rfl
     obtain ⟨u,hu⟩:=h.val_at hc hlk
     obtain ⟨g1,g2⟩:=h.leaf r c _ _ _ hc hlk hu
     have step : ∀ {F1 : FS} {S1 : BS}, Less F F1 (S r (pre.length + 1)) S1 → LRep F1 w x u S1 → LinkOK st vals B w x u → LeafLe false 0 (some l) (some x) →
      ∃ F' S',Rl G fl (st.set r { c with ls:=pre ++ x::y }) a w vals B F' S'∧Keeps vals B w st (st.set r { c with ls:=pre ++ x::y })∧∀ b o,F b o→F' b o:=by
        intro F1 S1 k1 k2 k3 k4
        have h1:=h.coSlot hc hlk hu k1 hbox k2 k3 k4
        have hkp:Keeps vals B w st (st.set r (c.setL pre.length x false 0)):=.set hc (.leaf hlk k4)
        rw [setL_ff] at h1 hkp
        have hls:c.ls.set pre.length x=(pre ++ [x]) ++ ls:=by rw [hl]; simp
        have h2:=Rl.coLsK (c:={ c with ls:=c.ls.set pre.length x }) (r:=r) (pre:=pre ++ [x]) h1 hy (by rw [get_set (get_lt hc)]; simp) hls hbox
        obtain ⟨F',S',m1,m2,m3⟩:=h2
        exact ⟨F',S',by simpa using m1,hkp.trans (by simpa using m2),fun b o hb => m3 b o (k1.up b o hb)⟩
     unfold L.co at hco
     split at hco
     · split at hco
       · rename_i o' t x0 hle
         obtain rfl:=Option.some.inj hco
         obtain ⟨F1,S1,k1,k2⟩:=LRep.co hle g1
         exact step k1 k2 trivial (.inr (.inr (.inr (.inr ⟨_,_,t,x0,x0,.inl rfl,.inl rfl,rfl,.refl _ _ _⟩))))
       · cases hco
     · rename_i t
       obtain rfl:=Option.some.inj hco
       have hu':u=.slice none 0 0:=by
        have g1':CRep F w (.nil t) u:=g1
        cases g1'; rfl
       subst hu'
       exact step (S1:=fun _ => False) ⟨fun _ _ h => h,fun _ _ h => .inl h,fun _ h => h.elim⟩ (LRep.ofNil (S:=fun _ => False) o t) trivial (.inr (.inr (.inr (.inl ⟨_,rfl,rfl⟩))))
     · cases hco
     · cases hco
     · obtain rfl := Option.some.inj hco
       exact stay hy rfl
   simp only [GoV.coLsK] at hx
   split at hx
   · split at hx
     · rename_i y hy
       obtain rfl:=Option.some.inj hx
       exact stay hy rfl
     · cases hx
   · split at hx
     · rename_i y hy
       obtain rfl:=Option.some.inj hx
       exact stay hy rfl
     · cases hx
   · split at hx
     · rename_i x y hco hy
       obtain rfl:=Option.some.inj hx
       exact go hco hy rfl
     · cases hx
theorem lookK_mem : ∀ (l : List (Nat × List Fl)) (i : Nat), (l.map (·.1)).contains i = (lookK l i).isSome
 | [],i => rfl
 | (j,f)::r,i => by
   simp only [List.map_cons,List.contains_cons,lookK,lookK_mem r i]
   by_cases e:j=i
   · simp [e]
   · have : (i == j) = false := by simp; exact fun h => e h.symm
     simp [e,this]
theorem Rl.headC {l : List (Nat × List Fl)} : ∀ {r r' pre : St} {F : FS} {S : Nat → Nat → BS}, Rl G fl (pre ++ r) a w vals B F S → GoV.headC l pre.length r = some r' →
 ∃ rc F' S',Rl G fl (pre ++ rc) a w vals B F' S'∧dropC (some (l.map (·.1))) pre.length rc=r'
 | [],r',pre,F,S,h,hx => by
   simp only [GoV.headC,Option.some.injEq] at hx
   subst hx
   exact ⟨[],F,S,h,rfl⟩
 | c::r,r',pre,F,S,h,hx => by
   simp only [GoV.headC] at hx
   split at hx
   · cases hx
   · rename_i r1 hr1
     have hc:(pre ++ c::r)[pre.length]?=some c:=by simp
     have cont : ∀ {c' : Cell} {F1 : FS} {S1 : Nat → Nat → BS}, Rl G fl (pre ++ c' :: r) a w vals B F1 S1 → ∀ {d : Cell}, dropOne (some (l.map (·.1))) pre.length c' = d → r' = d :: r1 →
      ∃ rc F' S',Rl G fl (pre ++ rc) a w vals B F' S'∧dropC (some (l.map (·.1))) pre.length rc=r':=by
        rintro c' F1 S1 h1 d hd rfl
        obtain ⟨rc,F',S',g1,g2⟩:=Rl.headC (pre:=pre ++ [c']) (r:=r) (r':=r1) (by simpa using h1) (by simpa using hr1)
        refine ⟨c'::rc,F',S',by simpa using g1, ?_⟩
        simp only [dropC]
        rw [show pre.length+1=(pre ++ [c']).length by simp,g2,← hd]
        rfl
     split at hx
     · rename_i hp
       have hp':c.pin=true:=by simp only [Bool.and_eq_true] at hp; exact hp.1
       obtain rfl:=Option.some.inj hx
       exact cont h (by simp [dropOne,hp']) rfl
     · rename_i hp
       split at hx
       · rename_i hk
         obtain rfl:=Option.some.inj hx
         have hp':c.pin=false:=by
           cases e:c.pin with
           | false => rfl
           | true => exact absurd (by simp [e,hk]) hp
         exact cont h (by simp only [dropOne,lookK_mem,hk]; simp [hp']) rfl
       · rename_i f hk
         split at hx
         · obtain rfl := Option.some.inj hx
           exact cont h (by simp only [dropOne,lookK_mem,hk]; simp) rfl
         · rename_i hb
           split at hx
           · rename_i ls hls
             obtain rfl:=Option.some.inj hx
             obtain ⟨F1,S1,g1,_⟩:=h.coLsK (pre:=[]) hls hc rfl (fun z hz => by
               cases z with
               | false => rfl
               | true => exact absurd hz hb)
             have e:(pre ++ c::r).set pre.length { c with ls:=[] ++ ls }=pre ++ { c with ls:=ls }::r:=by simp
             rw [e] at g1
             exact cont g1 (by simp only [dropOne,lookK_mem,hk]; simp) rfl
           · cases hx
theorem Rel.headE {f id:Nat} (h:Rel G [] st a w) (hx:GoV.headE E f id st=some st'):Rel G [] st' a w:=by
 unfold GoV.headE at hx
 split at hx
 · obtain rfl := Option.some.inj hx
   exact h
 · rename_i l0 _
   generalize l0 ++ (reach st 8 (l0.map (·.1))).map (fun i => (i,[]))=l at hx
   split at hx
   · cases hx
   · rename_i st1 hst1
     obtain rfl:=Option.some.inj hx
     obtain ⟨vals,B,F,S,h⟩:=h
     obtain ⟨rc,F',S',g1,g2⟩:=Rl.headC (pre:=[]) (by simpa using h) hst1
     simp only [List.nil_append,List.length_nil] at g1 g2
     have h3:=g1.endR (some (l.map (·.1)))
     have e:GoV.endR (some (l.map (·.1))) rc=GoV.endR none st1:=by
        have hn:∀ (i:Nat) (s:St),dropC none i s=s:=by
         intro i s
         induction s generalizing i with
         | nil => rfl
         | cons c s ih => simp only [dropC,ih]; split <;> rfl
        simp only [GoV.endR,g2,hn]
     rw [e] at h3
     exact h3.rel
/-! ## Code -/
theorem condAt_ok (h:Rel G [] st a w) {c:Operand} {x:Bool} (hx:condAt E c st=some x):a.eval c=.bool x:=by
 obtain ⟨vals,B,F,S,h⟩:=h
 unfold condAt at hx
 split at hx
 · rename_i b st1 hb
   obtain rfl:=Option.some.inj hx
   obtain ⟨l,st2,h1,h2⟩:=M.bind_some hb
   obtain ⟨rfl,hl⟩:=opnd1_ok h h1
   obtain ⟨rfl,o,rfl⟩:=asBool_ok h2
   exact hl.bool
 · cases hx
theorem wp_loopN {c : Code} {Q : Exit → Act → World → Prop} {I : Nat → Act → World → Prop} (round : ∀ n a w, I n a w → c.wp P (Exit.then (fun a' w' => ∃ m, m < n ∧ I m a' w') Q) a w) {n : Nat} {a : Act} {w : World} (h₀ : I n a w) :
 (Code.loop c).wp P Q a w:=by
 intro b k cs
 have key:∀ n a w,I n a w→∃ e a' w',Q e a' w'∧Arrives P (lone (b.at a (.code c::.inLoop c::k)) cs w) b k cs e a' w':=by
  intro n
  induction n using Nat.strongRecOn with
  | _ n ih =>
    intro a w hI
    obtain ⟨e,a₁,w₁,hq,harr⟩:=round n a w hI b (.inLoop c::k) cs
    cases e with
    | normal =>
      obtain ⟨m,hlt,hI₁⟩:=hq
      obtain ⟨e₂,a₂,w₂,hq₂,harr₂⟩:=ih m hlt a₁ w₁ hI₁
      exact ⟨e₂,a₂,w₂,hq₂,.of_steps (Steps.trans harr (.one step_inLoop)) harr₂⟩
    | exit id => exact ⟨_,a₁,w₁,hq,.pass (x:=.inLoop c) rfl (fun _ _ => .inl (by simp)) harr⟩
    | goto l => exact ⟨_,a₁,w₁,hq,.pass (x:=.inLoop c) rfl (fun _ _ => .inl (by simp)) harr⟩
    | ret => exact ⟨_,a₁,w₁,hq,.pass (x:=.inLoop c) rfl (fun _ _ => .inl (by simp)) harr⟩
    | panic ch => exact ⟨_,a₁,w₁,hq,.pass (x:=.inLoop c) rfl (fun _ _ => .inl (by simp)) harr⟩
    | outgrown => exact ⟨_,a₁,w₁,hq,.pass (x:=.inLoop c) rfl (fun _ _ => .inl (by simp)) harr⟩
 obtain ⟨e,a',w',hq,harr⟩:=key n a w h₀
 exact ⟨e,a',w',hq,.of_steps (.one step_loop) harr⟩
def Ex.ex : Ex → Exit
 | .normal => .normal
 | .exit id => .exit id
 | .ret => .ret
theorem vexec_ok (hE : EnvOK P E) {call : CallT} {n : Nat} {f : FuncId} {np : Nat} (hs : ∀ soft, StepsOK P E call np soft G) {y : R} :
 ∀ (c : Code) {K : Ex → St → Option R} {st : St} {a : Act} {w : World} {Q : Exit → Act → World → Prop}, vexec E call n f np c K st = some y → Rel G [] st a w →
   (∀ e st' a' w',K e st'=some y→Rel G [] st' a' w'→Q e.ex a' w')→c.wp P Q a w:=by
 intro c
 induction c with
 | skip => intro K st a w Q hx h hK; exact wp_skip (hK _ _ _ _ hx h)
 | label l => intro K st a w Q hx h hK; exact wp_label (hK _ _ _ _ hx h)
 | region id ops draw =>
   intro K st a w Q hx h hK
   simp only [vexec] at hx
   split at hx
   · cases hx
   · rename_i st0 hst0
     exact region_ok hE (hs _) (K:=fun st' => K .normal (GoV.endC (E.kp f id) st')) (fun st' a' w' h1 h2 => hK .normal _ a' w' h1 (h2.endR _)) (h.headE hst0) hx
 | seq c d ihc ihd =>
   intro K st a w Q hx h hK
   simp only [vexec] at hx
   refine wp_seq (ihc hx h fun e st' a' w' h1 h2 => ?_)
   cases e with
   | normal => exact ihd h1 h2 hK
   | exit i => exact hK (.exit i) st' a' w' h1 h2
   | ret => exact hK .ret st' a' w' h1 h2
 | cond c x z ihx ihz =>
   intro K st a w Q hx h hK
   simp only [vexec] at hx
   split at hx
   · cases hx
   · rename_i b hb
     refine wp_cond (condAt_ok h hb) ?_
     cases b with
     | true => exact ihx (by simpa using hx) h hK
     | false => exact ihz (by simpa using hx) h hK
 | block id c ih =>
   intro K st a w Q hx h hK
   simp only [vexec] at hx
   refine wp_block (ih hx h fun e st' a' w' h1 h2 => ?_)
   cases e with
   | normal => exact hK .normal st' a' w' h1 h2
   | exit i =>
     simp only at h1
     simp only [Ex.ex,Exit.inBlock]
     split
     · rename_i e; rw [if_pos e] at h1; exact hK .normal st' a' w' h1 h2
     · rename_i e; rw [if_neg e] at h1; exact hK (.exit i) st' a' w' h1 h2
   | ret => exact hK .ret st' a' w' h1 h2
 | loop c ih =>
   intro K st a w Q hx h hK
   simp only [vexec] at hx
   split at hx
   · cases hx
   · rename_i st0 hst0
     refine wp_loopN (I:=fun m a w => ∃ st,loopN (vexec E call n f np c) (GoV.headE E f (firstRegion c)) m K st=some y∧Rel G [] st a w) (fun m a w hI => ?_) ⟨st0,hx,h.headE hst0⟩
     obtain ⟨st,hx,h⟩:=hI
     cases m with
     | zero => simp [loopN] at hx
     | succ m =>
       simp only [loopN] at hx
       refine ih hx h fun e st' a' w' h1 h2 => ?_
       cases e with
       | normal =>
         simp only at h1
         split at h1
         · cases h1
         · rename_i st2 hst2
           exact ⟨m,Nat.lt_succ_self m,st2,h1,h2.headE hst2⟩
       | exit i => exact hK (.exit i) st' a' w' h1 h2
       | ret => exact hK .ret st' a' w' h1 h2
 | exit id => intro K st a w Q hx h hK; exact wp_exit (hK (.exit id) _ _ _ hx h)
 | ret => intro K st a w Q hx h hK; exact wp_ret (hK .ret _ _ _ hx h)
 | _ => intro K st a w Q hx; simp [vexec] at hx
end
end GoV

/- A state with more slots behind it. -/
namespace GoV
open Go

namespace M
theorem exec_append {α:Type}:∀ (m:M α) {st st':St} {x:α} (ex:St),m.exec st=some (x,st')→m.exec (st ++ ex)=some (x,st' ++ ex)∧st'.length=st.length:=by
 intro m
 induction m with
 | pure a => intro st st' x ex h; simp only [exec,Option.some.injEq,Prod.mk.injEq] at h; simp [exec,h]
 | fail => intro st st' x ex h; simp [exec] at h
 | must b k ih =>
   intro st st' x ex h
   cases b with
   | true => exact ih ex h
   | false => cases h
 | alt b k1 k2 ih1 ih2 =>
   intro st st' x ex h
   cases b with
   | true => exact ih1 ex h
   | false => exact ih2 ex h
 | ext β o k ih =>
   intro st st' x ex h
   cases o with
   | none => cases h
   | some y => exact ih y ex h
 | get i k ih =>
   intro st st' x ex h
   simp only [exec] at h
   split at h
   · rename_i c hc
     simp only [exec,List.getElem?_append_left (get_lt hc),hc]
     exact ih _ ex h
   · cases h
 | head i k ih =>
   intro st st' x ex h
   simp only [exec] at h
   split at h
   · rename_i c hc
     simp only [exec,List.getElem?_append_left (get_lt hc),hc]
     exact ih _ ex h
   · cases h
 | leaf i j k ih =>
   intro st st' x ex h
   simp only [exec] at h
   split at h
   · rename_i c hc
     split at h
     · rename_i l hl
       simp only [exec,List.getElem?_append_left (get_lt hc),hc,hl]
       exact ih _ _ _ ex h
     · cases h
   · cases h
 | set i c k ih =>
   intro st st' x ex h
   simp only [exec] at h
   split at h
   · rename_i hi
     have hi':i<(st ++ ex).length:=by simp; omega
     simp only [exec,if_pos hi',List.set_append_left _ _ hi]
     obtain ⟨g1,g2⟩:=ih ex h
     exact ⟨g1,by simpa using g2⟩
   · cases h
 | view i k ih =>
   intro st st' x ex h
   simp only [exec] at h
   split at h
   · rename_i c hc
     simp only [exec,List.getElem?_append_left (get_lt hc),hc]
     exact ih _ ex h
   · cases h
 | setL i j l d e s k ih =>
   intro st st' x ex h
   simp only [exec] at h
   split at h
   · rename_i c hc
     split at h
     · rename_i hj
       simp only [exec,List.getElem?_append_left (get_lt hc),hc,if_pos hj,List.set_append_left _ _ (get_lt hc)]
       obtain ⟨g1,g2⟩:=ih ex h
       exact ⟨g1,by simpa using g2⟩
     · cases h
   · cases h
end M

def L.low (n : Nat) : L → Prop
 | .lent p _ => p.r<n
 | .eptr p _ _ => p.r<n
 | .ptr r _ => r<n
 | _ => True
section
variable {G:Ctx} {fl:List (L × Value)} {st st':St} {a:Act} {w w':World} {vals vals':VS} {B B':Nat→Nat} {F F':FS} {S:Nat→Nat→BS} {E:Env} {P:Program}

theorem LinkOK.isLow {l:L} {u:Value} (h:LinkOK st vals B w l u):l.low st.length:=by
 have gone:∀ {p},Gone st p→p.r<st.length:=fun ⟨c,hc,_⟩ => get_lt hc
 have head:∀ {p t n hv},PlHd st vals w p t n hv→p.r<st.length:=fun ⟨c,_,_,_,_,hc,_⟩ => get_lt hc
 cases l with
 | lent p rg => exact h.elim gone fun ⟨_,_,_,h,_⟩ => head h
 | eptr p j o => exact h.elim gone fun ⟨_,_,_,_,_,h,_⟩ => head h
 | ptr r o => obtain ⟨c,hc,_⟩:=h; exact get_lt hc
 | _ => trivial
theorem LinkOK.near {n : Nat} {st2 : St} (hs : ∀ i, i < n → st2[i]? = st[i]?) (hv : ∀ i, i < n → vals' i = vals i) (hB : ∀ i, i < n → B' i = B i) {l : L} {u : Value} (hl : l.low n)
 (h:LinkOK st vals B w l u):LinkOK st2 vals' B' w l u:=by
 have gone:∀ {p:Pl},p.r<n→Gone st p→Gone st2 p:=fun hp ⟨c,hc,ht⟩ => ⟨c,(hs _ hp).trans hc,ht⟩
 have head:∀ {p:Pl} {t n' hv'},p.r<n→PlHd st vals w p t n' hv'→PlHd st2 vals' w p t n' hv':=by
  rintro p t n' hv' hp ⟨c,o,t0,x0,h0,hc,hl,hu,hm⟩
  exact ⟨c,o,t0,x0,h0,(hs _ hp).trans hc,hl,by rw [hv _ hp]; exact hu,hm⟩
 cases l with
 | lent p rg => exact h.imp (gone hl) fun ⟨t,n',hv',h,hu⟩ => ⟨t,n',hv',head hl h,hu⟩
 | eptr p j o => exact h.imp (gone hl) fun ⟨t,n',b,off,C,h,hu⟩ => ⟨t,n',b,off,C,head hl h,hu⟩
 | ptr r o =>
   obtain ⟨c,hc,h⟩:=h
   exact ⟨c,(hs _ hl).trans hc,h.imp id fun ⟨z,hz,hu⟩ => ⟨z,hz,by rw [hB _ hl]; exact hu⟩⟩
 | _ => trivial
def ext {α:Type} (f:Nat→α) (n:Nat) (x:α):Nat→α:=fun i => if i=n then x else f i
theorem ext_self {α:Type} (f:Nat→α) (n:Nat) (x:α):ext f n x n=x:=by simp [ext]
theorem ext_ne {α:Type} {f:Nat→α} {n i:Nat} {x:α} (h:i≠n):ext f n x i=f i:=by simp [ext,h]
theorem OL.near {n : Nat} {st2 : St} (hs : ∀ i, i < n → st2[i]? = st[i]?) (hv : ∀ i, i < n → vals' i = vals i) (hB : ∀ i, i < n → B' i = B i) {l : L} {u : Value} (hl : l.low n)
 (h:OL st vals B F w l u):OL st2 vals' B' F w l u:=⟨h.1,h.2.near hs hv hB hl⟩
theorem Ols.mono {st2 : St} (hm : ∀ l u, OL st vals B F w l u → OL st2 vals' B' F' w l u) : ∀ {ls : List L} {us : List Value}, Ols st vals B F w ls us → Ols st2 vals' B' F' w ls us
 | [],[],_ => trivial
 | _::_,_::_,h => ⟨hm _ _ h.1,Ols.mono hm h.2⟩
 | [],_::_,h => h.elim
 | _::_,[],h => h.elim
theorem OL.append {c:Cell} {us:List Value} {b:Nat} {l:L} {u:Value} (h:OL st vals B F w l u):OL (st ++ [c]) (ext vals st.length us) (ext B st.length b) F w l u :=
 h.near (n:=st.length) (fun i hi => List.getElem?_append_left hi) (fun i hi => ext_ne (by omega)) (fun i hi => ext_ne (by omega)) h.2.isLow
theorem Rl.append (h : Rl G fl st a w vals B F S) {c : Cell} {us : List Value} {v : Value} {b : Nat} {T : Nat → BS} (hp : c.pin = false) (hcell : CellOK F w us b (T 0) c v)
 (hleaf:∀ (k:Nat) (l:L) (u:Value),c.ls[k]?=some l→us[k]?=some u→LRep F w l u (T (k+1))∧LinkOK st vals B w l u) (hTs:∀ k y,T k y→∃ k',S st.length k' y) (hTd:∀ k k' y,k≠k'→T k y→¬ T k' y) :
 Rl G [] (st ++ [c]) ⟨a.tmps.push v,a.defers⟩ w (ext vals st.length us) (ext B st.length b) F (fun i k => if i=st.length then T k else if i<st.length then S i k else fun _ => False):=by
 have hget:∀ {i q},(st ++ [c])[i]?=some q→(i<st.length∧st[i]?=some q)∨(i=st.length∧q=c):=by
  intro i q hq
  by_cases hi:i<st.length
  · rw [List.getElem?_append_left hi] at hq; exact .inl ⟨hi,hq⟩
  · have := get_lt hq
    simp at this
    have e:i=st.length:=by omega
    subst e
    simp at hq
    exact .inr ⟨rfl,hq.symm⟩
 have hap:∀ {l u},LinkOK st vals B w l u→LinkOK (st ++ [c]) (ext vals st.length us) (ext B st.length b) w l u:=fun hk =>
  hk.near (n:=st.length) (fun i hi => List.getElem?_append_left hi) (fun i hi => ext_ne (by omega)) (fun i hi => ext_ne (by omega)) hk.isLow
 have htmp:∀ {i},i<st.length→(a.tmps.push v).getD i undef=a.tmps.getD i undef:=by
  intro i hi
  have:i≠a.tmps.size:=by rw [h.sz]; omega
  simp only [Array.getD_eq_getD_getElem?,Array.getElem?_push,if_neg this]
 have key:∀ {i k y},(if i=st.length then T k else if i<st.length then S i k else fun _ => False) y→(i=st.length∧T k y)∨(i<st.length∧S i k y):=by
  intro i k y hy
  split at hy
  · exact .inl ⟨by assumption,hy⟩
  · split at hy
    · exact .inr ⟨by assumption,hy⟩
    · exact hy.elim
 refine ⟨by simp [h.sz],h.df,fun i q hq => ?_,fun i q k l u hq hl hu => ?_,fun k l u hf => by simp at hf,fun i k i' k' y hne hy hy' => ?_,fun i k y hy => ?_,h.fz,h.f0,h.un,h.wo,fun i q hq hpin => ?_⟩
 · rcases hget hq with ⟨hi, hq⟩ | ⟨rfl, rfl⟩
   · rw [ext_ne (by omega), ext_ne (by omega), htmp hi, if_neg (by omega), if_pos hi]
     exact h.cell i q hq
   · rw [ext_self, ext_self, if_pos rfl]
     have:(a.tmps.push v).getD st.length undef=v:=by
        rw [← h.sz]; simp
     rw [this]
     exact hcell
 · rcases hget hq with ⟨hi, hq⟩ | ⟨rfl, rfl⟩
   · rw [ext_ne (by omega)] at hu
     rw [if_neg (by omega),if_pos hi]
     obtain ⟨g1,g2⟩:=h.leaf i q k l u hq hl hu
     exact ⟨g1,hap g2⟩
   · rw [ext_self] at hu
     rw [if_pos rfl]
     obtain ⟨g1,g2⟩:=hleaf k l u hl hu
     exact ⟨g1,hap g2⟩
 · rcases key hy with ⟨rfl, g1⟩ | ⟨hi, g1⟩ <;> rcases key hy' with ⟨e, g2⟩ | ⟨hi', g2⟩
   · exact hTd k k' y (fun e' => hne (by rw [e,e'])) g1 g2
   · obtain ⟨k2, h2⟩ := hTs k y g1
     exact h.disj _ _ _ _ y (by simp; omega) h2 g2
   · obtain ⟨k2, h2⟩ := hTs k' y g2
     exact h.disj _ _ _ _ y (by simp; omega) h2 g1
   · exact h.disj i k i' k' y hne g1 g2
 · rcases key hy with ⟨rfl, g1⟩ | ⟨hi, g1⟩
   · obtain ⟨k2, h2⟩ := hTs k y g1
     exact h.sub _ _ y h2
   · exact h.sub i k y g1
 · rcases hget hq with ⟨hi, hq⟩ | ⟨rfl, rfl⟩
   · rw [htmp hi]; exact h.pin i q hq hpin
   · rw [hp] at hpin; cases hpin
theorem Rl.shrink {ex : St} {tm : Array Value} (h : Rl G fl (st ++ ex) a w vals B F S) (hsz : tm.size = st.length) (htm : ∀ i, i < st.length → tm.getD i undef = a.tmps.getD i undef)
 (hlow:∀ (i k:Nat) (c:Cell) (l:L),st[i]?=some c→c.ls[k]?=some l→l.low st.length) (hfl:∀ (k:Nat) (l:L) (u:Value),fl[k]?=some (l,u)→l.low st.length) :
 Rl G fl st ⟨tm,a.defers⟩ w vals B F (fun i k => if i=st.length then S (st ++ ex).length k else if i<st.length then S i k else fun _ => False):=by
 have hap:∀ {l:L} {u},l.low st.length→LinkOK (st ++ ex) vals B w l u→LinkOK st vals B w l u:=fun hl hk =>
  hk.near (n:=st.length) (fun i hi => (List.getElem?_append_left hi).symm) (fun _ _ => rfl) (fun _ _ => rfl) hl
 have key:∀ {i k y},(if i=st.length then S (st ++ ex).length k else if i<st.length then S i k else fun _ => False) y→∃ i',S i' k y∧((i=st.length∧i'=(st ++ ex).length)∨(i<st.length∧i'=i)):=by
  intro i k y hy
  split at hy
  · exact ⟨_,hy,.inl ⟨by assumption,rfl⟩⟩
  · split at hy
    · exact ⟨_,hy,.inr ⟨by assumption,rfl⟩⟩
    · exact hy.elim
 have hlen:st.length≤(st ++ ex).length:=by simp
 refine ⟨hsz,h.df,fun i q hq => ?_,fun i q k l u hq hl hu => ?_,fun k l u hf => ?_,fun i k i' k' y hne hy hy' => ?_,fun i k y hy => ?_,h.fz,h.f0,h.un,h.wo,fun i q hq hpin => ?_⟩
 · have hi := get_lt hq
   rw [htm i hi,if_neg (by omega),if_pos hi]
   exact h.cell i q (by rw [List.getElem?_append_left hi]; exact hq)
 · have hi := get_lt hq
   rw [if_neg (by omega),if_pos hi]
   obtain ⟨g1,g2⟩:=h.leaf i q k l u (by rw [List.getElem?_append_left hi]; exact hq) hl hu
   exact ⟨g1,hap (hlow i k q l hq hl) g2⟩
 · rw [if_pos rfl]
   obtain ⟨g1,g2⟩:=h.fleaf k l u hf
   exact ⟨g1,hap (hfl k l u hf) g2⟩
 · obtain ⟨j, h1, h2⟩ := key hy
   obtain ⟨j',h3,h4⟩:=key hy'
   refine h.disj j k j' k' y (fun e => hne ?_) h1 h3
   simp only [Prod.mk.injEq] at e ⊢
   omega
 · obtain ⟨j, h1, h2⟩ := key hy
   exact h.sub j k y h1
 · have hi := get_lt hq
   rw [htm i hi]
   exact h.pin i q (by rw [List.getElem?_append_left hi]; exact hq) hpin
theorem Rl.giveBack {l0 l : L} {u0 u : Value} (h : Rl G (fl ++ [(l0, u0)]) st a w vals B F S) {r k : Nat} {c : Cell} {X : BS} (hc : st[r]? = some c) (hk : k < c.ls.length) (hu : (vals r)[k]? = some u) (hck : c.ck.open = true) {e : Nat}
 (hX:∀ b,X b→S st.length (fl.length+1) b∨S r (k+1) b) (hrep:LRep F w l u X) (hlk0:LinkOK st vals B w l u) :
 Rl G fl (st.set r (c.setL k l true e)) a w vals B F (upS (upS S r (k+1) X) st.length (fl.length+1) fun _ => False):=by
 have hlt:=get_lt hc
 have hlk:c.ls[k]?=some c.ls[k]:=by simp [hk]
 have hle:CellLe c (c.setL k l true e):=by
  refine ⟨fun z hz => .inr ⟨z,hz⟩,id,id,fun j hj => by simp [Cell.setL,hj],fun j i hj => by simp only [Cell.setL]; rw [esAt_col,hj,Bool.true_or],.inr fun q => ?_⟩
  by_cases e:k=q
  · exact .inl (by simp [Cell.setL,testBit_bit,e])
  · refine .inr (.inl ?_)
    simp only [Cell.setL]
    rw [get_set hk,if_neg e]
 have hlen:(st.set r (c.setL k l true e)).length=st.length:=by simp
 refine ⟨by rw [hlen]; exact h.sz,h.df,fun i q hq => ?_,fun i q k' l' u' hq hl' hu' => ?_,fun k' l' u' hf => ?_,fun i k1 i' k2 b hne hb hb' => ?_,fun i k1 b hb => ?_,h.fz,h.f0,h.un,h.wo,fun i q hq hp => ?_⟩
 · rw [get_set hlt] at hq
   have hi:i<st.length:=by
    split at hq
    · omega
    · exact get_lt hq
   rw [upS_ne (by omega),upS_ne (by omega)]
   split at hq
   · rename_i e; subst e
     obtain rfl:=Option.some.inj hq
     refine CellOK.ls (c:=c) rfl (by simp [Cell.setL]) (by intro e; rw [e] at hk; simp at hk) (fun z hz => ?_) (h.cell r c hc)
     rw [hz] at hck
     cases z with
     | false => rfl
     | true => cases hck
   · exact h.cell i q hq
 · rw [get_set hlt] at hq
   split at hq
   · rename_i e; subst e
     obtain rfl:=Option.some.inj hq
     simp only [Cell.setL] at hl'
     rw [get_set hk] at hl'
     rw [upS_ne (by omega)]
     split at hl'
     · rename_i e2; subst e2
       obtain rfl:=Option.some.inj hl'
       rw [hu] at hu'
       obtain rfl:=Option.some.inj hu'
       rw [upS_self]
       exact ⟨hrep,hlk0.set hc hle⟩
     · rename_i e2
       rw [upS_ne (by omega)]
       obtain ⟨g1,g2⟩:=h.leaf r c k' l' u' hc hl' hu'
       exact ⟨g1,g2.set hc hle⟩
   · rename_i e
     have hi:=get_lt hq
     rw [upS_ne (by omega),upS_ne (by omega)]
     obtain ⟨g1,g2⟩:=h.leaf i q k' l' u' hq hl' hu'
     exact ⟨g1,g2.set hc hle⟩
 · rw [hlen]
   have hk':=get_lt hf
   rw [upS_ne (by omega),upS_ne (by omega)]
   obtain ⟨g1,g2⟩:=h.fleaf k' l' u' (by rw [List.getElem?_append_left hk']; exact hf)
   exact ⟨g1,g2.set hc hle⟩
 · have key : ∀ {i k1 b}, upS (upS S r (k + 1) X) st.length (fl.length + 1) (fun _ => False) i k1 b →
        (i=r∧k1=k+1∧(S st.length (fl.length+1) b∨S r (k+1) b))∨(¬ (i=r∧k1=k+1)∧¬ (i=st.length∧k1=fl.length+1)∧S i k1 b):=by
    intro i k1 b hb
    by_cases e:i=st.length∧k1=fl.length+1
    · obtain ⟨rfl,rfl⟩:=e; rw [upS_self] at hb; exact hb.elim
    · rw [upS_ne e] at hb
      by_cases e':i=r∧k1=k+1
      · obtain ⟨rfl,rfl⟩:=e'; rw [upS_self] at hb; exact .inl ⟨rfl,rfl,hX b hb⟩
      · rw [upS_ne e'] at hb; exact .inr ⟨e',e,hb⟩
   rcases key hb with ⟨rfl,rfl,h1⟩ | ⟨n1,n2,h1⟩ <;> rcases key hb' with ⟨e1,e2,h2⟩ | ⟨m1,m2,h2⟩
   · exact hne (by rw [e1,e2])
   · rcases h1 with h1 | h1
     · exact h.disj _ _ _ _ b (fun e => m2 (by simp only [Prod.mk.injEq] at e; omega)) h1 h2
     · exact h.disj _ _ _ _ b (fun e => m1 (by simp only [Prod.mk.injEq] at e; omega)) h1 h2
   · rcases h2 with h2 | h2
     · exact h.disj _ _ _ _ b (fun e => n2 (by simp only [Prod.mk.injEq] at e; omega)) h1 h2
     · exact h.disj _ _ _ _ b (fun e => n1 (by simp only [Prod.mk.injEq] at e; omega)) h1 h2
   · exact h.disj i k1 i' k2 b hne h1 h2
 · by_cases e : i = st.length ∧ k1 = fl.length + 1
   · obtain ⟨rfl,rfl⟩:=e; rw [upS_self] at hb; exact hb.elim
   rw [upS_ne e] at hb
   by_cases e':i=r∧k1=k+1
   · obtain ⟨rfl,rfl⟩:=e'; rw [upS_self] at hb; exact (hX b hb).elim (h.sub _ _ b) (h.sub _ _ b)
   · rw [upS_ne e'] at hb; exact h.sub i k1 b hb
 · rw [get_set hlt] at hq
   split at hq
   · rename_i e; subst e
     obtain rfl:=Option.some.inj hq
     exact h.pin r c hc hp
   · exact h.pin i q hq hp
end
end GoV

/- Operations on numbers, addresses and stretches. -/
namespace GoV
open Go
section
variable {G:Ctx} {fl:List (L × Value)} {st st':St} {a:Act} {w w':World} {vals:VS} {B:Nat→Nat} {F:FS} {S:Nat→Nat→BS} {E:Env} {P:Program}

theorem binI_ok {op:BinOp} {k:IntKind} {x y:Int} {l:L} (h:binI op k x y=some l) (hs:safeI op y=true) {t:TypeId}:∃ v,(binOp op t (.int k x) (.int k y)).run P w=.ok v w∧OL st vals B F w l v∧v.oneCell'=true:=by
 unfold binI at h
 split at h
 · cases h; exact ⟨_,by simp [binOp,Op.intArith],.ofInt,rfl⟩
 · cases h; exact ⟨_,by simp [binOp,Op.intArith],.ofInt,rfl⟩
 · cases h; exact ⟨_,by simp [binOp,Op.intArith],.ofInt,rfl⟩
 · have hy : y ≠ 0 := by simpa [safeI] using hs
   cases h; exact ⟨_,by simp [binOp,Op.intDiv,hy],.ofInt,rfl⟩
 · have hy : y ≠ 0 := by simpa [safeI] using hs
   cases h; exact ⟨_,by simp [binOp,Op.intDiv,hy],.ofInt,rfl⟩
 · cases h; exact ⟨_,by simp only [binOp,Op.intBits,if_neg (show ¬ (k≠k) from fun h => h rfl)]; rfl,.ofInt,rfl⟩
 · cases h; exact ⟨_,by simp only [binOp,Op.intBits,if_neg (show ¬ (k≠k) from fun h => h rfl)]; rfl,.ofInt,rfl⟩
 · cases h; exact ⟨_,by simp only [binOp,Op.intBits,if_neg (show ¬ (k≠k) from fun h => h rfl)]; rfl,.ofInt,rfl⟩
 · cases h; exact ⟨_,by simp only [binOp,Op.intBits,if_neg (show ¬ (k≠k) from fun h => h rfl)]; rfl,.ofInt,rfl⟩
 · cases h; exact ⟨_,by simp [binOp,Op.intCmp],.ofBool,rfl⟩
 · cases h; exact ⟨_,by simp [binOp,Op.intCmp],.ofBool,rfl⟩
 · cases h; exact ⟨_,by simp [binOp,Op.intCmp],.ofBool,rfl⟩
 · cases h; exact ⟨_,by simp [binOp,Op.intCmp],.ofBool,rfl⟩
 · cases h; exact ⟨_,by simp [binOp,Op.intCmp],.ofBool,rfl⟩
 · cases h; exact ⟨_,by simp [binOp,Op.intCmp],.ofBool,rfl⟩
 · cases h
theorem shiftI_ok {op : BinOp} {k k' : IntKind} {x y : Int} {l : L} (ho : op = .shl ∨ op = .shr) (h : shiftI op k x y = some l) (hs : safeI op y = true) {t : TypeId} :
 ∃ v,(binOp op t (.int k x) (.int k' y)).run P w=.ok v w∧OL st vals B F w l v∧v.oneCell'=true:=by
 unfold shiftI at h
 rcases ho with rfl | rfl
 · have hy : ¬ y < 0 := by have : 0 ≤ y := by simpa [safeI] using hs
                           omega
   cases h; exact ⟨_,by simp [binOp,Op.shift,hy],.ofInt,rfl⟩
 · have hy : ¬ y < 0 := by have : 0 ≤ y := by simpa [safeI] using hs
                           omega
   cases h; exact ⟨_,by simp [binOp,Op.shift,hy],.ofInt,rfl⟩
theorem eqGuard_int {op:BinOp} {t:TypeId} {x y:Operand} {k k':IntKind} {p q:Int}:(eqGuard op t x y (.int k p) (.int k' q)).run P w=.ok () w:=by
 unfold eqGuard
 split <;> simp
theorem eqGuard_bool {op:BinOp} {t:TypeId} {x y:Operand} {p q:Bool}:(eqGuard op t x y (.bool p) (.bool q)).run P w=.ok () w:=by
 unfold eqGuard
 split <;> simp
theorem alive_ok (h : Rl G [] st a w vals B F S) {l : L} {v : Value} (ho : OL st vals B F w l v) {u : Unit} (hx : (alive l).exec st = some (u, st')) :
 st'=st∧∃ b q,v=.pointer (some ⟨b,q,none⟩)∧∀ n,OL st vals B F w (offL n l) (.pointer (some ⟨b,q+n,none⟩)):=by
 unfold alive at hx
 split at hx
 · rename_i r o
   obtain ⟨q,st1,h1,h2⟩:=M.bind_some hx
   obtain ⟨c,hc,rfl,rfl⟩:=M.peek_some h1
   obtain ⟨_,st2,h3,h4⟩:=M.bind_some h2
   obtain ⟨hd,rfl⟩:=M.must_some h3
   have hst:st'=st2:=by
    split at h4
    · exact (M.pure_some h4).2
    · exact (M.fail_some h4).elim
   refine ⟨hst, ?_⟩
   obtain ⟨_,c1,hc1,hk⟩:=ho
   rw [hc] at hc1
   obtain rfl:=Option.some.inj hc1
   rcases hk with hk | ⟨z,hz,rfl⟩
   · simp [Cell.hd,hk] at hd
   · exact ⟨_,_,rfl,fun n => ⟨trivial,c,hc,.inr ⟨z,hz,rfl⟩⟩⟩
 · rename_i p j o
   obtain ⟨l0,st1,h1,h2⟩:=M.bind_some hx
   obtain ⟨rfl,c,hc,hfr,hl⟩:=rootL_ok h1
   have hnd:c.ls[p.k]?≠some .dead:=by
    rw [hl]
    intro e
    obtain rfl:=Option.some.inj e
    exact M.fail_some h2
   have hst:st'=st1:=by
    split at h2
    · exact (M.fail_some h2).elim
    · exact (M.pure_some h2).2
   refine ⟨hst, ?_⟩
   rcases ho.2 with ⟨q,hq,hd⟩ | ⟨t1,n1,b,off,C,h1,h2,rfl⟩
   · rw [hc] at hq
     obtain rfl:=Option.some.inj hq
     exact absurd hd (hfr.no hnd)
   · refine ⟨_, _, rfl, fun n => ⟨trivial, .inr ⟨t1, n1, b, off, C, h1, h2, ?_⟩⟩⟩
     rw [Nat.add_assoc]
 · obtain ⟨_, rfl⟩ := M.pure_some hx
   refine ⟨rfl, ?_⟩
   cases ho.1 with
   | fe T x o b base h1 h2 => exact ⟨_,_,rfl,fun n => by rw [Nat.add_assoc]; exact (CRep.fe _ _ _ b base h1 h2).ol⟩
 · obtain ⟨_, rfl⟩ := M.pure_some hx
   refine ⟨rfl, ?_⟩
   cases ho.1 with
   | rp ls o b us h1 h2 h3 => exact ⟨_,_,rfl,fun n => (CRep.rp _ _ b us h1 h2 h3).ol⟩
 · exact (M.fail_some hx).elim
theorem nilCheck_ok (h : Rl G [] st a w vals B F S) {o : Oper} {x : Operand} (ho : o.op = .nilCheck x) {u : Unit}
 (hx:(do let l ← opnd1 E 0 x; alive l; dstV o.dst ⟨.one,[l]⟩:M Unit).exec st=some (u,st')) :
 OpOK P o a w fun a' w' => Rel G [] st' a' w':=by
 obtain ⟨l,st1,h1,h2⟩:=M.bind_some hx
 obtain ⟨rfl,hl⟩:=opnd1_ok h h1
 obtain ⟨_,st2,h3,h4⟩:=M.bind_some h2
 obtain ⟨rfl,b,q,hv,_⟩:=alive_ok h hl h3
 exact op_value (w':=w) (v:=a.eval x) (by rw [execOp,ho]; simp [hv]) (dst1_ok h hl (by rw [hv]; rfl) h4)
theorem fieldOff_ok (hE : EnvOK P E) {t : TypeId} {ti : TI} (ht : E.ti t = some ti) {f : Nat} {n : Nat × Nat × Bool} (h : fieldOff ti f = some n) :
 ∃ fs q g d', P.underlying t = some (.struct fs) ∧ fs[f]? = some q ∧ q.offset = n.1 ∧ P.info? q.type = some g ∧ g.size ≠ 0 ∧ g.size = n.2.1 ∧
   P.underlying q.type=some d'∧isAggD d'=n.2.2:=by
 unfold fieldOff at h
 split at h
 · rename_i ps htk
   obtain ⟨d,hd,_,hk⟩:=(hE.ti t ti ht).und
   simp only [htk,TKOK] at hk
   obtain ⟨fs,rfl,hl,hz⟩:=hk
   have hlt:=get_lt h
   have hf:fs[f]?=some fs[f]:=by simp [show f<fs.size by omega]
   obtain ⟨h1,q,d',h2,h3,h4,h5,h6⟩:=hz f _ n hf h
   exact ⟨fs,_,q,d',hd,hf,h1.symm,h2,h4,h3,h5,h6⟩
 · cases h
theorem add_addr (b q n:Nat):(⟨b,q,none⟩:Addr).add n=⟨b,q+n,none⟩:=by
 unfold Addr.add
 split
 · rename_i e; subst e; rfl
 · rfl
theorem fieldAddr_ok (hE : EnvOK P E) (h : Rl G [] st a w vals B F S) {o : Oper} {t : TypeId} {x : Operand} {f : Nat} (ho : o.op = .fieldAddr t x f) {u : Unit}
 (hx : (do
  let ti ← M.opt (E.ti t)
  let n ← M.opt (fieldOff ti f)
  let l ← opnd1 E 0 x
  alive l
  dstV o.dst ⟨.one,[offL n.1 l]⟩:M Unit).exec st=some (u,st')) :
 OpOK P o a w fun a' w' => Rel G [] st' a' w':=by
 obtain ⟨ti,st1,h1,h2⟩:=M.bind_some hx
 obtain ⟨hti,rfl⟩:=M.opt_some h1
 obtain ⟨n,st2,h3,h4⟩:=M.bind_some h2
 obtain ⟨hn,rfl⟩:=M.opt_some h3
 obtain ⟨l,st3,h5,h6⟩:=M.bind_some h4
 obtain ⟨rfl,hl⟩:=opnd1_ok h h5
 obtain ⟨_,st4,h7,h8⟩:=M.bind_some h6
 obtain ⟨rfl,b,q,hv,hoff⟩:=alive_ok h hl h7
 obtain ⟨fs,fd,g,_,hund,hf,hfo,hg,hg0,_⟩:=fieldOff_ok hE hti hn
 rw [← hfo] at h8
 refine op_value (w':=w) (v:=.pointer (some ⟨b,q+fd.offset,none⟩)) ?_ (dst1_ok h (hoff _) rfl h8)
 rw [execOp,ho]
 simp [Instr.fieldAt,underlying_run hund,hf,hv,Instr.sureAddr,fieldPlace,sizeOf_run hg,hg0,add_addr]
end
end GoV

/- Slices: their length, stretches, elements' addresses, new ones. -/
namespace GoV
open Go

def rlen (rg:Option (Nat × Option Nat)) (N:Nat):Nat:=match rg with | none => N | some (lo,q) => q.getD (N - lo)
def rcap (rg:Option (Nat × Option Nat)) (C:Nat):Nat:=match rg with | none => C | some (lo,_) => C - lo
def rlo (rg:Option (Nat × Option Nat)) (lo:Nat):Nat:=match rg with | none => lo | some (l,_) => l+lo
theorem Resl.form {sz N : Nat} {rg : Option (Nat × Option Nat)} {hv u : Value} {A : Option Addr} {C : Nat} (h : Resl sz rg N hv u) (hv' : hv = .slice A N C) (hC : N ≤ C) :
 ∃ A' c n,u=.slice A' n c∧n≤c∧n=rlen rg N∧c=rcap rg C:=by
 cases rg with
 | none => simp only [Resl] at h; subst h; exact ⟨A,C,N,hv',hC,rfl,rfl⟩
 | some q =>
   obtain ⟨lo,q⟩:=q
   obtain ⟨n,hn,h1,A1,C1,h2,h3,A',h4,_⟩:=h
   rw [hv'] at h2
   simp only [Value.slice.injEq] at h2
   obtain ⟨_,_,rfl⟩:=h2
   exact ⟨A',C - lo,n,h4,by omega,hn,rfl⟩
theorem cut_len {α : Type} {rg : Option (Nat × Option Nat)} {x : List α} {sz : Nat} {hv u : Value} (h : Resl sz rg x.length hv u) :
 (cut rg x).length=rlen rg x.length:=by
 cases rg with
 | none => rfl
 | some q =>
   obtain ⟨lo,q⟩:=q
   obtain ⟨n,rfl,h1,_⟩:=h
   exact cut_length h1
def reA (sz lo c:Nat) (A:Option Addr):Option Addr:=if c=lo then A else A.map fun a => a.add (lo * sz)
theorem Resl.cut {sz N : Nat} {rg : Option (Nat × Option Nat)} {hv : Value} {A0 A : Option Addr} {C n c lo h : Nat} {q : Option Nat}
 (hr:Resl sz rg N hv (.slice A n c)) (hv':hv=.slice A0 N C) (hA0:(∀ a,A0=some a→∃ b o,a=⟨b,o,none⟩)∨N=0) (hC:N≤C) (hlo:lo≤h) (hh:h≤n)
 (hq:q.getD (N - rlo rg lo)=h - lo) :
 Resl sz (some (rlo rg lo,q)) N hv (.slice (reA sz lo c A) (h - lo) (c - lo)):=by
 have shift:∀ {b o1:Nat},A=some ⟨b,o1,none⟩→reA sz lo c A=some ⟨b,if c=lo then o1 else o1+lo * sz,none⟩:=by
  rintro b o1 rfl
  unfold reA
  split
  · rfl
  · simp [add_addr]
 have shiftN:A=none→reA sz lo c A=none:=by
  rintro rfl
  unfold reA
  split <;> rfl
 have zero:lo=0→reA sz lo c A=A:=by
  rintro rfl
  unfold reA
  split
  · rfl
  · cases A <;> simp [Addr.add]
 cases rg with
 | none =>
   simp only [Resl] at hr
   rw [hv'] at hr
   simp only [Value.slice.injEq] at hr
   obtain ⟨rfl,rfl,rfl⟩:=hr
   refine ⟨h - lo,hq.symm,by simp only [rlo]; omega,A,c,hv',hC,_,rfl, ?_⟩
   rcases hA0 with hA0 | hz
   rotate_left
   · have : lo = 0 := by omega
     exact .inr (.inl ⟨this,zero this⟩)
   cases A with
   | none => exact .inl ⟨rfl,shiftN rfl⟩
   | some a0 =>
     obtain ⟨b,o,rfl⟩:=hA0 a0 rfl
     refine .inr <| .inr ⟨b,o,_,rfl,shift rfl,fun hlt => ?_, ?_, ?_⟩
     · simp only [rlo] at hlt ⊢; rw [if_neg (by omega)]
     · split <;> omega
     · split
       · omega
       · have : lo * sz ≤ c * sz := Nat.mul_le_mul_right _ (by omega)
         omega
 | some r =>
   obtain ⟨l,r⟩:=r
   obtain ⟨n',hn',h1,A1,C1,h2,h3,A',h4,h5⟩:=hr
   rw [hv'] at h2
   simp only [Value.slice.injEq] at h2 h4
   obtain ⟨rfl,_,rfl⟩:=h2
   obtain ⟨rfl,rfl,rfl⟩:=h4
   refine ⟨h - lo,hq.symm,by simp only [rlo]; omega,A0,C,hv',hC,reA sz lo (C - l) A,by rw [show C - l - lo=C - rlo (some (l,r)) lo by simp only [rlo]; omega], ?_⟩
   rcases hA0 with hA0 | hz
   rotate_left
   · have hlo0 : lo = 0 := by omega
     rw [zero hlo0]
     rcases h5 with h5 | ⟨rfl,rfl⟩ | ⟨b,o,o',hA,rfl,g1,g2,g3⟩
     · exact .inl h5
     · exact .inr (.inl ⟨by simp [rlo,hlo0],rfl⟩)
     · refine .inr (.inr ⟨b, o, o', hA, rfl, fun hlt => ?_, g2, g3⟩)
       simp only [rlo,hlo0,Nat.add_zero] at hlt ⊢
       exact g1 hlt
   replace h5:=plainA (by cases A0 with | none => exact .inl rfl | some a0 => obtain ⟨b,o,rfl⟩:=hA0 a0 rfl; exact .inr ⟨b,o,rfl⟩) h5
   rcases h5 with ⟨hA,rfl⟩ | ⟨b,o,o',hA,rfl,g1,g2,g3⟩
   · exact .inl ⟨hA,shiftN rfl⟩
   · refine .inr <| .inr ⟨b, o, _, hA, shift rfl, fun hlt => ?_, ?_, ?_⟩
     · simp only [rlo] at hlt
       have g:=g1 (by omega)
       show _=o+(l+lo) * sz
       rw [if_neg (by omega),Nat.add_mul]
       omega
     · split <;> omega
     · split
       · omega
       · have g := g1 (by omega)
         have:(l+lo) * sz≤C * sz:=Nat.mul_le_mul_right _ (by omega)
         rw [Nat.add_mul] at this
         omega

section
variable {G:Ctx} {fl:List (L × Value)} {st st':St} {a:Act} {w w':World} {vals:VS} {B:Nat→Nat} {F:FS} {S:Nat→Nat→BS} {E:Env} {P:Program}

theorem Placed.form {p : Pl} {c : Cell} {o : Fl} {t : Ty} {x : List t.C} {hv : Value} (hp : Placed st vals w F S p c o t x hv) :
 ∃ A C,hv=.slice A x.length C∧x.length≤C∧(∀ a,0<x.length→A=some a→∃ b o,a=⟨b,o,none⟩):=by
 obtain ⟨A,C,h1,h2,h3⟩:=hp.rep
 refine ⟨A,C,h1,h2,fun a0 hx ha => ?_⟩
 rcases h3 with rfl | ⟨b,off,hA,_⟩
 · simp at hx
 · rw [hA] at ha
   exact ⟨b,off,(Option.some.inj ha).symm⟩
theorem OL.fro {o:Fl} {t:Ty} {x:List t.C} {v:Value} (h:OL st vals B F w (.d o (.sl t) x) v):RepF F w (.sl t) x (fun _ => v)∨(x=[]∧v=.slice none 0 0):=by
 obtain ⟨h,_⟩:=h
 cases o with
 | fro => cases h with | d _ _ _ _ h => exact .inl h
 | frt => exact .inl h.1
 | sha =>
   obtain ⟨⟨A,c,h1,h2,h3⟩,_⟩:=h
   rcases h3 with ⟨rfl,rfl⟩ | ⟨_,_,_,_,hf,_⟩
   · have : x = [] := List.eq_nil_of_length_eq_zero (by omega)
     subst this
     exact .inr ⟨rfl,h1⟩
   · exact hf.elim
 | deep =>
   obtain ⟨h,_⟩:=h
   simp only [RepD] at h
   obtain ⟨A,c,h1,h2,h3⟩:=h
   rcases h3 with ⟨rfl,rfl⟩ | ⟨_,_,_,_,hf,_⟩
   · have : x = [] := List.eq_nil_of_length_eq_zero (by omega)
     subst this
     exact .inr ⟨rfl,h1⟩
   · exact hf.elim
 | jnk lo hi =>
   obtain ⟨⟨A,c,h1,h2,h3⟩,_⟩:=h
   rcases h3 with ⟨rfl,rfl⟩ | ⟨_,_,_,_,hf,_⟩
   · have : x = [] := List.eq_nil_of_length_eq_zero (by omega)
     subst this
     exact .inr ⟨rfl,h1⟩
   · exact hf.elim
theorem lenL_ok (h : Rl G fl st a w vals B F S) {l : L} {v : Value} (ho : OL st vals B F w l v) {n : Int} (hx : (lenL l).exec st = some (n, st')) :
 st'=st∧∃ A c m,v=.slice A m c∧m≤c∧n=(m:Int):=by
 unfold lenL at hx
 split at hx
 · obtain ⟨rfl, rfl⟩ := M.pure_some hx
   refine ⟨rfl, ?_⟩
   rcases ho.fro with ⟨A,c,h1,h2,_⟩ | ⟨rfl,rfl⟩
   · exact ⟨A,c,_,h1,h2,rfl⟩
   · exact ⟨none,0,0,rfl,Nat.le_refl _,rfl⟩
 · obtain ⟨rfl, rfl⟩ := M.pure_some hx
   cases ho.1
   exact ⟨rfl,none,0,0,rfl,Nat.le_refl _,rfl⟩
 · obtain ⟨l0, st1, h1, h2⟩ := M.bind_some hx
   obtain ⟨rfl,c,o,t,x,hv,rfl,hp⟩:=placed h h1
   obtain ⟨rfl,rfl⟩:=M.pure_some h2
   refine ⟨rfl, ?_⟩
   obtain ⟨A,C,g1,g2,_⟩:=hp.form
   have hr:=hp.link hp.nd ho.2
   obtain ⟨A',c',n',k1,k2,k3,k4⟩:=hr.form g1 g2
   exact ⟨A',c',n',k1,k2,by rw [cut_len hr,k3]⟩
 · exact (M.fail_some hx).elim
theorem tk_slice (hE : EnvOK P E) {t e : TypeId} {T : Ty} {n : Nat} {ag : Bool} {TT : Option Ty} {zs : List L} (h : E.ti t = some ⟨.slice e T, n, ag, TT, zs⟩) :
 P.underlying t=some (.slice e)∧∃ ie q,E.ti e=some ie∧ie.T=some T∧TIOK P E e ie∧P.info? e=some q∧q.size=T.size:=by
 obtain ⟨d,hd,_,hk⟩:=(hE.ti t _ h).und
 simp only [TKOK] at hk
 obtain ⟨rfl,ie,hie,hT⟩:=hk
 have hok:=hE.ti e ie hie
 obtain ⟨q,hq,hs,_,_,z,_,_,_,_,_,hz⟩:=hok.info
 exact ⟨hd,ie,q,hie,hT,hok,hq,by rw [hs,(hz T hT).1]⟩
theorem len_ok (hE : EnvOK P E) (h : Rl G [] st a w vals B F S) {o : Oper} {c : Call} {x : Operand} {t : TypeId} (ho : o.op = .call c) (hc : c.callee = .builtin .len) (ha : c.args.toList = [x]) (ht : c.argTypes[0]? = some t)
 {u:Unit} (hx:(lenOp E o.dst t x).exec st=some (u,st')):OpOK P o a w fun a' w' => Rel G [] st' a' w':=by
 unfold lenOp at hx
 split at hx
 · rename_i e T n ag TT zs hti
   obtain ⟨l,st1,h1,h2⟩:=M.bind_some hx
   obtain ⟨rfl,hl⟩:=opnd1_ok h h1
   obtain ⟨m,st2,h3,h4⟩:=M.bind_some h2
   obtain ⟨rfl,A,cc,k,hv,_,rfl⟩:=lenL_ok h hl h3
   have hu:=(tk_slice hE hti).1
   have hargs:c.args=#[x]:=by
    have:c.args=c.args.toList.toArray:=by simp
    rw [this,ha]
   refine op_value (w':=w) (v:=.int .i64 k) ?_ (dst1_ok h .ofInt rfl h4)
   have hb:∀ cs,(builtin .len c.argTypes o.type cs #[a.eval x]).run P w=.ok (.value (.int .i64 k)) w:=by
    intro cs
    simp only [builtin,Builtin.len_,ht,hv,Sem.run_bind]
    simp [underlying_run hu,goInt]
   rw [execOp,ho]
   simp only [resolve,hc,hargs,Sem.run_bind,Sem.run_pure,Result.andThen_ok,invoke,List.map_toArray,List.map_cons,List.map_nil]
   exact hb _
 · exact (M.fail_some hx).elim
theorem intOpt_ok (h : Rl G fl st a w vals B F S) {x : Option Operand} {r : Option Int} (hx : (intOpt E x).exec st = some (r, st')) :
 st'=st∧(x=none∧r=none∨∃ y i k,x=some y∧r=some i∧a.eval y=.int k i):=by
 cases x with
 | none => obtain ⟨rfl,rfl⟩:=M.pure_some hx; exact ⟨rfl,.inl ⟨rfl,rfl⟩⟩
 | some y =>
   simp only [intOpt] at hx
   obtain ⟨l,st1,h1,h2⟩:=M.bind_some hx
   obtain ⟨rfl,hl⟩:=opnd1_ok h h1
   obtain ⟨i,st2,h3,h4⟩:=M.bind_some h2
   obtain ⟨rfl,o,k,rfl⟩:=asInt_ok h3
   obtain ⟨rfl,rfl⟩:=M.pure_some h4
   exact ⟨rfl,.inr ⟨y,i,k,rfl,rfl,hl.int⟩⟩
theorem tyIs_ok {T T':Ty} {u:Unit} (hx:(tyIs T T').exec st=some (u,st')):st'=st∧T=T':=by
 obtain ⟨h,rfl⟩:=M.must_some hx
 exact ⟨rfl,of_decide_eq_true h⟩
theorem bounds_run {k1 k2 : IntKind} {len cap : Nat} {lo hi : Option Int} {l h : Nat} (hl : (l : Int) = lo.getD 0) (hh : (h : Int) = hi.getD len) (h1 : l ≤ h) (h2 : h ≤ cap) :
 (Instr.sliceBounds true len cap (lo.map (Value.int k1)) (hi.map (Value.int k2)) none).run P w=.ok (l,h,cap) w:=by
 have hb:∀ {k:IntKind} {y:Nat} {code:BoundsCode} {n:Nat},n≤y→(Instr.sliceBound (.int k n) y code).run P w=.ok n w:=by
  intro k y code n hn
  simp only [Instr.sliceBound,asIntOf,Sem.run_bind,Sem.run_pure,Result.andThen_ok]
  rw [if_pos ⟨by omega,by omega⟩]
  simp
 cases lo with
 | none =>
   simp only [Option.getD_none] at hl
   have hl0:l=0:=by omega
   subst hl0
   cases hi with
   | none =>
     simp only [Option.getD_none] at hh
     have:h=len:=by omega
     subst this
     simp [Instr.sliceBounds]
   | some i =>
     simp only [Option.getD_some] at hh
     subst hh
     simp [Instr.sliceBounds,hb h2]
 | some j =>
   simp only [Option.getD_some] at hl
   subst hl
   cases hi with
   | none =>
     simp only [Option.getD_none] at hh
     have:h=len:=by omega
     subst this
     simp [Instr.sliceBounds,hb h1]
   | some i =>
     simp only [Option.getD_some] at hh
     subst hh
     simp [Instr.sliceBounds,hb h2,hb h1]
theorem sliceTy_ok (h : Rl G fl st a w vals B F S) {T : Ty} {l : L} {u : Unit} (hx : (sliceTy T l).exec st = some (u, st')) :
 st'=st∧((∃ o x,l=.d o (.sl T) x)∨(∃ t,l=.nil t)∨∃ p rg c o x hv,l=.lent p rg∧Placed st vals w F S p c o T x hv):=by
 unfold sliceTy at hx
 split at hx
 · obtain ⟨rfl, rfl⟩ := tyIs_ok hx
   exact ⟨rfl,.inl ⟨_,_,rfl⟩⟩
 · obtain ⟨_, rfl⟩ := M.pure_some hx
   exact ⟨rfl,.inr (.inl ⟨_,rfl⟩)⟩
 · obtain ⟨l0, st1, h1, h2⟩ := M.bind_some hx
   obtain ⟨rfl,c,o,t,x,hv,rfl,hp⟩:=placed h h1
   obtain ⟨rfl,rfl⟩:=tyIs_ok h2
   exact ⟨rfl,.inr (.inr ⟨_,_,c,o,x,hv,rfl,hp⟩)⟩
 · exact (M.fail_some hx).elim
theorem RepF.stretch {t : Ty} {x : List t.C} {A : Option Addr} {m c lo h : Nat} (hr : RepF F w (.sl t) x (fun _ => .slice A m c)) (h1 : lo ≤ h) (h2 : h ≤ m) (q : Option Nat) (hq : q.getD (x.length - lo) = h - lo) :
 RepF F w (.sl t) (GoV.cut (some (lo,q)) x) (fun _ => .slice (reA t.size lo c A) (h - lo) (c - lo)):=by
 have hr0:=hr
 simp only [RepF] at hr
 obtain ⟨A1,c1,g1,g2,g3⟩:=hr
 simp only [Value.slice.injEq] at g1
 obtain ⟨rfl,rfl,rfl⟩:=g1
 rcases g3 with rfl | ⟨b,off,rfl,g3⟩
 · have e1 : h = 0 := by simpa using h2
   have e2:lo=0:=by omega
   subst e1; subst e2
   have e3:GoV.cut (some (0,q)) ([]:List t.C)=[]:=by cases q <;> simp [GoV.cut]
   rw [e3]
   exact ⟨_,_,rfl,by simp,.inl rfl⟩
 · refine hr0.cut (Resl.cut (rg := none) (sz := t.size) (N := x.length) (hv := .slice (some ⟨b, off, none⟩) x.length c) (A0 := some ⟨b, off, none⟩) (C := c) rfl rfl (.inl ?_) g2 h1 h2 hq)
   intro a ha
   exact ⟨b,off,(Option.some.inj ha).symm⟩
def StrOf (lo m d:Nat) (q:Option Nat) (l rl:L):Prop :=
 match l with
 | .d .fro (.sl T) x => rl=.d .fro (.sl T) (GoV.cut (some (lo,q)) x)∧q.getD (x.length - lo)=d
 | .nil t => rl=.nil t
 | .lent p rg => rl=.lent p (some (rlo rg lo,q))∧∀ N,rlen rg N=m→q.getD (N - rlo rg lo)=d
 | _ => False
theorem sliceL_ok (h : Rl G fl st a w vals B F S) {T : Ty} {l r : L} {v : Value} (ho : OL st vals B F w l v) {lo hi : Option Int} (hx : (sliceL T l lo hi).exec st = some (r, st')) :
 st'=st∧∃ A,∃ m c i j:Nat,v=.slice A m c∧(i:Int)=lo.getD 0∧(j:Int)=hi.getD m∧i≤j∧j≤c∧OL st vals B F w r (.slice (reA T.size i c A) (j - i) (c - i)):=by
 simp only [sliceL] at hx
 obtain ⟨_,st1,h1,h2⟩:=M.bind_some hx
 obtain ⟨rfl,hty⟩:=sliceTy_ok h h1
 obtain ⟨n,st2,h3,h4⟩:=M.bind_some h2
 obtain ⟨rfl,A,c,m,rfl,hmc,rfl⟩:=lenL_ok h ho h3
 obtain ⟨_,st3,h5,h6⟩:=M.bind_some h4
 obtain ⟨hl0,rfl⟩:=M.must_some h5
 have hl0:=of_decide_eq_true hl0
 -- the part that hangs on the leaf
 have key : ∀ (j : Nat) (q : Option Nat) (rl : L), (j : Int) = hi.getD m → (lo.getD 0).toNat ≤ j → j ≤ m →
  StrOf (lo.getD 0).toNat m (j - (lo.getD 0).toNat) q l rl →
  ∃ A',∃ m' c' i j':Nat,(Value.slice A m c)=.slice A' m' c'∧(i:Int)=lo.getD 0∧(j':Int)=hi.getD m'∧i≤j'∧j'≤c'∧OL st3 vals B F w rl (.slice (reA T.size i c' A') (j' - i) (c' - i)):=by
  intro j q rl hj hij hjm hrl
  refine ⟨A,m,c,(lo.getD 0).toNat,j,rfl,by omega,hj,hij,by omega, ?_⟩
  rcases hty with ⟨o,x,rfl⟩ | ⟨t,rfl⟩ | ⟨p,rg,cc,o,x,hv,rfl,hp⟩
  · cases o <;> simp only [StrOf] at hrl
    obtain ⟨rfl,hq⟩:=hrl
    refine (CRep.sl ?_).ol
    rcases ho.fro with hf | ⟨rfl,hv⟩
    · exact hf.stretch hij hjm q hq
    · simp only [Value.slice.injEq] at hv
      obtain ⟨rfl,rfl,rfl⟩:=hv
      have e1:j=0:=by simpa using hjm
      have e2:(lo.getD 0).toNat=0:=by omega
      have e3:GoV.cut (some ((lo.getD 0).toNat,q)) ([]:List T.C)=[]:=by cases q <;> simp [GoV.cut]
      rw [e3,e1,e2]
      exact ⟨_,_,rfl,by simp,.inl rfl⟩
  · simp only [StrOf] at hrl
    subst hrl
    cases ho.1
    simp at hjm
    subst hjm
    have:(lo.getD 0).toNat=0:=by omega
    rw [this]
    exact ⟨.nil t,trivial⟩
  · simp only [StrOf] at hrl
    obtain ⟨rfl,hq⟩:=hrl
    have hr:=hp.link hp.nd ho.2
    obtain ⟨A0,C0,g1,g2,g3⟩:=hp.form
    refine ⟨trivial,.inr ⟨T,x.length,hv,hp.hd, ?_⟩⟩
    have hm:rlen rg x.length=m:=by
        obtain ⟨_,_,n',k1,_,k3,_⟩:=hr.form g1 g2
        simp only [Value.slice.injEq] at k1
        rw [← k3,k1.2.1]
    refine Resl.cut hr g1 ?_ g2 hij hjm (hq _ hm)
    rcases Nat.eq_zero_or_pos x.length with hz | hz
    · exact .inr hz
    · exact .inl fun a ha => g3 a hz ha
 cases hi with
 | none =>
   obtain ⟨_,st4,h7,h8⟩:=M.bind_some h6
   obtain ⟨hlm,rfl⟩:=M.must_some h7
   have hlm:=of_decide_eq_true hlm
   have fin:=fun (q:Option Nat) (rl:L) hrl => key m q rl (by simp) (by omega) (Nat.le_refl _) hrl
   split at h8
   · obtain ⟨rfl, rfl⟩ := M.pure_some h8
     rename_i T x
     have hlen:x.length=m:=by
        rcases ho.fro with ⟨_,_,hv,_⟩ | ⟨rfl,hv⟩
        · simp only [Value.slice.injEq] at hv; exact hv.2.1.symm
        · simp only [Value.slice.injEq] at hv; exact hv.2.1.symm
     exact ⟨rfl,fin none _ ⟨by simp [GoV.cut],by simp [hlen]⟩⟩
   · obtain ⟨rfl, rfl⟩ := M.pure_some h8
     exact ⟨rfl,fin none _ rfl⟩
   · obtain ⟨rfl, rfl⟩ := M.pure_some h8
     refine ⟨rfl,fin none _ ⟨by simp [rlo],fun N hN => ?_⟩⟩
     simp only [rlen] at hN
     simp [rlo,hN]
   · obtain ⟨rfl, rfl⟩ := M.pure_some h8
     refine ⟨rfl,fin none _ ⟨by simp [rlo],fun N hN => ?_⟩⟩
     simp only [rlen,Option.getD_none] at hN
     simp only [rlo,Option.getD_none]
     omega
   · obtain ⟨rfl, rfl⟩ := M.pure_some h8
     refine ⟨rfl,fin (some ((m:Int) - lo.getD 0).toNat) _ ⟨by simp [rlo],fun N hN => ?_⟩⟩
     simp only [Option.getD_some]
     omega
   · exact (M.fail_some h8).elim
 | some hh =>
   obtain ⟨_,st4,h7,h8⟩:=M.bind_some h6
   obtain ⟨hlh,rfl⟩:=M.must_some h7
   have hlh:=of_decide_eq_true hlh
   obtain ⟨_,st5,h9,h10⟩:=M.bind_some h8
   obtain ⟨hhm,rfl⟩:=M.must_some h9
   have hhm:=of_decide_eq_true hhm
   have fin:=fun (rl:L) hrl => key hh.toNat (some (hh - lo.getD 0).toNat) rl (by simp; omega) (by omega) (by omega) hrl
   have e:(hh - lo.getD 0).toNat=hh.toNat - (lo.getD 0).toNat:=by omega
   split at h10
   · obtain ⟨rfl, rfl⟩ := M.pure_some h10
     exact ⟨rfl,fin _ ⟨rfl,by simp only [Option.getD_some]; exact e⟩⟩
   · obtain ⟨rfl, rfl⟩ := M.pure_some h10
     exact ⟨rfl,fin _ rfl⟩
   · obtain ⟨rfl, rfl⟩ := M.pure_some h10
     exact ⟨rfl,fin _ ⟨by simp [rlo],fun N hN => by simp only [Option.getD_some]; exact e⟩⟩
   · obtain ⟨rfl, rfl⟩ := M.pure_some h10
     exact ⟨rfl,fin _ ⟨by simp [rlo],fun N hN => by simp only [Option.getD_some]; exact e⟩⟩
   · exact (M.fail_some h10).elim
theorem slice_ok (hE : EnvOK P E) (h : Rl G [] st a w vals B F S) {o : Oper} {t : TypeId} {x : Operand} {lo hi : Option Operand} (ho : o.op = .slice t x lo hi none)
 {u:Unit} (hx:(sliceOp E o.dst t x lo hi).exec st=some (u,st')):OpOK P o a w fun a' w' => Rel G [] st' a' w':=by
 unfold sliceOp at hx
 split at hx
 · rename_i e T n ag TT zs hti
   obtain ⟨l,st1,h1,h2⟩:=M.bind_some hx
   obtain ⟨rfl,hl⟩:=opnd1_ok h h1
   obtain ⟨lov,st2,h3,h4⟩:=M.bind_some h2
   obtain ⟨rfl,hlo⟩:=intOpt_ok h h3
   obtain ⟨hiv,st3,h5,h6⟩:=M.bind_some h4
   obtain ⟨rfl,hhi⟩:=intOpt_ok h h5
   obtain ⟨r,st4,h7,h8⟩:=M.bind_some h6
   obtain ⟨rfl,A,m,c,i,j,hv,hi1,hj1,hij,hjc,hr⟩:=sliceL_ok h hl h7
   obtain ⟨hu,ie,q,hie,hT,hok,hq,hqs⟩:=tk_slice hE hti
   refine op_value (w':=w) ?_ (dst1_ok h hr rfl h8)
   have e1:∃ k1,lo.map a.eval=lov.map (Value.int k1):=by
    rcases hlo with ⟨rfl,rfl⟩ | ⟨y,i,k,rfl,rfl,hy⟩
    · exact ⟨.i64,rfl⟩
    · exact ⟨k,by simp [hy]⟩
   have e2:∃ k1,hi.map a.eval=hiv.map (Value.int k1):=by
    rcases hhi with ⟨rfl,rfl⟩ | ⟨y,i,k,rfl,rfl,hy⟩
    · exact ⟨.i64,rfl⟩
    · exact ⟨k,by simp [hy]⟩
   obtain ⟨k1,e1⟩:=e1
   obtain ⟨k2,e2⟩:=e2
   have hb:=bounds_run (P:=P) (w:=w) (k1:=k1) (k2:=k2) hi1 hj1 hij hjc
   have hsz:(Go.sizeOf e).run P w=.ok T.size w:=by rw [sizeOf_run hq,hqs]
   rw [execOp,ho]
   simp only [Instr.sliceAt,Instr.slice,Sem.run_bind,underlying_run hu,Result.andThen_ok,hv,e1,e2,hb,hsz,Sem.run_pure,Option.map_none]
   rfl
 · exact (M.fail_some hx).elim
end
end GoV

/- Elements' addresses; new slices. -/
namespace GoV
open Go
section
variable {G:Ctx} {fl:List (L × Value)} {st st':St} {a:Act} {w w':World} {vals:VS} {B:Nat→Nat} {F:FS} {S:Nat→Nat→BS} {E:Env} {P:Program}

theorem index_fin {t : Ty} {x : List t.C} {p : Pl} {rg : Option (Nat × Option Nat)} {hv v : Value} {b off C : Nat} {i : Int} (hd : PlHd st vals w p t x.length hv) (hr : Resl t.size rg x.length hv v) (g1 : hv = .slice (some ⟨b, off, none⟩) x.length C) (hi : 0 ≤ i) (hlt : i.toNat < rlen rg x.length) :
 ∃ b o m c,v=.slice (some ⟨b,o,none⟩) m c∧0≤i∧i.toNat<m∧OL st vals B F w (.eptr p (atRg rg i.toNat) 0) (.pointer (some ⟨b,o+i.toNat * t.size,none⟩)):=by
 cases rg with
 | none =>
   simp only [Resl] at hr
   subst hr
   refine ⟨b,off,_,C,g1,hi,hlt,trivial,.inr ⟨t,x.length,b,off,C,g1 ▸ hd,hlt,rfl⟩⟩
 | some q =>
   obtain ⟨lo,q⟩:=q
   obtain ⟨n,rfl,k1,A1,C1,k2,k3,A',rfl,k5⟩:=hr
   simp only [rlen] at hlt
   rw [g1] at k2
   simp only [Value.slice.injEq] at k2
   obtain ⟨rfl,_,rfl⟩:=k2
   rcases plainA (.inr ⟨b,off,rfl⟩) k5 with ⟨k6,_⟩ | ⟨b1,o1,o',k6,rfl,k7,_⟩
   · cases k6
   · simp only [Option.some.injEq, Addr.mk.injEq] at k6
     obtain ⟨rfl,rfl,_⟩:=k6
     refine ⟨b,o',_,_,rfl,hi,hlt,trivial,.inr ⟨t,x.length,b,off,C,g1 ▸ hd,show lo+i.toNat<x.length by omega, ?_⟩⟩
     rw [addr_shift k7 hlt (by omega)]
     rfl
theorem indexL_ok (h : Rl G fl st a w vals B F S) {T : Ty} {l r : L} {v : Value} (ho : OL st vals B F w l v) {i : Int} (hx : (indexL T l i).exec st = some (r, st')) :
 st'=st∧∃ b o m c,v=.slice (some ⟨b,o,none⟩) m c∧0≤i∧i.toNat<m∧OL st vals B F w r (.pointer (some ⟨b,o+i.toNat * T.size,none⟩)):=by
 simp only [indexL] at hx
 obtain ⟨_,st1,h1,h2⟩:=M.bind_some hx
 obtain ⟨hi,rfl⟩:=M.must_some h1
 have hi:=of_decide_eq_true hi
 split at h2
 · rename_i T0 x
   obtain ⟨_,st2,h3,h4⟩:=M.bind_some h2
   obtain ⟨rfl,rfl⟩:=tyIs_ok h3
   obtain ⟨e,st4,h5,h6⟩:=M.bind_some h4
   obtain ⟨he,rfl⟩:=M.nth_some h5
   · obtain ⟨rfl, rfl⟩ := M.pure_some h6
     refine ⟨rfl, ?_⟩
     rcases ho.fro with ⟨A,c,g1,g2,g3⟩ | ⟨rfl,_⟩
     · rcases g3 with rfl | ⟨b, o, rfl, g3⟩
       · simp at he
       · obtain ⟨k1, k2⟩ := g3 _ _ he
         refine ⟨b,o,_,c,g1,hi,get_lt he, ?_⟩
         have:=(CRep.fe T0 e 0 b _ k1 k2).ol (st:=st') (vals:=vals) (B:=B)
         simpa using this
     · simp at he
 · rename_i p rg
   obtain ⟨l0,st2,h3,h4⟩:=M.bind_some h2
   obtain ⟨e3,c,hc,hfr,hl⟩:=rootL_ok h3
   subst e3
   split at h4
   · rename_i t x jh ih hsub
     obtain ⟨_,st3,h5,h6⟩:=M.bind_some h4
     obtain ⟨rfl,rfl⟩:=tyIs_ok h5
     obtain ⟨_,st4,h7,h8⟩:=M.bind_some h6
     obtain ⟨hlt,rfl⟩:=M.must_some h7
     have hlt:=of_decide_eq_true hlt
     obtain ⟨rfl,rfl⟩:=M.pure_some h8
     refine ⟨rfl, ?_⟩
     obtain ⟨hv0,hu⟩:=h.val_at hc hl
     obtain ⟨⟨b,off,C,arr,q1,q2,_⟩,_⟩:=(h.leaf _ _ _ _ _ hc hl hu).1
     obtain ⟨pr,pk,ps⟩:=p
     simp only at hsub hc hl hu hfr
     subst hsub
     have hd:PlHd st' vals w ⟨pr,pk,none⟩ t x.length hv0:=⟨c,.deep,t,x,hv0,hc,.inr ⟨rfl,jh,ih,hl⟩,hu,rfl,rfl,rfl⟩
     rcases ho.2 with ⟨c3,hc3,hturn⟩ | ⟨t3,n3,hv3,hd3,hr⟩
     · rw [hc] at hc3
       obtain rfl:=Option.some.inj hc3
       exact absurd hturn (hfr.no (by simp only; rw [hl]; simp))
     · obtain ⟨c4, o4, t4, x4, h4', m1, m2, m3, m4, m5, m6⟩ := hd3
       simp only at m1 m2 m3
       rw [hc] at m1
       obtain rfl:=Option.some.inj m1
       rw [hu] at m3
       obtain rfl:=Option.some.inj m3
       obtain ⟨rfl,_,hm⟩:=RowL.inj (.inr ⟨rfl,_,_,hl⟩) m2
       obtain rfl:=eq_of_heq hm
       subst m4
       subst m5
       subst m6
       rw [cut_len hr] at hlt
       exact index_fin hd hr q1 hi hlt
   · obtain ⟨l1, st5, h5, h6⟩ := M.bind_some h4
     have hpl:(place p).exec st2=some (l1,st5):=by
        simp only [place,M.exec_bind,h3,Option.bind_some]
        exact h5
     obtain ⟨rfl,c,o,t,x,hv,rfl,hp⟩:=placed h hpl
     simp only [] at h6
     obtain ⟨_,st3,h7,h8⟩:=M.bind_some h6
     obtain ⟨rfl,rfl⟩:=tyIs_ok h7
     obtain ⟨_,st4,h9,h10⟩:=M.bind_some h8
     obtain ⟨hlt,rfl⟩:=M.must_some h9
     have hlt:=of_decide_eq_true hlt
     obtain ⟨rfl,rfl⟩:=M.pure_some h10
     refine ⟨rfl, ?_⟩
     have hr:=hp.link hp.nd ho.2
     rw [cut_len hr] at hlt
     obtain ⟨A,C,g1,g2,g3⟩:=hp.rep
     simp only [] at g1
     have hpos:0<x.length:=by
        cases rg with
        | none => simp only [rlen] at hlt; omega
        | some q =>
          obtain ⟨lo,q⟩:=q
          obtain ⟨n,rfl,k1,_⟩:=hr
          simp only [rlen] at hlt
          omega
     rcases g3 with rfl | ⟨b,off,rfl,_⟩
     · simp at hpos
     exact index_fin hp.hd hr g1 hi hlt
 · exact (M.fail_some h2).elim
theorem splitN_ok {α : Type} {n : Int} {f : Nat → M α} {x : α} {s s' : St} : ∀ {m k : Nat}, (splitN n m k f).exec s = some (x, s') → ∃ c, k ≤ c ∧ c < k + m ∧ n = (c : Int) ∧ (f c).exec s = some (x, s')
 | 0,k,h => (M.fail_some h).elim
 | m+1,k,h => by
   simp only [splitN,M.exec] at h
   cases hd:decide (n=(k:Int)) with
   | true =>
     rw [hd] at h
     exact ⟨k,Nat.le_refl _,by omega,of_decide_eq_true hd,h⟩
   | false =>
     rw [hd] at h
     obtain ⟨c,h1,h2,h3,h4⟩:=splitN_ok (m:=m) (k:=k+1) h
     exact ⟨c,by omega,by omega,h3,h4⟩
theorem index_ok (hE : EnvOK P E) (h : Rl G [] st a w vals B F S) {o : Oper} {t : TypeId} {x i : Operand} (ho : o.op = .indexAddr t x i)
 {u:Unit} (hx:(indexOp E o.dst t x i).exec st=some (u,st')):OpOK P o a w fun a' w' => Rel G [] st' a' w':=by
 unfold indexOp at hx
 split at hx
 · rename_i e T n ag TT zs hti
   obtain ⟨l,st1,h1,h2⟩:=M.bind_some hx
   obtain ⟨rfl,hl⟩:=opnd1_ok h h1
   obtain ⟨j,st2,h3,h4⟩:=M.bind_some h2
   obtain ⟨rfl,hj⟩:=opnd1_ok h h3
   obtain ⟨k,st3,h5,h6⟩:=M.bind_some h4
   obtain ⟨rfl,o',kd,rfl⟩:=asInt_ok h5
   obtain ⟨r,st4,h7,h8⟩:=M.bind_some h6
   obtain ⟨rfl,b,off,m,c,hv,h0,hlt,hr⟩:=indexL_ok h hl h7
   obtain ⟨hu,ie,q,hie,hT,hok,hq,hqs⟩:=tk_slice hE hti
   refine op_value (w':=w) ?_ (dst1_ok h hr rfl h8)
   have hsz:(Go.sizeOf e).run P w=.ok T.size w:=by rw [sizeOf_run hq,hqs]
   have hul:P.underlying t=some (.slice (P.elem t)):=by simp [Program.elem,hu]
   have he:P.elem t=e:=by simp [Program.elem,hu]
   have hrun:=run_indexAt_slice w t ⟨b,off,none⟩ m c kd k hul
   rw [if_pos ⟨h0,by omega⟩,he,hsz] at hrun
   rw [execOp,ho]
   simp only [hv,hj.int,Sem.run_bind,hrun,Result.andThen_ok,Sem.run_pure,add_addr]
 · rename_i m wd ag0 n ag TT zs hti
   obtain ⟨l,st1,h1,h2⟩:=M.bind_some hx
   obtain ⟨rfl,hl⟩:=opnd1_ok h h1
   obtain ⟨_,st2,h3,h4⟩:=M.bind_some h2
   obtain ⟨rfl,b,q,hv,hoff⟩:=alive_ok h hl h3
   obtain ⟨j,st3,h5,h6⟩:=M.bind_some h4
   obtain ⟨rfl,hj⟩:=opnd1_ok h h5
   obtain ⟨k,st4,h7,h8⟩:=M.bind_some h6
   obtain ⟨rfl,o',kd,rfl⟩:=asInt_ok h7
   obtain ⟨c,_,hcm,rfl,h9⟩:=splitN_ok h8
   obtain ⟨d,hd,_,hk⟩:=(hE.ti t _ hti).und
   simp only [TKOK] at hk
   obtain ⟨e,rfl,g,d',hg,hgs,_,_⟩:=hk
   refine op_value (w':=w) (v:=.pointer (some ⟨b,q+c * wd,none⟩)) ?_ (dst1_ok h (hoff _) rfl h9)
   have hul:P.underlying t=some (.array (P.arrayLen t) (P.elem t)):=by simp [Program.elem,Program.arrayLen,hd]
   have he:P.elem t=e:=by simp [Program.elem,hd]
   have hm:P.arrayLen t=m:=by simp [Program.arrayLen,hd]
   have hrun:=run_indexAt_array w t ⟨b,q,none⟩ kd (c:Int) hul
   rw [if_pos ⟨by omega,by rw [hm]; omega⟩,he,sizeOf_run hg,hgs] at hrun
   rw [execOp,ho]
   simp only [hv,hj.int,Sem.run_bind,hrun,Result.andThen_ok,Sem.run_pure,add_addr,Int.toNat_natCast]
 · exact (M.fail_some hx).elim
end
end GoV

/- New memory: a leaf that holds it; new slices. -/
namespace GoV
open Go
section
variable {G:Ctx} {fl:List (L × Value)} {st st':St} {a:Act} {w w':World} {vals:VS} {B:Nat→Nat} {F:FS} {S:Nat→Nat→BS} {E:Env} {P:Program}

theorem Rl.fresh (h:Rl G fl st a w vals B F S) (o:Obj):∀ b,b=w.heap.size→b<(w.alloc o).heap.size∧¬ G.U b∧(b<G.w0.heap.size→G.SA b)∧∀ i k,¬ S i k b:=by
 rintro b rfl
 refine ⟨by simp,fun hu => ?_,fun hl => ?_,fun i k hs => ?_⟩
 · have := (h.un _ hu).1
   have:=h.wo.2.2.2
   omega
 · have := h.wo.2.2.2
   omega
 · have := (h.sub i k _ hs).1
   omega
theorem Rl.noF (h:Rl G fl st a w vals B F S):NoF F (fun b => b=w.heap.size):=by
 rintro b rfl o ho
 have:=(h.fz _ _ ho).1
 omega
theorem blk_alloc (w:World) (arr:Array Value) (t:TypeId):Blk (w.alloc (.cells arr t)) w.heap.size arr:=⟨t,by show (w.heap.push _)[w.heap.size]?=_; simp⟩
theorem RepD.rep {w1 : World} {T : Ty} {e : T.C} {b n : Nat} {arr : Array Value} (hk : Blk w1 b arr) (hs : n * T.size ≤ arr.size)
 (he:∀ j,j<n→RepD w1 T e (cv w1 b (0+j * T.size)) (fun _ => False)) :
 RepD w1 (.sl T) (List.replicate n e) (fun _ => .slice (some ⟨b,0,none⟩) n n) (fun y => y=b):=by
 refine ⟨some ⟨b,0,none⟩,n,by simp,by simp,.inr ⟨b,0,arr,rfl,rfl,hk,by omega,fun _ _ => False,fun _ _ h => h.elim,fun _ _ _ _ h => h.elim,fun j x hj => ?_⟩⟩
 rw [List.getElem?_replicate] at hj
 split at hj
 · obtain rfl := Option.some.inj hj
   exact he j (by assumption)
 · cases hj
theorem make_ok (hE : EnvOK P E) (h : Rl G [] st a w vals B F S) {o : Oper} {t : TypeId} {x y : Operand} (ho : o.op = .makeSlice t x y)
 {u:Unit} (hx:(makeOp E o.dst t x y).exec st=some (u,st')):OpOK P o a w fun a' w' => Rel G [] st' a' w':=by
 unfold makeOp at hx
 split at hx
 · rename_i e T n0 ag TT zs hti
   obtain ⟨l,st1,h1,h2⟩:=M.bind_some hx
   obtain ⟨rfl,hl⟩:=opnd1_ok h h1
   obtain ⟨n,st2,h3,h4⟩:=M.bind_some h2
   obtain ⟨rfl,o1,k1,rfl⟩:=asInt_ok h3
   obtain ⟨l2,st3,h5,h6⟩:=M.bind_some h4
   obtain ⟨rfl,hl2⟩:=opnd1_ok h h5
   obtain ⟨m,st4,h7,h8⟩:=M.bind_some h6
   obtain ⟨rfl,o2,k2,rfl⟩:=asInt_ok h7
   obtain ⟨_,st5,h9,h10⟩:=M.bind_some h8
   obtain ⟨hnm,rfl⟩:=M.must_some h9
   obtain rfl:=of_decide_eq_true hnm
   obtain ⟨_,st6,h11,h12⟩:=M.bind_some h10
   obtain ⟨hn0,rfl⟩:=M.must_some h11
   have hn0:=of_decide_eq_true hn0
   obtain ⟨_,st7,h13,h14⟩:=M.bind_some h12
   obtain ⟨hn1,rfl⟩:=M.must_some h13
   have hn1:=of_decide_eq_true hn1
   obtain ⟨hu,ie,q,hie,hT,hok,hq,hqs⟩:=tk_slice hE hti
   obtain ⟨q',hq',hs1,hb0,hb1,z,hz,hzc,hz1,hzl,hzr,hzT⟩:=hok.info
   rw [hq] at hq'
   obtain rfl:=Option.some.inj hq'
   obtain ⟨hTs,hT0,hTz⟩:=hzT T hT
   have hn2:n * 1≤n * (T.size:Int):=Int.mul_le_mul_of_nonneg_left (by omega) hn0
   have hbytes:(q.bytes:Int) * n≤281474976710656:=by
    have h0:=hok.small q hq
    have h2:(q.bytes:Int)≤64 * (T.size:Int):=by rw [hTs]; omega
    have h1:(q.bytes:Int) * n≤64 * (T.size:Int) * n:=Int.mul_le_mul_of_nonneg_right h2 hn0
    have h3:64 * (T.size:Int) * n=64 * (n * (T.size:Int)):=by rw [Int.mul_assoc,Int.mul_comm (T.size:Int)]
    omega
   have hrun:=run_make (P:=P) w t e q z hu hq hz k1 k2 n n hn0 (Int.le_refl _) hbytes (by omega)
   refine op_value (w':=w.alloc (.cells (madeCells z.cells (n.toNat * q.size)) e)) (v:=.slice (some ⟨w.heap.size,0,none⟩) n.toNat n.toNat) ?_ ?_
   · rw [execOp, ho]
     simp only [hl.int,hl2.int,Sem.run_bind,hrun,Result.andThen_ok,Sem.run_pure]
   · have h1 := h.alloc (.cells (madeCells z.cells (n.toNat * q.size)) e)
     have hblk:=blk_alloc w (madeCells z.cells (n.toNat * q.size)) e
     have h2:=h1.pushX (l:=.d .deep (.sl T) (List.replicate n.toNat T.zero)) (u:=.slice (some ⟨w.heap.size,0,none⟩) n.toNat n.toNat) (X:=fun b => b=w.heap.size) (h.fresh _) ⟨?_,h.noF⟩ trivial
     · exact dstV_ok (sh:=.one) (ls:=[_]) (us:=[_]) h2 rfl rfl (by simp [Ones,Value.oneCell']) h14
     · refine RepD.rep hblk (by rw [size_madeCells, hqs]; exact Nat.le_refl _) fun j hj => ?_
       refine RepD.congr (fun i hi => ?_) (RepD.stable (w:=default) (fun _ hb => hb.elim) hTz)
       have hzs:z.cells.size=T.size:=by rw [hzc,hTs]
       have hlt:=mul_lt_of (c:=n.toNat) hj (Nat.le_refl _) hi
       simp only [cv]
       rw [cellAt_blk hblk]
       simp only [madeCells]
       have hk:0+j * T.size+i<n.toNat * q.size:=by rw [hqs]; omega
       have hmod:(0+j * T.size+i) % z.cells.size=i:=by
        rw [hzs,Nat.zero_add,Nat.mul_comm,Nat.mul_add_mod]
        exact Nat.mod_eq_of_lt hi
       generalize 0+j * T.size+i=k at hk hmod ⊢
       simp [hk,hmod,show i<z.cells.size by omega]
 · exact (M.fail_some hx).elim
end
end GoV

/- New boxes; parts of values. -/
namespace GoV
open Go
section
variable {G:Ctx} {fl:List (L × Value)} {st st':St} {a:Act} {w w':World} {vals:VS} {B:Nat→Nat} {F:FS} {S:Nat→Nat→BS} {E:Env} {P:Program}

theorem box_in {ls : List L} {us : List Value} (h : Rl G (ls.zip us) st a w vals B F S) (hlen : ls.length = us.length) (hone : Ones us) (t : TypeId) {d : Nat} {u : Unit}
 (hx:(putD d (.box false) ls).exec st=some (u,st')):Rel G [] st' (a.put (some d) (.pointer (some ⟨w.heap.size,0,none⟩))) (w.alloc (.cells us.toArray t)):=by
 obtain ⟨old,ho,hp,rfl⟩:=putD_ok hx
 have h1:=h.alloc (.cells us.toArray t)
 have:=h1.put (ck:=.box false) (v:=.pointer (some ⟨w.heap.size,0,none⟩)) (b:=w.heap.size) (S0:=fun b => b=w.heap.size) ho hp (by
  simp only [CellOK,unzip_map1 hlen,unzip_map2 hlen]
  exact ⟨hlen.symm,trivial,blk_alloc w _ t,trivial,h.noF,hone⟩) (fun y hy => by
  obtain ⟨g1,g2,g3,g4⟩:=h.fresh (.cells us.toArray t) y hy
  exact ⟨⟨g1,g2,g3⟩,g4⟩)
 rw [unzip_map1 hlen] at this
 exact this.rel
theorem ZRep.ol {l:L} {v:Value} (h:ZRep l v):OL st vals B F w l v:=by
 unfold ZRep at h
 split at h
 · subst h; exact OL.ofInt
 · subst h; exact OL.ofBool
 · subst h; exact (CRep.nil _).ol
 · exact ⟨trivial,trivial⟩
 · exact h.elim
theorem zs_ols {zs : List L} {cells : Array Value} (hl : zs.length = cells.size) (h : ∀ (k : Nat) (l : L) (u : Value), zs[k]? = some l → cells[k]? = some u → ZRep l u) :
 Ols st vals B F w zs cells.toList:=.of (by simp [hl]) fun k l u h1 h2 => (h k l u h1 (by simpa using h2)).ol
theorem alloc_ok (hE : EnvOK P E) (h : Rl G [] st a w vals B F S) {o : Oper} {t : TypeId} (ho : o.op = .alloc t)
 {u : Unit} (hx : (do
  let ti ← M.opt (E.ti t)
  match o.dst with
  | some d => putD d (.box false) ti.zs
  | none => pure ():M Unit).exec st=some (u,st')):OpOK P o a w fun a' w' => Rel G [] st' a' w':=by
 obtain ⟨ti,st1,h1,h2⟩:=M.bind_some hx
 obtain ⟨hti,rfl⟩:=M.opt_some h1
 obtain ⟨q,hq,hs1,hb0,hb1,z,hz,hzc,hz1,hzl,hzr,hzT⟩:=(hE.ti t ti hti).info
 refine op_value (w':=w.alloc (.cells z.cells t)) (v:=.pointer (some ⟨w.heap.size,0,none⟩)) ?_ ?_
 · rw [execOp, ho]
   simp [Instr.alloc,zeroValue_run hq hz,newVar,newRow]
 · cases hd : o.dst with
   | none =>
     simp only [hd] at h2
     obtain ⟨_,rfl⟩:=M.pure_some h2
     exact (h.alloc _).rel
   | some d =>
     simp only [hd] at h2
     obtain ⟨S',hp⟩:=h.pushs (zs_ols (st:=st1) (vals:=vals) (B:=B) (F:=F) (w:=w) (by rw [hzl,hzc]) hzr)
     have:=box_in (us:=z.cells.toList) (by simpa using hp) (by simp [hzl,hzc]) ((hE.ti t ti hti).ones q z hq hz) t h2
     simpa using this
theorem boxIn_ok {np q : Nat} (h : Rl G fl st a w vals B F S) {l l' : L} {u : Value} (ho : OL st vals B F w l u) (hx : (boxIn np q l).exec st = some (l', st')) :
 ∃ S',Rl G (fl ++ [(l',u)]) st' a w vals B F S'∧Keeps vals B w st st':=by
 unfold boxIn at hx
 split at hx
 · split at hx
   · obtain ⟨hd, s1, h1, h2⟩ := M.bind_some hx
     obtain ⟨c,hc,rfl,hs1⟩:=M.peek_some h1
     rw [hs1] at h2
     split at h2
     · obtain ⟨rfl, rfl⟩ := M.pure_some h2
       exact ⟨_,h.push ho.1 ho.2,.refl _ _ _ _⟩
     · exact steal_ok h ho.2 h2
   · obtain ⟨rfl, rfl⟩ := M.pure_some hx
     exact ⟨_,h.push ho.1 ho.2,.refl _ _ _ _⟩
 · obtain ⟨rfl, rfl⟩ := M.pure_some hx
   exact ⟨_,h.push ho.1 ho.2,.refl _ _ _ _⟩
theorem VR.cells {sh:Sh} {us:List Value} {v:Value} (h:VR sh us v) (hone:Ones us) (hs:isTup sh=false):v.cells=us.toArray:=by
 cases sh with
 | one =>
   simp only [VR] at h
   subst h
   have:=hone v (by simp)
   cases v <;> first | rfl | simp [Value.oneCell'] at this
 | agg => simp only [VR] at h; subst h; rfl
 | tup ns => cases hs
 | clo f => cases hs
theorem box_ok (hE : EnvOK P E) (h : Rl G [] st a w vals B F S) {np : Nat} {o : Oper} {t : TypeId} {x : Operand} (ho : o.op = .box t x)
 {u : Unit} (hx : (do
  let ti ← M.opt (E.ti t)
  let v ← opnd E t x
  M.check (v.ls.length == ti.n)
  M.check (!isTup v.sh)
  let ls ← boxInLs np x v.ls
  match o.dst with
  | some d => putD d (.box false) ls
  | none => pure ():M Unit).exec st=some (u,st')):OpOK P o a w fun a' w' => Rel G [] st' a' w':=by
 obtain ⟨ti,st1,h1,h2⟩:=M.bind_some hx
 obtain ⟨hti,rfl⟩:=M.opt_some h1
 obtain ⟨v,st2,h3,h4⟩:=M.bind_some h2
 obtain ⟨rfl,us,hols,hv,hone⟩:=opnd_ok h h3
 obtain ⟨_,st3,h5,h6⟩:=M.bind_some h4
 obtain ⟨hn,rfl⟩:=M.must_some h5
 obtain ⟨_,st4,h7,h8⟩:=M.bind_some h6
 obtain ⟨hsh,rfl⟩:=M.must_some h7
 obtain ⟨ls,st5,h9,h10⟩:=M.bind_some h8
 have key:∃ S',Rl G (ls.zip us) st5 a w vals B F S'∧ls.length=us.length:=by
  unfold boxInLs at h9
  split at h9
  · obtain ⟨S', hp, hk, hlen⟩ := mapL_ok (fun h ho hx => boxIn_ok h ho hx) h hols h9
    exact ⟨S',by simpa using hp,hlen⟩
  · obtain ⟨rfl, rfl⟩ := M.pure_some h9
    obtain ⟨S',hp⟩:=h.pushs hols
    exact ⟨S',by simpa using hp,hols.length.symm⟩
 obtain ⟨S',hp,hlen⟩:=key
 have hcells:(a.eval x).cells=us.toArray:=hv.cells hone (by simpa using hsh)
 refine op_value (w':=w.alloc (.cells us.toArray t)) (v:=.pointer (some ⟨w.heap.size,0,none⟩)) ?_ ?_
 · rw [execOp, ho]
   simp [Instr.box,newVar,newRow,hcells]
 · cases hd : o.dst with
   | none =>
     simp only [hd] at h10
     obtain ⟨_,rfl⟩:=M.pure_some h10
     exact (hp.drop.alloc _).rel
   | some d =>
     simp only [hd] at h10
     exact box_in hp hlen hone t h10
end
end GoV

/- Parts of values: a tuple's component, a struct's field. -/
namespace GoV
open Go
section
variable {G:Ctx} {fl:List (L × Value)} {st st':St} {a:Act} {w w':World} {vals:VS} {B:Nat→Nat} {F:FS} {S:Nat→Nat→BS} {E:Env} {P:Program}

theorem part_some {o n:Nat} {ls ls':List L} (h:part o n ls=some ls'):o+n≤ls.length∧ls'=(ls.drop o).take n:=by
 unfold part at h
 split at h
 · exact ⟨by assumption,(Option.some.inj h).symm⟩
 · cases h
theorem Ols.part {ls:List L} {us:List Value} (h:Ols st vals B F w ls us) (o n:Nat):Ols st vals B F w ((ls.drop o).take n) ((us.drop o).take n):=by
 refine .of (by simp [h.length]) fun k l u h1 h2 => ?_
 rw [List.getElem?_take] at h1 h2
 split at h1
 · rename_i hk
   rw [if_pos hk] at h2
   rw [List.getElem?_drop] at h1 h2
   exact h.get h1 h2
 · cases h1
theorem Ones.part {us:List Value} (h:Ones us) (o n:Nat):Ones ((us.drop o).take n):=fun u hu => h u (List.mem_of_mem_drop (List.mem_of_mem_take hu))
def shOf : Option Nat → Sh
 | none => .one
 | some _ => .agg
theorem TupR.get : ∀ {ns : List (Option Nat)} {us ps : List Value} {i : Nat} {q : Option Nat}, TupR ns us ps → ns[i]? = some q →
 ∃ v,ps[i]?=some v∧VR (shOf q) ((us.drop ((ns.take i).map fun o => o.getD 1).sum).take (q.getD 1)) v
 | none::ns,us,ps,0,q,h,hq => by
   obtain ⟨u,us',ps',rfl,rfl,_⟩:=h
   simp at hq
   subst hq
   exact ⟨u,rfl,by simp [shOf,VR]⟩
 | some n::ns,us,ps,0,q,h,hq => by
   obtain ⟨us1,us2,ps',rfl,hl,rfl,_⟩:=h
   simp at hq
   subst hq
   exact ⟨_,rfl,by simp [shOf,VR,← hl]⟩
 | none::ns,us,ps,i+1,q,h,hq => by
   obtain ⟨u,us',ps',rfl,rfl,h⟩:=h
   obtain ⟨v,h1,h2⟩:=TupR.get h (by simpa using hq)
   refine ⟨v,by simpa using h1, ?_⟩
   simpa [Nat.add_comm 1] using h2
 | some n::ns,us,ps,i+1,q,h,hq => by
   obtain ⟨us1,us2,ps',rfl,hl,rfl,h⟩:=h
   obtain ⟨v,h1,h2⟩:=TupR.get h (by simpa using hq)
   refine ⟨v,by simpa using h1, ?_⟩
   subst hl
   simpa [List.drop_append,List.drop_eq_nil_of_le] using h2
 | [],_,_,_,_,_,hq => by simp at hq
theorem extract_ok (h : Rl G [] st a w vals B F S) {o : Oper} {x : Operand} {i : Nat} (ho : o.op = .extract x i)
 {u : Unit} (hx : (do
  let v ← opnd E 0 x
  match v.sh with
  | .tup ns => match ns[i]? with
    | some q => do
      let off:=((ns.take i).map fun o => o.getD 1).sum
      let ls ← M.opt (part off (q.getD 1) v.ls)
      dstV o.dst ⟨match q with | none => .one | some _ => .agg,ls⟩
    | none => .fail
  | _ => .fail:M Unit).exec st=some (u,st')):OpOK P o a w fun a' w' => Rel G [] st' a' w':=by
 obtain ⟨v,st1,h1,h2⟩:=M.bind_some hx
 obtain ⟨rfl,us,hols,hv,hone⟩:=opnd_ok h h1
 split at h2
 · rename_i ns hsh
   split at h2
   · rename_i q hq
     obtain ⟨ls,st2,h3,h4⟩:=M.bind_some h2
     obtain ⟨hp,rfl⟩:=M.opt_some h3
     obtain ⟨hle,rfl⟩:=part_some hp
     simp only [hsh,VR] at hv
     obtain ⟨ps,hval,htup⟩:=hv
     obtain ⟨val,hv1,hv2⟩:=htup.get hq
     have hols':=hols.part ((ns.take i).map fun o => o.getD 1).sum (q.getD 1)
     obtain ⟨S',hpu⟩:=h.pushs hols'
     have e:(match q with | none => Sh.one | some _ => Sh.agg)=shOf q:=by cases q <;> rfl
     rw [e] at h4
     refine op_value (w':=w) (v:=val) ?_ (dstV_ok (by simpa using hpu) hols'.length.symm hv2 (hone.part _ _) h4)
     rw [execOp,ho]
     simp [Instr.extract,hval,hv1]
   · exact (M.fail_some h2).elim
 · exact (M.fail_some h2).elim
theorem mkVal_ok {agg : Bool} {ls : List L} {us : List Value} {v : Val} (h : mkVal agg ls = some v) (hl : us.length = ls.length) :
 v.ls=ls∧VR v.sh us (if agg then .agg us.toArray else us.getD 0 undef)∧(agg=false→us.length=1):=by
 unfold mkVal at h
 cases agg with
 | true =>
   simp at h
   subst h
   exact ⟨rfl,rfl,by simp⟩
 | false =>
   simp only [Bool.false_eq_true,if_false] at h
   split at h
   · rename_i l
     obtain rfl:=Option.some.inj h
     match us,hl with
     | [u],_ => exact ⟨rfl,rfl,fun _ => rfl⟩
   · cases h
theorem field_ok (hE : EnvOK P E) (h : Rl G [] st a w vals B F S) {o : Oper} {t : TypeId} {x : Operand} {f : Nat} (ho : o.op = .field t x f)
 {u : Unit} (hx : (do
  let ti ← M.opt (E.ti t)
  let n ← M.opt (fieldOff ti f)
  let v ← opnd E t x
  match v.sh with
  | .agg => do
    let ls ← M.opt (part n.1 n.2.1 v.ls)
    dstV o.dst (← M.opt (mkVal n.2.2 ls))
  | _ => .fail:M Unit).exec st=some (u,st')):OpOK P o a w fun a' w' => Rel G [] st' a' w':=by
 obtain ⟨ti,st1,h1,h2⟩:=M.bind_some hx
 obtain ⟨hti,rfl⟩:=M.opt_some h1
 obtain ⟨n,st2,h3,h4⟩:=M.bind_some h2
 obtain ⟨hn,rfl⟩:=M.opt_some h3
 obtain ⟨v,st3,h5,h6⟩:=M.bind_some h4
 obtain ⟨rfl,us,hols,hv,hone⟩:=opnd_ok h h5
 obtain ⟨fs,fd,g,d',hund,hf,hfo,hg,hg0,hgs,hdu,hda⟩:=fieldOff_ok hE hti hn
 split at h6
 · rename_i hsh
   obtain ⟨ls,st4,h7,h8⟩:=M.bind_some h6
   obtain ⟨hp,rfl⟩:=M.opt_some h7
   obtain ⟨hle,rfl⟩:=part_some hp
   obtain ⟨v',st5,h9,h10⟩:=M.bind_some h8
   obtain ⟨hm,rfl⟩:=M.opt_some h9
   simp only [hsh,VR] at hv
   have hols':=hols.part n.1 n.2.1
   obtain ⟨hvl,hvr,hv1⟩:=mkVal_ok hm hols'.length
   obtain ⟨S',hpu⟩:=h.pushs hols'
   have hlen:=hols.length
   obtain ⟨sh',ls'⟩:=v'
   simp only at hvl hvr
   subst hvl
   refine op_value (w':=w) ?_ (dstV_ok (by simpa using hpu) hols'.length.symm hvr (hone.part _ _) h10)
   rw [execOp,ho]
   simp only [Instr.field,Sem.run_bind,underlying_run hund,Result.andThen_ok,hf,hv,asAgg,Sem.run_pure,Go.part,isAgg_run hdu,hda,sizeOf_run hg,hfo,hgs]
   cases ha:n.2.2 with
   | true =>
     simp [sizeOf_run hg,hgs]
   | false =>
     have h1:=hv1 ha
     simp only [List.length_take,List.length_drop] at h1
     have hlt:n.1<us.length:=by omega
     simp [hlt,List.getElem?_take]
     rw [if_pos (by omega)]
     rfl
 · exact (M.fail_some h6).elim
theorem indexV_ok (hE : EnvOK P E) (h : Rl G [] st a w vals B F S) {o : Oper} {t : TypeId} {x i : Operand} (ho : o.op = .index t x i)
 {u:Unit} (hx:(indexV E o.dst t x i).exec st=some (u,st')):OpOK P o a w fun a' w' => Rel G [] st' a' w':=by
 unfold indexV at hx
 split at hx
 · rename_i m wd ag0 n ag TT zs hti
   obtain ⟨v,st1,h1,h2⟩:=M.bind_some hx
   obtain ⟨rfl,us,hols,hv,hone⟩:=opnd_ok h h1
   split at h2
   · rename_i hsh
     obtain ⟨j,st2,h3,h4⟩:=M.bind_some h2
     obtain ⟨rfl,hj⟩:=opnd1_ok h h3
     obtain ⟨k,st3,h5,h6⟩:=M.bind_some h4
     obtain ⟨rfl,o',kd,rfl⟩:=asInt_ok h5
     obtain ⟨c,_,hcm,rfl,h7⟩:=splitN_ok h6
     obtain ⟨ls,st4,h8,h9⟩:=M.bind_some h7
     obtain ⟨hp,rfl⟩:=M.opt_some h8
     obtain ⟨hle,rfl⟩:=part_some hp
     obtain ⟨v',st5,h10,h11⟩:=M.bind_some h9
     obtain ⟨hm,rfl⟩:=M.opt_some h10
     obtain ⟨d,hd,_,hk⟩:=(hE.ti t _ hti).und
     simp only [TKOK] at hk
     obtain ⟨e,rfl,g,d',hg,hgs,hdu,hda⟩:=hk
     simp only [hsh,VR] at hv
     have hols':=hols.part (c * wd) wd
     obtain ⟨hvl,hvr,hv1⟩:=mkVal_ok hm hols'.length
     obtain ⟨S',hpu⟩:=h.pushs hols'
     have hlen:=hols.length
     obtain ⟨sh',ls'⟩:=v'
     simp only at hvl hvr
     subst hvl
     refine op_value (w':=w) ?_ (dstV_ok (by simpa using hpu) hols'.length.symm hvr (hone.part _ _) h11)
     rw [execOp,ho]
     have hc2:((c:Int)<(m:Int)):=by omega
     simp only [Instr.index,hj.int,asIntOf,Sem.run_bind,Sem.run_pure,underlying_run hd,Result.andThen_ok,hv,Go.part,isAgg_run hdu,hda,sizeOf_run hg,hgs,Int.toNat_natCast,Int.natCast_nonneg,true_and,hc2,if_true]
     cases ha:ag0 with
     | true =>
       simp [sizeOf_run hg,hgs,hc2,isAgg_run hdu,hda,ha]
     | false =>
       have h1:=hv1 ha
       simp only [List.length_take,List.length_drop] at h1
       have hlt:c * wd<us.length:=by omega
       simp [hlt,List.getElem?_take]
       rw [if_pos (by omega)]
       rfl
   · exact (M.fail_some h2).elim
 · exact (M.fail_some hx).elim
end
end GoV

/- Operations with two operands. -/
namespace GoV
open Go
section
variable {G:Ctx} {fl:List (L × Value)} {st st':St} {a:Act} {w w':World} {vals:VS} {B:Nat→Nat} {F:FS} {S:Nat→Nat→BS} {E:Env} {P:Program}

theorem eqOK_some {t:TypeId} {v:Val} (h:eqOK E t v=true):∃ i T,E.ti t=some i∧i.T=some T∧typLs (flatTs T) v.ls=true:=by
 unfold eqOK at h
 split at h
 · rename_i tk n ag T zs ht
   exact ⟨_,T,ht,rfl,h⟩
 · cases h
theorem typLs_ok:∀ {ts:List Ty} {ls:List L} {us:List Value},Ols st vals B F w ls us→typLs ts ls=true→TypedL ts us:=by
 intro ts
 induction ts with
 | nil =>
   intro ls us h1 h
   cases ls with
   | nil =>
     cases us with
     | nil => trivial
     | cons => exact h1.elim
   | cons => simp [typLs] at h
 | cons T ts ih =>
   intro ls us h1 h
   cases ls with
   | nil => cases T <;> simp [typLs] at h
   | cons l ls =>
     cases us with
     | nil => exact h1.elim
     | cons u us =>
       obtain ⟨h1a,h1b⟩:=h1
       unfold typLs at h
       split at h
       · rename_i hh _; cases hh
       · rename_i k ts' o k' x ls' hh1 hh2
         cases hh1; cases hh2
         simp only [Bool.and_eq_true,decide_eq_true_eq] at h
         obtain ⟨rfl,h⟩:=h
         have hu:=h1a.int
         subst hu
         exact ⟨rfl,ih h1b h⟩
       · rename_i ts' o x ls' hh1 hh2
         cases hh1; cases hh2
         have hu:=h1a.bool
         subst hu
         exact ih h1b h
       · cases h
theorem eqLs_ok:∀ {ls ms:List L} {us vs:List Value} {b:Bool},Ols st vals B F w ls us→Ols st vals B F w ms vs→eqLs ls ms=some b→Alike us vs∧(b=true↔us=vs):=by
 intro ls
 induction ls with
 | nil =>
   intro ms us vs b h1 h2 h
   cases ms with
   | nil =>
     cases us with
     | cons => exact h1.elim
     | nil =>
       cases vs with
       | cons => exact h2.elim
       | nil =>
         simp [eqLs] at h
         subst h
         exact ⟨trivial,by simp⟩
   | cons m ms => simp [eqLs] at h
 | cons l ls ih =>
   intro ms us vs b h1 h2 h
   cases ms with
   | nil => simp [eqLs] at h
   | cons m ms =>
     cases us with
     | nil => exact h1.elim
     | cons u us =>
       cases vs with
       | nil => exact h2.elim
       | cons v vs =>
         obtain ⟨h1a,h1b⟩:=h1
         obtain ⟨h2a,h2b⟩:=h2
         unfold eqLs at h
         split at h
         · rename_i hh _; cases hh
         · rename_i o1 k1 x r o2 k2 y s hh1 hh2
           cases hh1; cases hh2
           split at h
           · rename_i b' hb'
             obtain ⟨g1,g2⟩:=ih h1b h2b hb'
             split at h
             · rename_i hk
               subst hk
               have e:=Option.some.inj h
               have hu:=h1a.int
               have hv:=h2a.int
               subst hu; subst hv
               refine ⟨⟨rfl,g1⟩, ?_⟩
               rw [← e]
               simp [g2]
             · cases h
           · cases h
         · rename_i o1 x r o2 y s hh1 hh2
           cases hh1; cases hh2
           split at h
           · rename_i b' hb'
             obtain ⟨g1,g2⟩:=ih h1b h2b hb'
             have e:=Option.some.inj h
             have hu:=h1a.bool
             have hv:=h2a.bool
             subst hu; subst hv
             refine ⟨g1, ?_⟩
             rw [← e]
             simp [g2]
           · cases h
         · cases h
theorem binV_ok (hE : EnvOK P E) {op : BinOp} {t : TypeId} {x y : Operand} {va vb : Val} {us vs : List Value} {ux uy : Value} {l : L}
 (h1:Ols st vals B F w va.ls us) (h2:Ols st vals B F w vb.ls vs) (hv1:VR va.sh us ux) (hv2:VR vb.sh vs uy) (hsafe:safeB op vb=true) (h:binV (E.eqt t && (eqOK E t va && eqOK E t vb)) (isBoolT E t) op va vb=some l) :
 ∃ v,(do eqGuard op t x y ux uy; binOp op t ux uy:Sem Value).run P w=.ok v w∧OL st vals B F w l v∧v.oneCell'=true:=by
 unfold binV at h
 split at h
 · rename_i o1 k x' o2 k' y'
   simp only [VR] at hv1 hv2
   subst hv1; subst hv2
   obtain ⟨h1,_⟩:=h1
   obtain ⟨h2,_⟩:=h2
   have hu:=h1.int
   have hv:=h2.int
   subst hu; subst hv
   have hg:=fun op => eqGuard_int (P:=P) (w:=w) (op:=op) (t:=t) (x:=x) (y:=y) (k:=k) (k':=k') (p:=x') (q:=y')
   split at h
   · obtain ⟨v, g1, g2, g3⟩ := shiftI_ok (P := P) (w := w) (st := st) (vals := vals) (B := B) (F := F) (k' := k') (.inl rfl) h hsafe (t := t)
     exact ⟨v,by simp only [Sem.run_bind,hg,Result.andThen_ok,g1],g2,g3⟩
   · obtain ⟨v, g1, g2, g3⟩ := shiftI_ok (P := P) (w := w) (st := st) (vals := vals) (B := B) (F := F) (k' := k') (.inr rfl) h hsafe (t := t)
     exact ⟨v,by simp only [Sem.run_bind,hg,Result.andThen_ok,g1],g2,g3⟩
   · split at h
     · rename_i hk
       subst hk
       obtain ⟨v,g1,g2,g3⟩:=binI_ok (P:=P) (w:=w) (st:=st) (vals:=vals) (B:=B) (F:=F) h hsafe (t:=t)
       exact ⟨v,by simp only [Sem.run_bind,hg,Result.andThen_ok,g1],g2,g3⟩
     · cases h
 · rename_i o1 x' o2 y'
   simp only [VR] at hv1 hv2
   subst hv1; subst hv2
   obtain ⟨h1,_⟩:=h1
   obtain ⟨h2,_⟩:=h2
   have hu:=h1.bool
   have hv:=h2.bool
   subst hu; subst hv
   split at h
   · rename_i htb
     have hub:P.underlying t=some .bool:=by
        unfold isBoolT at htb
        split at htb
        · rename_i n ag T zs hti
          obtain ⟨d,hd,_,hk⟩:=(hE.ti t _ hti).und
          simp only [TKOK] at hk
          rw [hd,hk]
        · cases htb
     split at h
     · cases h
       exact ⟨.bool (x' == y'),by simp [eqGuard_bool,binOp,run_equal_bool w t x' y' hub],.ofBool,rfl⟩
     · cases h
       exact ⟨.bool (!(x' == y')),by simp [eqGuard_bool,binOp,run_equal_bool w t x' y' hub],.ofBool,rfl⟩
     · cases h
   · cases h
 · rename_i ls ms
   simp only [VR] at hv1 hv2
   subst hv1; subst hv2
   split at h
   · rename_i heq
     simp only [Bool.and_eq_true] at heq
     obtain ⟨heq,heqa,heqb⟩:=heq
     obtain ⟨ti,T,ht1,ht2,ht3⟩:=eqOK_some heqa
     obtain ⟨ti',T',ht1',ht2',ht3'⟩:=eqOK_some heqb
     rw [ht1] at ht1'
     obtain rfl:=Option.some.inj ht1'
     rw [ht2] at ht2'
     obtain rfl:=Option.some.inj ht2'
     have hE':=hE.eqt t ti T heq ht1 ht2
     have hta:=typLs_ok h1 ht3
     have htb:=typLs_ok h2 ht3'
     split at h
     · rename_i b hb
       cases h
       obtain ⟨g1,g2⟩:=eqLs_ok h1 h2 hb
       obtain ⟨b',k1,k2,k3⟩:=hE' .eql x y us vs w (.inl rfl) hta htb
       have:b'=b:=by rw [Bool.eq_iff_iff,k2,g2]
       subst this
       exact ⟨.bool b',by simp only [Sem.run_bind,k1,Result.andThen_ok,k3]; rfl,.ofBool,rfl⟩
     · rename_i b hb
       cases h
       obtain ⟨g1,g2⟩:=eqLs_ok h1 h2 hb
       obtain ⟨b',k1,k2,k3⟩:=hE' .neq x y us vs w (.inr rfl) hta htb
       have:b'=b:=by rw [Bool.eq_iff_iff,k2,g2]
       subst this
       exact ⟨.bool (!b'),by simp only [Sem.run_bind,k1,Result.andThen_ok,k3]; rfl,.ofBool,rfl⟩
     · cases h
   · cases h
 · cases h
theorem binOp_ok (hE : EnvOK P E) (h : Rl G [] st a w vals B F S) {o : Oper} {op : BinOp} {t yt : TypeId} {x y : Operand} (ho : o.op = .binOp op t x y yt)
 {u : Unit} (hx : (do
  let a ← opnd E t x
  let b ← opnd E yt y
  M.check (safeB op b)
  let l ← M.opt (binV (E.eqt t && (eqOK E t a && eqOK E t b)) (isBoolT E t) op a b)
  dstV o.dst ⟨.one,[l]⟩:M Unit).exec st=some (u,st')):OpOK P o a w fun a' w' => Rel G [] st' a' w':=by
 obtain ⟨va,st1,h1,h2⟩:=M.bind_some hx
 obtain ⟨rfl,us,ho1,hv1,_⟩:=opnd_ok h h1
 obtain ⟨vb,st2,h3,h4⟩:=M.bind_some h2
 obtain ⟨rfl,vs,ho2,hv2,_⟩:=opnd_ok h h3
 obtain ⟨_,st4,h7,h8⟩:=M.bind_some h4
 obtain ⟨hsafe,rfl⟩:=M.must_some h7
 obtain ⟨l,st3,h5,h6⟩:=M.bind_some h8
 obtain ⟨hb,rfl⟩:=M.opt_some h5
 obtain ⟨v,g1,g2,g3⟩:=binV_ok hE (x:=x) (y:=y) ho1 ho2 hv1 hv2 hsafe hb
 refine op_value (w':=w) (v:=v) ?_ (dst1_ok h g2 g3 h6)
 rw [execOp,ho]
 simp only [Sem.run_bind] at g1 ⊢
 rw [g1]
 rfl
end
end GoV

/- Loads. -/
namespace GoV
open Go
section
variable {G:Ctx} {fl:List (L × Value)} {st st':St} {a:Act} {w w':World} {vals:VS} {B:Nat→Nat} {F:FS} {S:Nat→Nat→BS} {E:Env} {P:Program}

theorem load_run (hE : EnvOK P E) {t : TypeId} {ti : TI} (ht : E.ti t = some ti) {b q : Nat} {f : Nat → Value} (h : ∀ j, j < ti.n → cellAt w b (q + j) = some (f j)) :
 (Instr.loadAt t (.pointer (some ⟨b,q,none⟩))).run P w=.ok (if ti.agg then .agg ((List.range ti.n).map f).toArray else f 0) w∧(ti.agg=false→ti.n=1):=by
 obtain ⟨g,hg,hgs,_,_,z,hz,hzc,hz1,_⟩:=(hE.ti t ti ht).info
 obtain ⟨d,hd,hda,_⟩:=(hE.ti t ti ht).und
 have hn:ti.agg=false→ti.n=1:=by
  intro ha
  rw [← hzc,hz1 ha]
  rfl
 refine ⟨?_,hn⟩
 simp only [Instr.loadAt,Instr.sureAddr,Sem.run_bind,Sem.run_pure,Result.andThen_ok,loadVar,isAgg_run hd,hda]
 cases ha:ti.agg with
 | true =>
   have:=run_loadCells (P:=P) w ⟨b,q,none⟩ ti.n f (fun j hj => by rw [add_addr]; exact h j hj)
   simp [sizeOf_run hg,hgs,this]
 | false =>
   have h0:=h 0 (by rw [hn ha]; exact Nat.one_pos)
   simp only [Nat.add_zero,cellAt] at h0
   simp [h0]
theorem PlHd.uniq {p:Pl} {t t':Ty} {n n':Nat} {hv hv':Value} (h:PlHd st vals w p t n hv) (h':PlHd st vals w p t' n' hv'):t=t'∧n=n'∧hv=hv':=by
 obtain ⟨c1,o1,t0,x0,h0,g1,g2,g3,g4⟩:=h
 obtain ⟨c2,o2,t2,x2,h2,k1,k2,k3,k4⟩:=h'
 rw [g1] at k1
 obtain rfl:=Option.some.inj k1
 obtain ⟨rfl,rfl,hxk2⟩:=g2.inj k2
 obtain rfl:=eq_of_heq hxk2
 rw [g3] at k3
 obtain rfl:=Option.some.inj k3
 obtain ⟨pr,pk,ps⟩:=p
 cases ps with
 | none =>
   obtain ⟨rfl,rfl,rfl⟩:=g4
   obtain ⟨rfl,rfl,rfl⟩:=k4
   exact ⟨rfl,rfl,rfl⟩
 | some q =>
   obtain ⟨j,i⟩:=q
   obtain ⟨e,o',y,b,off,C,m1,m2,m3,m4,m5⟩:=g4
   obtain ⟨e2,o2,y2,b2,off2,C2,q1,q2,q3,q4,q5⟩:=k4
   rw [m1] at q1
   obtain rfl:=Option.some.inj q1
   rw [m2] at q2
   simp only [Option.some.injEq,L.d.injEq,Ty.sl.injEq] at q2
   obtain ⟨rfl,rfl,q2⟩:=q2
   cases q2
   rw [m4] at q4
   simp only [Value.slice.injEq,Option.some.injEq,Addr.mk.injEq] at q4
   obtain ⟨⟨rfl,rfl,_⟩,_⟩:=q4
   exact ⟨rfl,by rw [m3,q3],by rw [m5,q5]⟩
theorem Placed.elem {p : Pl} {c : Cell} {o : Fl} {t : Ty} {x : List t.C} {hv u : Value} {j i : Nat} (hp : Placed st vals w F S p c o t x hv) (hk : LinkOK st vals B w (.eptr p j i) u) :
 ∃ b off C,hv=.slice (some ⟨b,off,none⟩) x.length C∧j<x.length∧u=.pointer (some ⟨b,off+j * t.size+i,none⟩):=by
 rcases hk with ⟨q,hq,hd⟩ | ⟨t1,n1,b,off,C,h1,h2,rfl⟩
 · rw [hp.cell] at hq
   obtain rfl:=Option.some.inj hq
   exact absurd hd (hp.dl.no hp.nd)
 · obtain ⟨rfl, rfl, h3⟩ := hp.hd.uniq h1
   exact ⟨b,off,C,h3,h2,rfl⟩
theorem leaves_fro:∀ {T:Ty} {e:T.C} {cs:Nat→Value} {k:Nat} {l:L},RepF F w T e cs→(T.leaves .fro e)[k]?=some l→CRep F w l (cs k)∧(cs k).oneCell'=true:=by
 intro T
 induction T with
 | int kd =>
   intro e cs k l h hl
   simp only [Ty.leaves] at hl
   cases k with
   | zero =>
     simp at hl; subst hl
     simp only [RepF] at h
     exact ⟨.d _ _ _ rfl h,by rw [h]; rfl⟩
   | succ k => simp at hl
 | bool =>
   intro e cs k l h hl
   simp only [Ty.leaves] at hl
   cases k with
   | zero =>
     simp at hl; subst hl
     simp only [RepF] at h
     exact ⟨.d _ _ _ rfl h,by rw [h]; rfl⟩
   | succ k => simp at hl
 | sl t ih =>
   intro e cs k l h hl
   simp only [Ty.leaves] at hl
   cases k with
   | zero =>
     simp at hl; subst hl
     have h':=h
     obtain ⟨A,c,h1,_⟩:=h'
     exact ⟨CRep.sl h,by rw [h1]; rfl⟩
   | succ k => simp at hl
 | pair a b iha ihb =>
   intro e cs k l h hl
   simp only [Ty.leaves] at hl
   have hlen:∀ (T:Ty) (o:Fl) (x:T.C),(T.leaves o x).length=T.size:=by
    intro T
    induction T with
    | pair a b iha ihb => intro o x; simp [Ty.leaves,Ty.size,iha,ihb]
    | _ => intro o x; rfl
   by_cases hk:k<a.size
   · rw [List.getElem?_append_left (by rw [hlen]; exact hk)] at hl
     exact iha h.1 hl
   · rw [List.getElem?_append_right (by rw [hlen]; omega), hlen] at hl
     have:=ihb h.2 hl
     rwa [show a.size+(k - a.size)=k by omega] at this
 | unit => intro e cs k l h hl; simp [Ty.leaves] at hl
theorem leaves_length (T:Ty) (o:Fl):∀ (x:T.C),(T.leaves o x).length=T.size:=by
 induction T with
 | pair a b iha ihb => intro x; simp [Ty.leaves,Ty.size,iha,ihb]
 | _ => intro x; rfl
theorem getL_leaves {o:Fl}:∀ {T:Ty} {e:T.C} {k:Nat} {l:L},(T.leaves o e)[k]?=some l→T.getL o e k=some l:=by
 intro T
 induction T with
 | pair a b iha ihb =>
   intro e k l hl
   simp only [Ty.leaves,Ty.getL] at *
   by_cases hk:k<a.size
   · rw [if_pos hk]
     rw [List.getElem?_append_left (by rw [leaves_length]; exact hk)] at hl
     exact iha hl
   · rw [if_neg hk]
     rw [List.getElem?_append_right (by rw [leaves_length]; omega),leaves_length] at hl
     exact ihb hl
 | unit => intro e k l hl; simp [Ty.leaves] at hl
 | _ =>
   intro e k l hl
   cases k with
   | zero => simpa [Ty.leaves,Ty.getL] using hl
   | succ k => simp [Ty.leaves] at hl
def subV (p : Pl) (j i : Nat) : L → L
 | .d .fro T x => .d .fro T x
 | .d _ _ _ => .lent ⟨p.r,p.k,some (j,i)⟩ none
 | l => l
theorem subViews_get (p : Pl) (j : Nat) : ∀ (i : Nat) (ls : List L) (k : Nat), (subViews p j i ls)[k]? = ls[k]?.map (subV p j (i + k))
 | _,[],k => by simp [subViews]
 | i,l::r,0 => by
   cases l with
   | d o T x => cases o <;> simp [subViews,subV]
   | _ => simp [subViews,subV]
 | i,l::r,k+1 => by
   have:=subViews_get p j (i+1) r k
   rw [show i+1+k=i+(k+1) by omega] at this
   cases l with
   | d o T x => cases o <;> simpa [subViews] using this
   | _ => simpa [subViews] using this
theorem subViews_length (p : Pl) (j : Nat) : ∀ (i : Nat) (ls : List L), (subViews p j i ls).length = ls.length
 | _,[] => rfl
 | i,l::r => by
   have:=subViews_length p j (i+1) r
   cases l with
   | d o T x => cases o <;> simpa [subViews] using this
   | _ => simpa [subViews] using this
theorem leaves_kind {o : Fl} : ∀ {T : Ty} {e : T.C} {k : Nat} {l : L}, (T.leaves o e)[k]? = some l →
 (∃ kd x,l=.d .fro (.int kd) x)∨(∃ x,l=.d .fro .bool x)∨∃ t x,l=.d o (.sl t) x:=by
 intro T
 induction T with
 | pair a b iha ihb =>
   intro e k l hl
   simp only [Ty.leaves] at hl
   by_cases hk:k<a.size
   · rw [List.getElem?_append_left (by rw [leaves_length]; exact hk)] at hl
     exact iha hl
   · rw [List.getElem?_append_right (by rw [leaves_length]; omega), leaves_length] at hl
     exact ihb hl
 | unit => intro e k l hl; simp [Ty.leaves] at hl
 | int kd =>
   intro e k l hl
   cases k with
   | zero => simp [Ty.leaves] at hl; exact .inl ⟨_,_,hl.symm⟩
   | succ k => simp [Ty.leaves] at hl
 | bool =>
   intro e k l hl
   cases k with
   | zero => simp [Ty.leaves] at hl; exact .inr (.inl ⟨_,hl.symm⟩)
   | succ k => simp [Ty.leaves] at hl
 | sl t =>
   intro e k l hl
   cases k with
   | zero => simp [Ty.leaves] at hl; exact .inr (.inr ⟨_,_,hl.symm⟩)
   | succ k => simp [Ty.leaves] at hl
theorem flat_leaves {o:Fl} {T:Ty} (hf:T.flat=true):∀ {e:T.C} {k:Nat} {t:Ty} {x:List t.C},(T.leaves o e)[k]?≠some (.d o (.sl t) x):=by
 induction T with
 | pair a b iha ihb =>
   intro e k t x hl
   simp only [Ty.flat,Bool.and_eq_true] at hf
   simp only [Ty.leaves] at hl
   by_cases hk:k<a.size
   · rw [List.getElem?_append_left (by rw [leaves_length]; exact hk)] at hl
     exact iha hf.1 hl
   · rw [List.getElem?_append_right (by rw [leaves_length]; omega), leaves_length] at hl
     exact ihb hf.2 hl
 | unit => intro e k t x hl; simp [Ty.leaves] at hl
 | int kd => intro e k t x hl; cases k <;> simp [Ty.leaves] at hl
 | bool => intro e k t x hl; cases k <;> simp [Ty.leaves] at hl
 | sl t => simp [Ty.flat] at hf
def cellsOf (cs:Nat→Value) (o n:Nat):List Value:=(List.range n).map fun i => cs (o+i)
theorem RepF.one:∀ {T:Ty} {x:T.C} {v:Value},T.size=1→RepF F w T x (fun _ => v)→v.oneCell'=true:=by
 intro T
 induction T with
 | int k => intro x v _ h; simp only [RepF] at h; rw [h]; rfl
 | bool => intro x v _ h; simp only [RepF] at h; rw [h]; rfl
 | sl t => intro x v _ h; obtain ⟨A,c,h,_⟩:=h; have h:v=_:=h; rw [h]; rfl
 | pair a b iha ihb =>
   intro x v hs h
   simp only [Ty.size] at hs
   rcases Nat.eq_zero_or_pos a.size with ha | ha
   · exact ihb (by omega) h.2
   · exact iha (by omega) h.1
 | unit => intro x v hs; simp [Ty.size] at hs
theorem CRep.one {l:L} {v:Value} (h:CRep F w l v):v.oneCell'=true:=by
 cases h with
 | d T x v h1 h2 => exact h2.one h1
 | nil t => rfl
 | fe => rfl
 | rp => rfl
 | fn => rfl
theorem viewN_ok {r : Nat} {c : Cell} (hc : st[r]? = some c) {n o : Nat} {ls : List L} {st' : St} (hx : (viewN r o n).exec st = some (ls, st')) :
 st'=st∧ls.length=n∧∀ k,k<n→∃ l0,c.ls[o+k]?=some l0∧ls[k]?=some (GoV.viewL r (o+k) l0):=by
 simp only [viewN] at hx
 obtain ⟨q,st1,h1,h2⟩:=M.bind_some hx
 obtain ⟨c',hc',rfl,hst⟩:=M.look_some h1
 rw [hst] at h2
 rw [hc] at hc'
 obtain rfl:=Option.some.inj hc'
 obtain ⟨hp,hst2⟩:=M.opt_some h2
 unfold part at hp
 split at hp
 · rename_i hle
   obtain rfl:=Option.some.inj hp
   refine ⟨hst2,by simp only [List.length_take,List.length_drop]; omega,fun k hk => ?_⟩
   rw [viewLs_length] at hle
   have hlt:o+k<c.ls.length:=by omega
   refine ⟨c.ls[o+k],List.getElem?_eq_getElem hlt, ?_⟩
   rw [List.getElem?_take,if_pos hk,List.getElem?_drop,viewLs_get,List.getElem?_eq_getElem hlt]
   simp
 · cases hp
theorem leaves_co {o:Fl}:∀ {T:Ty} {e:T.C} {k:Nat} {l:L},(T.leaves o e)[k]?=some l→(T.leaves .fro e)[k]?=some (froL l):=by
 intro T
 induction T with
 | pair a b iha ihb =>
   intro e k l hl
   simp only [Ty.leaves] at *
   by_cases hk:k<a.size
   · rw [List.getElem?_append_left (by rw [leaves_length]; exact hk)] at hl ⊢
     exact iha hl
   · rw [List.getElem?_append_right (by rw [leaves_length]; omega), leaves_length] at hl ⊢
     exact ihb hl
 | unit => intro e k l hl; simp [Ty.leaves] at hl
 | _ =>
   intro e k l hl
   cases k with
   | zero => simp [Ty.leaves] at hl ⊢; subst hl; rfl
   | succ k => simp [Ty.leaves] at hl
theorem Placed.shared (h : Rl G fl st a w vals B F S) {p : Pl} {c : Cell} {o : Fl} {t : Ty} {x : List t.C} {hv : Value} (hp : Placed st vals w F S p c o t x hv) (hd : o.el ≠ .deep)
 {b off C:Nat} (hhv:hv=.slice (some ⟨b,off,none⟩) x.length C) {j:Nat} {e:t.C} (he:x[j]?=some e):RepF F w t e (cv w b (off+j * t.size)):=by
 have ofF:RepF F w (.sl t) x (fun _ => hv)→RepF F w t e (cv w b (off+j * t.size)):=by
  rintro ⟨A,C',h1,h2,h3⟩
  have h1:hv=_:=h1
  rw [hhv] at h1
  simp only [Value.slice.injEq] at h1
  obtain ⟨rfl,_,rfl⟩:=h1
  rcases h3 with rfl | ⟨b',o',hA,h3⟩
  · simp at he
  · simp only [Option.some.injEq, Addr.mk.injEq] at hA
    obtain ⟨rfl,rfl,_⟩:=hA
    exact (h3 j e he).2
 by_cases hf:o=.fro
 · exact ofF (hp.fro hf)
 rcases hp.sf with hs | hs | hs
 · obtain ⟨hl, hu⟩ := hp.root hs
   have hrep:=(h.leaf _ _ _ _ _ hp.cell hl hu).1
   cases o with
   | deep => exact absurd rfl hd
   | jnk lo hi => exact absurd rfl hd
   | fro => exact absurd rfl hf
   | frt => exact ofF hrep.1
   | sha =>
     obtain ⟨⟨A,C',h1,h2,h3⟩,_⟩:=hrep
     rw [hhv] at h1
     simp only [Value.slice.injEq] at h1
     obtain ⟨rfl,_,rfl⟩:=h1
     rcases h3 with ⟨h3,_⟩ | ⟨b',o',arr,hA,_,_,_,h3⟩
     · cases h3
     · simp only [Option.some.injEq, Addr.mk.injEq] at hA
       obtain ⟨rfl,rfl,_⟩:=hA
       exact h3 j e he
 · exact absurd (by rw [hs]; rfl) hd
 · exact absurd hs hf
theorem load_fin (hE : EnvOK P E) {t : TypeId} {ti : TI} (ht : E.ti t = some ti) {b q : Nat} {f : Nat → Value} {ls : List L} {v : Val} (hl : ls.length = ti.n)
 (hc:∀ j,j<ti.n→cellAt w b (q+j)=some (f j)) (hls:∀ k l,k<ti.n→ls[k]?=some l→OL st vals B F w l (f k)∧(f k).oneCell'=true) (hm:mkVal ti.agg ls=some v) :
 ∃ us val,Ols st vals B F w v.ls us∧VR v.sh us val∧Ones us∧(Instr.loadAt t (.pointer (some ⟨b,q,none⟩))).run P w=.ok val w:=by
 obtain ⟨h1,h2⟩:=load_run (P:=P) (w:=w) hE ht hc
 have hlen:((List.range ti.n).map f).length=ls.length:=by simp [hl]
 obtain ⟨g1,g2,g3⟩:=mkVal_ok hm hlen
 refine ⟨(List.range ti.n).map f,_, ?_,g2, ?_, ?_⟩
 · rw [g1]
   refine .of hlen fun k l u hk hu => ?_
   have hlt:=get_lt hk
   rw [hl] at hlt
   simp [hlt] at hu
   subst hu
   exact (hls k l hlt hk).1
 · intro u hu
   obtain ⟨k,hk,rfl⟩:=List.mem_map.1 hu
   have hk:=List.mem_range.1 hk
   exact (hls k ls[k] hk (by simp [show k<ls.length by omega])).2
 · rw [h1]
   cases ha:ti.agg with
   | true => rfl
   | false => simp [h2 ha]
theorem loadV_ok (hE : EnvOK P E) (h : Rl G fl st a w vals B F S) {t : TypeId} {ti : TI} (ht : E.ti t = some ti) {l : L} {u : Value} {v : Val} (ho : OL st vals B F w l u)
 (hx:(loadV ti l).exec st=some (v,st')) :
 st'=st∧∃ us val,Ols st vals B F w v.ls us∧VR v.sh us val∧Ones us∧(Instr.loadAt t u).run P w=.ok val w:=by
 unfold loadV at hx
 split at hx
 · rename_i r o
   obtain ⟨q,st1,h1,h2⟩:=M.bind_some hx
   obtain ⟨c,hc,rfl,rfl⟩:=M.peek_some h1
   obtain ⟨_,st2,h3,h4⟩:=M.bind_some h2
   obtain ⟨hd,rfl⟩:=M.must_some h3
   simp only [Cell.hd] at h4 hd
   split at h4
   · rename_i z hck
     obtain ⟨ls,st3,h5,h6⟩:=M.bind_some h4
     obtain ⟨rfl,hlen,hls⟩:=viewN_ok hc h5
     obtain ⟨hm,rfl⟩:=M.opt_some h6
     refine ⟨rfl, ?_⟩
     obtain ⟨_,c',hc',hk⟩:=ho
     rw [hc] at hc'
     obtain rfl:=Option.some.inj hc'
     have hu:u=.pointer (some ⟨B r,o,none⟩):=by
        rcases hk with hk | ⟨_,_,hu⟩
        · simp [hk] at hd
        · exact hu
     subst hu
     have hcell:=h.cell r c hc
     have key:(vals r).length=c.ls.length∧Ones (vals r)∧∀ (k:Nat) (x:Value),(vals r)[k]?=some x→cellAt w (B r) k=some x:=by
        unfold CellOK at hcell
        rw [hck] at hcell
        cases z with
        | false =>
          obtain ⟨g1,_,g3,_,_,g6⟩:=hcell
          exact ⟨g1,g6,fun k x hk => by rw [cellAt_blk g3]; simpa using hk⟩
        | true =>
          obtain ⟨g1,_,g3,_,g5⟩:=hcell
          exact ⟨g1,g5,fun k x hk => (g3 k x hk).2⟩
     obtain ⟨k1,k2,k3⟩:=key
     have val_at:∀ k,k<ti.n→∃ x,(vals r)[o+k]?=some x∧(vals r).getD (o+k) undef=x:=by
        intro k hk
        obtain ⟨l0,g1,_⟩:=hls k hk
        have:=get_lt g1
        exact ⟨(vals r)[o+k]'(by omega),by simp [show o+k<(vals r).length by omega],by simp [show o+k<(vals r).length by omega]⟩
     refine load_fin hE ht (f:=fun k => (vals r).getD (o+k) undef) hlen (fun j hj => ?_) (fun k l hk hl => ?_) hm
     · obtain ⟨x, g1, g2⟩ := val_at j hj
       simp only [g2]
       exact k3 _ _ g1
     · obtain ⟨x, g1, g2⟩ := val_at k hk
       obtain ⟨l0,g3,g4⟩:=hls k hk
       rw [g4] at hl
       obtain rfl:=Option.some.inj hl
       simp only [g2]
       exact ⟨h.viewL hc g3 g1,k2 x (List.mem_of_getElem? g1)⟩
   · exact (M.fail_some h4).elim
 · rename_i p j o
   obtain ⟨l0,st1,h1,h2⟩:=M.bind_some hx
   obtain ⟨rfl,c,fl0,T,x,hv,rfl,hp⟩:=placed h h1
   simp only [] at h2
   obtain ⟨b,off,C,hhv,hj,rfl⟩:=hp.elem ho.2
   obtain ⟨e,st9,h9,h2'⟩:=M.bind_some h2
   obtain ⟨he,rfl⟩:=M.nth_some h9
   · obtain ⟨ls, st2, h3, h4⟩ := M.bind_some h2'
     obtain ⟨hpt,rfl⟩:=M.opt_some h3
     obtain ⟨hle,rfl⟩:=part_some hpt
     rw [leaves_length] at hle
     obtain ⟨_,st3,h5,h6⟩:=M.bind_some h4
     obtain ⟨hok,rfl⟩:=M.must_some h5
     obtain ⟨hm,rfl⟩:=M.opt_some h6
     refine ⟨rfl, ?_⟩
     obtain ⟨A1,C1,r1,r2,r3⟩:=hp.rep
     have r1:hv=_:=r1
     rw [hhv] at r1
     simp only [Value.slice.injEq] at r1
     obtain ⟨rfl,_,rfl⟩:=r1
     rcases r3 with rfl | ⟨b1,o1,hA,r3⟩
     · simp at he
     simp only [Option.some.injEq,Addr.mk.injEq] at hA
     obtain ⟨rfl,rfl,_⟩:=hA
     obtain ⟨hcells,rep⟩:=r3 j e he
     have cell:∀ k,k<ti.n→cellAt w b (off+j * T.size+o+k)=some (cv w b (off+j * T.size) (o+k)):=by
        intro k hk
        obtain ⟨_,y,hy⟩:=hcells (o+k) (by omega)
        simp only [cv]
        rw [Nat.add_assoc,hy]
        rfl
     by_cases hdp:fl0.el=.deep
     · simp only [hdp, if_true] at hm
       refine load_fin hE ht (f:=fun k => cv w b (off+j * T.size) (o+k)) (by simp [subViews_length,leaves_length]; omega) cell (fun k l hk hl => ?_) hm
       rw [subViews_get,List.getElem?_take,if_pos hk,List.getElem?_drop] at hl
       obtain ⟨l1,g1,rfl⟩:=Option.map_eq_some_iff.1 hl
       obtain ⟨m1,m2⟩:=leaves_fro rep (leaves_co g1)
       refine ⟨?_,m2⟩
       rcases leaves_kind g1 with ⟨kd,y,rfl⟩ | ⟨y,rfl⟩ | ⟨t1,y,rfl⟩
       · simp only [froL] at m1
         cases m1 with
         | d _ _ _ _ h2 =>
           simp only [RepF] at h2
           simp only [subV,h2]
           exact .ofInt
       · simp only [froL] at m1
         cases m1 with
         | d _ _ _ _ h2 =>
           simp only [RepF] at h2
           simp only [subV,h2]
           exact .ofBool
       · have hs:p.sub=none:=by
          simp only [Bool.or_eq_true] at hok
          rcases hok with (hok | hok) | hok
          · exact absurd g1 (flat_leaves hok)
          · simpa using hok
          · simp [hdp] at hok
         obtain ⟨n1,n2⟩:=hp.root hs
         exact ⟨trivial,.inr ⟨t1,y.length,_,⟨c,fl0,T,x,hv,hp.cell,.inl n1,n2,e,.deep,y,b,off,C,he,by rw [hdp]; simpa using getL_leaves g1,rfl,hhv,rfl⟩,rfl⟩⟩
     · have hfe : fl0.el = .fro := by cases fl0 <;> first | rfl | exact absurd rfl hdp
       simp only [if_neg hdp] at hm
       rw [hfe] at hm
       have rep':=Placed.shared h hp hdp hhv he
       refine load_fin hE ht (f:=fun k => cv w b (off+j * T.size) (o+k)) (by simp [leaves_length]; omega) cell (fun k l hk hl => ?_) hm
       rw [List.getElem?_take,if_pos hk,List.getElem?_drop] at hl
       obtain ⟨m1,m2⟩:=leaves_fro rep' hl
       exact ⟨m1.ol,m2⟩
 · rename_i T x o
   obtain ⟨ls,st1,h1,h2⟩:=M.bind_some hx
   obtain ⟨hp,rfl⟩:=M.opt_some h1
   obtain ⟨hle,rfl⟩:=part_some hp
   obtain ⟨hm,rfl⟩:=M.opt_some h2
   refine ⟨rfl, ?_⟩
   rw [leaves_length] at hle
   cases ho.1 with
   | fe T x o b base g1 g2 =>
     refine load_fin hE ht (f:=fun k => cv w b base (o+k)) (by simp [leaves_length]; omega) (fun j hj => ?_) (fun k l hk hl => ?_) hm
     · obtain ⟨_, y, hy⟩ := g1 (o + j) (by omega)
       simp only [cv]
       rw [Nat.add_assoc,hy]
       rfl
     · rw [List.getElem?_take, if_pos hk, List.getElem?_drop] at hl
       obtain ⟨m1,m2⟩:=leaves_fro g2 hl
       exact ⟨m1.ol,m2⟩
 · rename_i ls o
   obtain ⟨ls',st1,h1,h2⟩:=M.bind_some hx
   obtain ⟨hp,rfl⟩:=M.opt_some h1
   obtain ⟨hle,rfl⟩:=part_some hp
   obtain ⟨hm,rfl⟩:=M.opt_some h2
   refine ⟨rfl, ?_⟩
   cases ho.1 with
   | rp ls o b us g1 g2 g3 =>
     refine load_fin hE ht (f:=fun k => us (o+k)) (by simp; omega) (fun j hj => ?_) (fun k l hk hl => ?_) hm
     · exact g2 (o+j) (ls[o+j]'(by omega)) (by simp [show o+j<ls.length by omega])
     · rw [List.getElem?_take, if_pos hk, List.getElem?_drop] at hl
       have:=g3 _ _ hl
       exact ⟨this.ol,this.one⟩
 · exact (M.fail_some hx).elim
theorem load_ok (hE : EnvOK P E) (h : Rl G [] st a w vals B F S) {o : Oper} {t : TypeId} {x : Operand} (ho : o.op = .load t x)
 {u : Unit} (hx : (do
  let ti ← M.opt (E.ti t)
  let l ← opnd1 E 0 x
  let v ← loadV ti l
  dstV o.dst v:M Unit).exec st=some (u,st')):OpOK P o a w fun a' w' => Rel G [] st' a' w':=by
 obtain ⟨ti,st1,h1,h2⟩:=M.bind_some hx
 obtain ⟨hti,rfl⟩:=M.opt_some h1
 obtain ⟨l,st2,h3,h4⟩:=M.bind_some h2
 obtain ⟨rfl,hl⟩:=opnd1_ok h h3
 obtain ⟨v,st3,h5,h6⟩:=M.bind_some h4
 obtain ⟨rfl,us,val,g1,g2,g3,g4⟩:=loadV_ok hE h hti hl h5
 obtain ⟨S',hp⟩:=h.pushs g1
 refine op_value (w':=w) (v:=val) ?_ (dstV_ok (by simpa using hp) g1.length.symm g2 g3 h6)
 rw [execOp,ho]
 simp only [Sem.run_bind,g4]
 rfl
end
end GoV

/- Structs out of their parts. -/
namespace GoV
open Go
section
variable {G:Ctx} {fl:List (L × Value)} {st st':St} {a:Act} {w w':World} {vals:VS} {B:Nat→Nat} {F:FS} {S:Nat→Nat→BS} {E:Env} {P:Program}

theorem setLs_length : ∀ (vs ls : List L) (o : Nat), (setLs ls o vs).length = ls.length
 | [],_,_ => rfl
 | v::vs,ls,o => by simp [setLs,setLs_length vs]
theorem setLs_get : ∀ (vs ls : List L) (o k : Nat), (setLs ls o vs)[k]? = if o ≤ k ∧ k < o + vs.length ∧ k < ls.length then vs[k - o]? else ls[k]?
 | [],ls,o,k => by
   simp only [setLs,List.length_nil,Nat.add_zero]
   rw [if_neg (by omega)]
 | v::vs,ls,o,k => by
   simp only [setLs]
   rw [setLs_get vs]
   simp only [List.length_set,List.length_cons]
   by_cases hk:o=k
   · subst hk
     rw [if_neg (by omega)]
     by_cases hs:o<ls.length
     · rw [if_pos ⟨Nat.le_refl _, by omega, hs⟩]
       simp [hs]
     · rw [if_neg (by omega)]
       simp [hs]
   · by_cases hin : o + 1 ≤ k ∧ k < o + 1 + vs.length ∧ k < ls.length
     · rw [if_pos hin, if_pos (by omega)]
       have e:k - o=(k - (o+1))+1:=by omega
       rw [e,List.getElem?_cons_succ]
     · rw [if_neg hin, if_neg (by omega)]
       simp [hk]
theorem places_ok {fs : Array Field} {ps : List (Nat × Nat × Bool)} (hl : ps.length = fs.size) (h : ∀ (i : Nat) (f : Field) (p : Nat × Nat × Bool), fs[i]? = some f → ps[i]? = some p →
 p.1=f.offset∧∃ q d',P.info? f.type=some q∧q.size=p.2.1∧q.size≠0∧P.underlying f.type=some d'∧isAggD d'=p.2.2) :
 fs.toList.mapM (fun f => (P.info? f.type).map fun i => (f.offset,i.size))=some (ps.map fun p => (p.1,p.2.1)):=by
 have key : ∀ (l : List Field) (ps : List (Nat × Nat × Bool)), ps.length = l.length → (∀ (i : Nat) (f : Field) (p : Nat × Nat × Bool), l[i]? = some f → ps[i]? = some p → p.1 = f.offset ∧ ∃ q, P.info? f.type = some q ∧ q.size = p.2.1) →
  l.mapM (fun f => (P.info? f.type).map fun i => (f.offset,i.size))=some (ps.map fun p => (p.1,p.2.1)):=by
  intro l
  induction l with
  | nil => intro ps hl _; cases ps <;> simp_all
  | cons f l ih =>
    intro ps hl h
    cases ps with
    | nil => simp at hl
    | cons p ps =>
      obtain ⟨h1,q,h2,h3⟩:=h 0 f p rfl rfl
      have:=ih ps (by simpa using hl) (fun i f' p' g1 g2 => h (i+1) f' p' (by simpa using g1) (by simpa using g2))
      simp [List.mapM_cons,h2,this,h1,h3]
 refine key fs.toList ps (by simpa using hl) fun i f p g1 g2 => ?_
 obtain ⟨h1,q,d',h2,h3,_⟩:=h i f p (by simpa using g1) g2
 exact ⟨h1,q,h2,h3⟩
theorem parts_ok (h : Rl G fl st a w vals B F S) {ti : TI} {ps : List (Nat × Nat × Bool)} (htk : ti.tk = .struct ps) : ∀ {parts : List (Nat × Operand)} {ls ls' : List L} {us : List Value} {st' : St},
 Ols st vals B F w ls us→Ones us→(partsLs E ti parts ls).exec st=some (ls',st') →
 st'=st∧∃ us',Ols st vals B F w ls' us'∧Ones us'∧Instr.fill ((ps.map fun p => (p.1,p.2.1)).toArray[·]?) us.toArray (parts.map fun p => (p.1,a.eval p.2))=some us'.toArray
 | [],ls,ls',us,st',ho,hone,hx => by
   simp only [partsLs] at hx
   obtain ⟨rfl,hst⟩:=M.pure_some hx
   exact ⟨hst,us,ho,hone,rfl⟩
 | (f,x)::r,ls,ls',us,st',ho,hone,hx => by
   simp only [partsLs] at hx
   obtain ⟨n,st1,h1,h2⟩:=M.bind_some hx
   obtain ⟨hn,hst1⟩:=M.opt_some h1
   rw [hst1] at h2
   obtain ⟨v,st2,h3,h4⟩:=M.bind_some h2
   obtain ⟨hst2,vs,hols,hv,hvone⟩:=opnd_ok h h3
   rw [hst2] at h4
   obtain ⟨_,st3,h5,h6⟩:=M.bind_some h4
   obtain ⟨hsh,hst3⟩:=M.must_some h5
   rw [hst3] at h6
   obtain ⟨_,st4,h7,h8⟩:=M.bind_some h6
   obtain ⟨hsz,hst4⟩:=M.must_some h7
   rw [hst4] at h8
   obtain ⟨_,st5,h9,h10⟩:=M.bind_some h8
   obtain ⟨hle,hst5⟩:=M.must_some h9
   rw [hst5] at h10
   have hsz:v.ls.length=n.2.1:=by simpa using hsz
   have hle:=of_decide_eq_true hle
   have hcells:(a.eval x).cells=vs.toArray:=hv.cells hvone (by simpa using hsh)
   have hpn:ps[f]?=some n:=by
    unfold fieldOff at hn
    rw [htk] at hn
    exact hn
   -- the step
   obtain ⟨g1,g2⟩:=Go.Great.foldl_set n.1 vs 0 us.toArray
   generalize hr:(vs.zipIdx 0).foldl (fun cs (x:Value × Nat) => cs.setIfInBounds (n.1+x.2) x.1) us.toArray=row at g1 g2
   have hlen:us.length=ls.length:=ho.length
   have hlen2:vs.length=v.ls.length:=hols.length
   have hget:∀ k:Nat,row.toList[k]?=if n.1≤k∧k<n.1+vs.length∧k<us.length then vs[k - n.1]? else us[k]?:=by
    intro k
    have:=g2 k
    simp only [Nat.add_zero,List.size_toArray] at this
    simpa using this
   have ho':Ols st vals B F w (setLs ls n.1 v.ls) row.toList:=by
    refine .of (by rw [setLs_length]; simp [g1,hlen]) fun k l u hk hu => ?_
    rw [setLs_get] at hk
    rw [hget,hlen,hlen2] at hu
    split at hk
    · rename_i hc
      rw [if_pos hc] at hu
      exact hols.get hk hu
    · rename_i hc
      rw [if_neg hc] at hu
      exact ho.get hk hu
   have hone':Ones row.toList:=by
    intro u hu
    obtain ⟨k,hk⟩:=List.mem_iff_getElem?.1 hu
    rw [hget] at hk
    split at hk
    · exact hvone u (List.mem_of_getElem? hk)
    · exact hone u (List.mem_of_getElem? hk)
   obtain ⟨e1,us',e2,e3,e4⟩:=parts_ok h htk ho' hone' h10
   refine ⟨e1,us',e2,e3, ?_⟩
   simp only [List.map_cons,Instr.fill]
   have hpl:(ps.map fun p => (p.1,p.2.1)).toArray[f]?=some (n.1,n.2.1):=by simp [hpn]
   simp only [hpl,hcells]
   rw [if_neg (by simp; omega)]
   rw [← e4]
   congr 1
   rw [← hr]
   simp
theorem build_ok (hE : EnvOK P E) (h : Rl G [] st a w vals B F S) {o : Oper} {t : TypeId} {ps : Array (Nat × Operand)} (ho : o.op = .build t ps)
 {u : Unit} (hx : (do
  let ti ← M.opt (E.ti t)
  M.check (isStr ti)
  let ls ← partsLs E ti ps.toList ti.zs
  dstV o.dst ⟨.agg,ls⟩:M Unit).exec st=some (u,st')):OpOK P o a w fun a' w' => Rel G [] st' a' w':=by
 obtain ⟨ti,st1,h1,h2⟩:=M.bind_some hx
 obtain ⟨hti,rfl⟩:=M.opt_some h1
 obtain ⟨_,st2,h3,h4⟩:=M.bind_some h2
 obtain ⟨hag,rfl⟩:=M.must_some h3
 obtain ⟨ls,st3,h5,h6⟩:=M.bind_some h4
 obtain ⟨q,hq,hs1,hb0,hb1,z,hz,hzc,hz1,hzl,hzr,hzT⟩:=(hE.ti t ti hti).info
 obtain ⟨d,hd,hda,hk⟩:=(hE.ti t ti hti).und
 have hzo:=zs_ols (st:=st2) (vals:=vals) (B:=B) (F:=F) (w:=w) (by rw [hzl,hzc]) hzr
 have hzone:=(hE.ti t ti hti).ones q z hq hz
 cases htk:ti.tk with
 | struct pl =>
   rw [htk] at hk
   obtain ⟨fs,rfl,hl,hf⟩:=hk
   obtain ⟨rfl,us,g1,g2,g3⟩:=parts_ok h htk hzo hzone h5
   obtain ⟨S',hp⟩:=h.pushs g1
   refine op_value (w':=w) (v:=.agg us.toArray) ?_ (dstV_ok (by simpa using hp) g1.length.symm (show VR .agg us (.agg us.toArray) from rfl) g2 h6)
   have hb:P.built t ((ps.map fun (i,x) => (i,a.eval x)).toList)=some us.toArray:=by
    unfold Program.built
    simp only [hq,hd,hz,places_ok hl hf]
    rw [← g3]
    simp
   rw [execOp,ho]
   simp only [Sem.run_bind,run_build w t _ _ hb]
   rfl
 | _ => simp [isStr,htk] at hag
end
end GoV

/- Stores. -/
namespace GoV
open Go
section
variable {G:Ctx} {fl:List (L × Value)} {st st':St} {a:Act} {w w':World} {vals:VS} {B:Nat→Nat} {F:FS} {S:Nat→Nat→BS} {E:Env} {P:Program}

theorem Rl.cv_box (h : Rl G fl st a w vals B F S) (hf : ∀ b o u, F b o → cellAt w b o = some u → cellAt w' b o = some u) (hs : ∀ i k b, S i (k + 1) b → w'.heap[b]? = w.heap[b]?)
 {p:Pl} {t:Ty} {n:Nat} {hv:Value} (hp:PlHd st vals w p t n hv):PlHd st vals w' p t n hv:=by
 obtain ⟨c,o,t0,x0,h0,hc,hl,hu,hm⟩:=hp
 refine ⟨c,o,t0,x0,h0,hc,hl,hu, ?_⟩
 obtain ⟨pr,pk,ps⟩:=p
 cases ps with
 | none => exact hm
 | some q =>
   obtain ⟨j,i⟩:=q
   obtain ⟨e,o',y,b,off,C,g1,g2,g3,rfl,rfl⟩:=hm
   refine ⟨e,o',y,b,off,C,g1,g2,g3,rfl, ?_⟩
   obtain ⟨h1,u,h2⟩:=h.row_cell (r:=pr) (k:=pk) hc hl hu g1 (getL_lt g2)
   simp only [cv,h2]
   rcases h1 with h1 | h1
   · rw [cellAt_of_heap (hs _ _ _ h1),h2]
   · rw [hf _ _ _ h1 h2]
theorem putN_ok {r : Nat} : ∀ {vs : List L} {o : Nat} {st st' : St} {c : Cell} {u : Unit}, st[r]? = some c → (putN r o vs).exec st = some (u, st') →
 ∃ c', st' = st.set r c' ∧ c'.ck = c.ck ∧ c'.pin = c.pin ∧ c'.dl = c.dl ∧ c'.dp = c.dp ∧ c'.es = c.es ∧ c'.ls = setLs c.ls o vs ∧
   (∀ k,c.ds.testBit k=true→c'.ds.testBit k=true)∧∀ k,o≤k→k<o+vs.length→c'.ds.testBit k=true
 | [],o,st,st',c,u,hc,hx => by
   simp only [putN] at hx
   obtain ⟨_,rfl⟩:=M.pure_some hx
   refine ⟨c, ?_,rfl,rfl,rfl,rfl,rfl,rfl,fun _ h => h,fun k h1 h2 => by simp at h2; omega⟩
   apply List.ext_getElem?
   intro i
   rw [get_set (get_lt hc)]
   split
   · rename_i e; subst e; exact hc
   · rfl
 | v::vs,o,st,st',c,u,hc,hx => by
   simp only [putN] at hx
   obtain ⟨_,st1,h1,h2⟩:=M.bind_some hx
   obtain ⟨c1,hc1,hlt,hst⟩:=M.writeL_some h1
   rw [hc] at hc1
   obtain rfl:=Option.some.inj hc1
   have hc':st1[r]?=some (c.setL o v true 0):=by rw [hst,get_set (get_lt hc)]; simp
   obtain ⟨c',e1,e2,e3,e4,e5,e6,e7,e8,e9⟩:=putN_ok hc' h2
   refine ⟨c',by rw [e1,hst]; simp,e2,e3,e4,e5, ?_, ?_,fun k hk => e8 k (by simp [Cell.setL,hk]),fun k h1 h2 => ?_⟩
   · rw [e6]; simp [Cell.setL,esUp_zero]
   · rw [e7]; rfl
   · by_cases e : k = o
     · subst e
       exact e8 k (by simp [Cell.setL,testBit_bit])
     · exact e9 k (by omega) (by simp at h2; omega)
def rowOf (old:List Value) (o:Nat) (us:List Value):List Value:=old.take o ++ us ++ old.drop (o+us.length)
theorem rowOf_length {old us:List Value} {o:Nat} (h:o+us.length≤old.length):(rowOf old o us).length=old.length:=by
 simp only [rowOf,List.length_append,List.length_take,List.length_drop]
 omega
theorem rowOf_get {old us:List Value} {o k:Nat} (h:o+us.length≤old.length):(rowOf old o us)[k]?=if o≤k∧k<o+us.length then us[k - o]? else old[k]?:=by
 have hm:min o old.length=o:=by omega
 simp only [rowOf]
 by_cases h1:k<o
 · rw [List.append_assoc,List.getElem?_append_left (by simp; omega),if_neg (by omega),List.getElem?_take,if_pos h1]
 · by_cases h2 : k < o + us.length
   · rw [if_pos (by omega), List.append_assoc, List.getElem?_append_right (by simp; omega), List.getElem?_append_left (by simp; omega)]
     simp [hm]
   · rw [if_neg (by omega), List.getElem?_append_right (by simp; omega), List.getElem?_drop]
     congr 1
     simp only [List.length_append,List.length_take,hm]
     omega
theorem Ones.rowOf {old us:List Value} {o:Nat} (h1:Ones old) (h2:Ones us):Ones (GoV.rowOf old o us):=by
 intro u hu
 simp only [GoV.rowOf,List.mem_append] at hu
 rcases hu with (hu | hu) | hu
 · exact h1 u (List.mem_of_mem_take hu)
 · exact h2 u hu
 · exact h1 u (List.mem_of_mem_drop hu)
theorem PlHd.revals {vals':VS} {p:Pl} {t:Ty} {n:Nat} {hv:Value} (h:PlHd st vals w p t n hv) (hv':(vals' p.r)[p.k]?=(vals p.r)[p.k]?):PlHd st vals' w p t n hv:=by
 obtain ⟨c,o,t0,x0,h0,hc,hl,hu,hm⟩:=h
 exact ⟨c,o,t0,x0,h0,hc,hl,hv'.trans hu,hm⟩
structure OnlyAt (w w' : World) (b : Nat) : Prop where
 heap:∀ b',b'≠b→w'.heap[b']?=w.heap[b']?
 os:w'.os=w.os
 tape:w'.tape=w.tape
 out:w'.output=w.output
 size:w'.heap.size=w.heap.size
theorem Rl.storeBox {vs : List L} {us : List Value} (h : Rl G (vs.zip us) st a w vals B F S) (hlen : vs.length = us.length) {r o : Nat} {c c' : Cell} (hc : st[r]? = some c) (hck : c.ck = .box false)
 (hle:o+vs.length≤c.ls.length) (hone:Ones us) (k1:c'.ck=c.ck) (k2:c'.pin=c.pin) (k3:c'.dl=c.dl) (k4:c'.dp=c.dp) (k5:c'.es=c.es) (k6:c'.ls=setLs c.ls o vs)
 (k7:∀ k,c.ds.testBit k=true→c'.ds.testBit k=true) (k8:∀ k,o≤k→k<o+vs.length→c'.ds.testBit k=true)
 (hw:OnlyAt w w' (B r)) (hb:Blk w' (B r) (rowOf (vals r) o us).toArray) :
 Rl G [] (st.set r c') a w' (fun i => if i = r then rowOf (vals r) o us else vals i) B F
  (fun i k => if i=r∧o+1≤k∧k<o+1+vs.length then S st.length (k - o) else if i=st.length then (fun _ => False) else S i k):=by
 have hlt:=get_lt hc
 have hcell:=h.cell r c hc
 unfold CellOK at hcell
 rw [hck] at hcell
 obtain ⟨g1,g2,g3,g4,g5,g6⟩:=hcell
 have hfz:∀ b q u,F b q→cellAt w b q=some u→cellAt w' b q=some u:=by
  intro b q u hF hu
  have hne:b≠B r:=fun e => g5 _ g4 q (e ▸ hF)
  rw [cellAt_of_heap (hw.heap b hne)]
  exact hu
 have hS:∀ i k b,S i (k+1) b→w'.heap[b]?=w.heap[b]?:=by
  intro i k b hb
  refine hw.heap b fun e => ?_
  subst e
  exact h.disj i (k+1) r 0 _ (by simp) hb g4
 have hle':o+us.length≤(vals r).length:=by omega
 have hcl:CellLe c c':=by
  refine ⟨fun z hz => .inr ⟨z,k1.trans hz⟩,fun hd => k3.trans hd,fun hd => k4.trans hd,k7,fun k i hk => by rw [k5]; exact hk,.inr fun k => ?_⟩
  by_cases hin:o≤k∧k<o+vs.length
  · exact .inl (k8 k hin.1 hin.2)
  · refine .inr (.inl ?_)
    rw [k6,setLs_get,if_neg (by omega)]
 -- links: first the slot,then the values,then the memory
 have link:∀ l u,LinkOK st vals B w l u→LinkOK (st.set r c') (fun i => if i=r then rowOf (vals r) o us else vals i) B w' l u:=by
  have head:∀ (p:Pl) t n hv,PlHd st vals w p t n hv→Gone (st.set r c') p∨PlHd (st.set r c') (fun i => if i=r then rowOf (vals r) o us else vals i) w' p t n hv:=by
   intro p t n hv hp
   by_cases hin:p.r=r∧o≤p.k∧p.k<o+vs.length
   · obtain ⟨e, h1, h2⟩ := hin
     exact .inl ⟨c',by rw [e,get_set hlt]; simp,.inr (.inl (k8 _ h1 h2))⟩
   · refine ((h.cv_box hfz hS hp).set hc hcl).imp id fun hp' => hp'.revals ?_
     by_cases e:p.r=r
     · rw [if_pos e,rowOf_get hle',if_neg (by omega),e]
     · rw [if_neg e]
  intro l u hk
  cases l with
  | lent p rg =>
    rcases hk with hk | ⟨t,n,hv,hk,hu⟩
    · exact .inl (hk.set hc hcl)
    · exact (head p t n hv hk).imp id fun hk => ⟨t,n,hv,hk,hu⟩
  | eptr p j i =>
    rcases hk with hk | ⟨t,n,b,off,C,hk,hu⟩
    · exact .inl (hk.set hc hcl)
    · exact (head p t n _ hk).imp id fun hk => ⟨t,n,b,off,C,hk,hu⟩
  | ptr q i => exact LinkOK.set (w:=w') hc hcl (show LinkOK st _ B w' (.ptr q i) u from hk)
  | _ => trivial
 have hlen':(st.set r c').length=st.length:=by simp
 have hrl:r≠st.length:=by omega
 have same:∀ i k,Same F (S i (k+1)) w w':=fun i k => ⟨hfz,hS i k⟩
 refine ⟨by rw [hlen']; exact h.sz, h.df, fun i q hq => ?_, fun i q k l u hq hl hu => ?_, fun k l u hf => by simp at hf, fun i k i' k' b hne hb1 hb2 => ?_, fun i k b hb1 => ?_,
  fun b q hF => by rw [hw.size]; exact h.fz b q hF,fun b q hF => ⟨(h.f0 b q hF).1,fun v hv => hfz b q v (h.f0 b q hF).1 ((h.f0 b q hF).2 v hv)⟩,fun b hb1 => ⟨(h.un b hb1).1, ?_⟩,
  ⟨hw.os.trans h.wo.1,hw.tape.trans h.wo.2.1,hw.out.trans h.wo.2.2.1,by rw [hw.size]; exact h.wo.2.2.2⟩,fun i q hq hp => ?_⟩
 · rw [get_set hlt] at hq
   split at hq
   · rename_i e; subst e
     obtain rfl:=Option.some.inj hq
     simp only [if_true,if_neg hrl,if_neg (show ¬ (True∧o+1≤0∧0<o+1+vs.length) by omega)]
     unfold CellOK
     rw [k1,hck]
     exact ⟨by rw [rowOf_length hle',k6,setLs_length]; exact g1,g2,hb,g4,g5,g6.rowOf hone⟩
   · rename_i e
     have hi:=get_lt hq
     have e':¬ (i=r):=fun x => e x.symm
     simp only [if_neg e',if_neg (show ¬ (i=st.length) by omega),if_neg (show ¬ (i=r∧o+1≤0∧0<o+1+vs.length) by omega)]
     refine (h.cell i q hq).stable ⟨hfz,fun b hb1 => hw.heap b fun x => ?_⟩ (.refl _ _)
     subst x
     exact h.disj i 0 r 0 _ (by simp; omega) hb1 g4
 · rw [get_set hlt] at hq
   split at hq
   · rename_i e; subst e
     obtain rfl:=Option.some.inj hq
     simp only [if_true,if_neg hrl] at hu ⊢
     rw [k6,setLs_get] at hl
     rw [rowOf_get hle'] at hu
     by_cases hin:o≤k∧k<o+vs.length
     · obtain ⟨hin1, hin2⟩ := hin
       rw [if_pos (show o≤k∧k<o+vs.length∧k<c.ls.length from ⟨hin1,hin2,by omega⟩)] at hl
       rw [if_pos (show o≤k∧k<o+us.length from ⟨hin1,by omega⟩)] at hu
       rw [if_pos ⟨trivial,by omega,by omega⟩]
       have hz:(vs.zip us)[k - o]?=some (l,u):=by rw [List.getElem?_zip_eq_some]; exact ⟨hl,hu⟩
       obtain ⟨m1,m2⟩:=h.fleaf _ _ _ hz
       rw [show k+1 - o=k - o+1 by omega]
       exact ⟨m1.stable (same _ _) (.refl _ _),link _ _ m2⟩
     · rw [if_neg (show ¬ (o ≤ k ∧ k < o + vs.length ∧ k < c.ls.length) by omega)] at hl
       rw [if_neg (show ¬ (o≤k∧k<o+us.length) by omega)] at hu
       rw [if_neg (by omega)]
       obtain ⟨m1,m2⟩:=h.leaf r c k l u hc hl hu
       exact ⟨m1.stable (same _ _) (.refl _ _),link _ _ m2⟩
   · rename_i e
     have hi:=get_lt hq
     have e':¬ (i=r):=fun x => e x.symm
     simp only [if_neg e'] at hu
     rw [if_neg (by omega),if_neg (by omega)]
     obtain ⟨m1,m2⟩:=h.leaf i q k l u hq hl hu
     exact ⟨m1.stable (same _ _) (.refl _ _),link _ _ m2⟩
 · split at hb1 <;> rename_i q1
   · split at hb2 <;> rename_i q2
     · exact h.disj _ _ _ _ b (fun e => hne (by simp only [Prod.mk.injEq] at e ⊢; omega)) hb1 hb2
     · split at hb2
       · exact hb2
       · rename_i q3
         exact h.disj _ _ _ _ b (fun e => q3 (by simp only [Prod.mk.injEq] at e; omega)) hb1 hb2
   · split at hb1
     · exact hb1.elim
     · rename_i q3
       split at hb2 <;> rename_i q2
       · exact h.disj _ _ _ _ b (fun e => q3 (by simp only [Prod.mk.injEq] at e; omega)) hb1 hb2
       · split at hb2
         · exact hb2
         · exact h.disj _ _ _ _ b hne hb1 hb2
 · split at hb1
   · rw [hw.size]; exact h.sub _ _ b hb1
   · split at hb1
     · exact hb1.elim
     · rw [hw.size]; exact h.sub _ _ b hb1
 · refine (hw.heap b fun x => ?_).trans (h.un b hb1).2
   subst x
   exact (h.sub r 0 _ g4).2.1 hb1
 · rw [get_set hlt] at hq
   split at hq
   · rename_i e; subst e
     obtain rfl:=Option.some.inj hq
     exact h.pin r c hc (k2 ▸ hp)
   · exact h.pin i q hq hp
end
end GoV

/- A leaf is shared from now on. -/
namespace GoV
open Go
section
variable {G:Ctx} {fl:List (L × Value)} {st st':St} {a:Act} {w w':World} {vals:VS} {B:Nat→Nat} {F:FS} {S:Nat→Nat→BS} {E:Env} {P:Program}

theorem freezeAt_ok (h : Rl G fl st a w vals B F S) {p : Pl} {u : Unit} (hx : (freezeAt p).exec st = some (u, st')) :
 ∃ F' S',Rl G fl st' a w vals B F' S'∧Keeps vals B w st st'∧(∀ b o,F b o→F' b o)∧(∀ i k b,S' i k b→S i k b):=by
 simp only [freezeAt] at hx
 obtain ⟨q,st1,h1,h2⟩:=M.bind_some hx
 obtain ⟨c,l,hc,hl,rfl,rfl⟩:=M.leafAt_some h1
 simp only at h2
 have step : ∀ {o o' : Fl} {t : Ty} {x : List t.C}, l = .d o (.sl t) x → o ≠ .fro → o.le o' = true → (M.writeL p.r p.k (.d o' (.sl t) x) false 0).exec st1 = some (u, st') →
  ∃ F' S',Rl G fl st' a w vals B F' S'∧Keeps vals B w st1 st'∧(∀ b o,F b o→F' b o)∧(∀ i k b,S' i k b→S i k b):=by
  intro o o' t x e ho hle h3
  subst e
  obtain ⟨c',hc',_,rfl⟩:=M.writeL_some h3
  rw [hc] at hc'
  obtain rfl:=Option.some.inj hc'
  obtain ⟨hv,hu⟩:=h.val_at hc hl
  obtain ⟨F',S0',hless,hrep⟩:=(h.leaf _ _ _ _ _ hc hl hu).1.co hle
  have hleaf:LeafLe false 0 (some (.d o (.sl t) x)) (some (.d o' (.sl t) x)):=.inr (.inr (.inr (.inr ⟨o,o',t,x,x,.inl rfl,.inl rfl,rfl,.refl _ _ _⟩)))
  exact ⟨F',_,h.coSlot hc hl hu hless (h.box_false hc hl ho) hrep trivial hleaf,.set hc (.leaf hl hleaf),hless.up,fun i k b hb => by
   by_cases e:i=p.r∧k=p.k+1
   · obtain ⟨rfl,rfl⟩:=e; rw [upS_self] at hb; exact hless.sub b hb
   · rw [upS_ne e] at hb; exact hb⟩
 split at h2
 · obtain ⟨_, rfl⟩ := M.pure_some h2
   exact ⟨F,S,h,.refl _ _ _ _,fun _ _ h => h,fun _ _ _ h => h⟩
 · rename_i o t x hnf
   have hnf':o≠.fro:=fun e => hnf e
   split at h2
   · exact step rfl hnf' (by cases o <;> rfl) h2
   · split at h2
     · rename_i e
       exact step rfl hnf' (by cases o <;> first | rfl | simp [Fl.el] at e) h2
     · obtain ⟨_, rfl⟩ := M.pure_some h2
       exact ⟨F,S,h,.refl _ _ _ _,fun _ _ h => h,fun _ _ _ h => h⟩
 · exact (M.fail_some h2).elim
theorem Fresh.setL {c:Cell} {p:Pl} {l:L} (h:Fresh c p):Fresh (c.setL p.k l false 0) p:=by
 obtain ⟨h1,h2,h3⟩:=h
 exact ⟨h1,by simpa [Cell.setL,bit] using h2,by simpa [Cell.setL,esUp_zero] using h3⟩
theorem freezeAt_rep (h : Rl G fl st a w vals B F S) {p : Pl} {o : Fl} {t : Ty} {x : List t.C} (hpl : (place p).exec st = some (.d o (.sl t) x, st)) {u : Unit}
 (hx:(freezeAt p).exec st=some (u,st')) :
 ∃ F' S',Rl G fl st' a w vals B F' S'∧Keeps vals B w st st'∧(∀ b o,F b o→F' b o)∧(place p).exec st'=some (.d .fro (.sl t) x,st'):=by
 obtain ⟨F',S',h1,h2,h3,_⟩:=freezeAt_ok h hx
 refine ⟨F',S',h1,h2,h3, ?_⟩
 obtain ⟨_,c,l0,hc,hf,hl,hs⟩:=place_ok hpl
 simp only [freezeAt] at hx
 obtain ⟨q,st1,g1,g2⟩:=M.bind_some hx
 obtain ⟨c1,l1,hc1,hl1,rfl,hst⟩:=M.leafAt_some g1
 rw [hst] at g2
 rw [hc] at hc1
 obtain rfl:=Option.some.inj hc1
 rw [hl] at hl1
 obtain rfl:=Option.some.inj hl1
 simp only at g2
 obtain ⟨pr,pk,ps⟩:=p
 have upd:∀ {l':L},(M.writeL pr pk l' false 0).exec st=some (u,st')→subOf l' ps=some (.d .fro (.sl t) x)→(place ⟨pr,pk,ps⟩).exec st'=some (.d .fro (.sl t) x,st'):=by
  intro l' hw hs'
  obtain ⟨c2,hc2,hlt,rfl⟩:=M.writeL_some hw
  rw [hc] at hc2
  obtain rfl:=Option.some.inj hc2
  exact place_of (c:=c.setL pk l' false 0) (l0:=l') (by rw [get_set (get_lt hc)]; simp) hf.setL (by simp [Cell.setL,get_lt hl]) hs'
 cases ps with
 | none =>
   unfold subOf at hs
   split at hs
   · rename_i o1 t1 x1 _
     simp only [Option.some.injEq,L.d.injEq,Ty.sl.injEq] at hs
     obtain ⟨rfl,rfl,hs⟩:=hs
     cases hs
     split at g2
     · rename_i heq
       cases heq
       obtain ⟨_,rfl⟩:=M.pure_some g2
       exact hpl
     · rename_i heq
       cases heq
       exact upd g2 rfl
     · exact (M.fail_some g2).elim
   · rename_i hh; cases hh
   · cases hs
 | some q =>
   obtain ⟨j,i⟩:=q
   unfold subOf at hs
   split at hs
   · rename_i hh; cases hh
   · rename_i o1 T x1 hh
     simp only [Option.some.injEq,Prod.mk.injEq] at hh
     obtain ⟨rfl,rfl⟩:=hh
     split at hs
     · rename_i e he
       split at hs
       · rename_i o2 t2 x2 hg
         simp only [Option.some.injEq,L.d.injEq,Ty.sl.injEq] at hs
         obtain ⟨rfl,rfl,hs⟩:=hs
         cases hs
         have hfl:=getL_fl' hg
         by_cases hd:o1.el=.deep
         · have g2':(M.writeL pr pk (.d .sha (.sl T) x1) false 0).exec st=some (u,st'):=by
            cases o1 with
            | deep => simpa [Fl.el] using g2
            | jnk lo hi => simpa [Fl.el] using g2
            | _ => exact absurd hd (by simp [Fl.el])
           refine upd g2' ?_
           have:=getL_fl (o2:=.fro) hg
           simp [subOf,he,this,Fl.el]
         · have hfl' : o2 = .fro := by rw [hfl]; cases o1 <;> first | rfl | exact absurd rfl hd
           have e2:st'=st:=by
            cases o1 with
            | fro => exact (M.pure_some g2).2
            | deep => exact absurd rfl hd
            | jnk lo hi => exact absurd rfl hd
            | sha => exact (M.pure_some (by simpa [Fl.el] using g2)).2
            | frt => exact (M.pure_some (by simpa [Fl.el] using g2)).2
           rw [e2,hpl,hfl']
       · cases hs
     · cases hs
   · cases hs
end
end GoV

/- Stores into boxes. -/
namespace GoV
open Go
section
variable {G:Ctx} {fl:List (L × Value)} {st st':St} {a:Act} {w w':World} {vals:VS} {B:Nat→Nat} {F F':FS} {S:Nat→Nat→BS} {E:Env} {P:Program}

theorem OL.up {l:L} {u:Value} (h:OL st vals B F w l u) (hF:∀ b o,F b o→F' b o):OL st vals B F' w l u :=
 ⟨h.1.stable (.refl _ _ _) ⟨hF,fun _ _ hb _ => hb.elim⟩,h.2⟩
theorem Ols.up : ∀ {ls : List L} {us : List Value}, Ols st vals B F w ls us → (∀ b o, F b o → F' b o) → Ols st vals B F' w ls us
 | [],[],_,_ => trivial
 | _::_,_::_,h,hF => ⟨h.1.up hF,Ols.up h.2 hF⟩
 | [],_::_,h,_ => h.elim
 | _::_,[],h,_ => h.elim
theorem mapF_ok {f : L → M L} (hf : ∀ {fl : List (L × Value)} {st st' : St} {F : FS} {S : Nat → Nat → BS} {l l' : L} {u : Value}, Rl G fl st a w vals B F S → OL st vals B F w l u → (f l).exec st = some (l', st') →
 ∃ F' S',Rl G (fl ++ [(l',u)]) st' a w vals B F' S'∧Keeps vals B w st st'∧∀ b o,F b o→F' b o) :
 ∀ {ls ls' : List L} {us : List Value} {fl : List (L × Value)} {st st' : St} {F : FS} {S : Nat → Nat → BS}, Rl G fl st a w vals B F S → Ols st vals B F w ls us → (mapL f ls).exec st = some (ls', st') →
   ∃ F' S',Rl G (fl ++ ls'.zip us) st' a w vals B F' S'∧Keeps vals B w st st'∧ls'.length=us.length∧∀ b o,F b o→F' b o
 | [],ls',us,fl,st,st',F,S,h,ho,hx => by
   simp only [mapL] at hx
   obtain ⟨rfl,rfl⟩:=M.pure_some hx
   cases us with
   | nil => exact ⟨F,S,by simpa using h,.refl _ _ _ _,rfl,fun _ _ h => h⟩
   | cons => exact ho.elim
 | l::ls,ls',us,fl,st,st',F,S,h,ho,hx => by
   cases us with
   | nil => exact ho.elim
   | cons u us =>
     simp only [mapL] at hx
     obtain ⟨l1,st1,h1,h2⟩:=M.bind_some hx
     obtain ⟨ls1,st2,h3,h4⟩:=M.bind_some h2
     obtain ⟨rfl,rfl⟩:=M.pure_some h4
     obtain ⟨F1,S1,g1,g2,gf⟩:=hf h ho.1 h1
     obtain ⟨F2,S2,g3,g4,g5,g6⟩:=mapF_ok hf g1 (g2.ols (ho.2.up gf)) h3
     exact ⟨F2,S2,by simpa using g3,g2.trans g4,by simp [g5],fun b o hb => g6 b o (gf b o hb)⟩
theorem snapMove_ok (h : Rl G fl st a w vals B F S) {p : Pl} {rg : Option (Nat × Option Nat)} {l' : L} {u : Value} (ho : OL st vals B F w (.lent p rg) u) (hx : (boxL.snapMove p rg).exec st = some (l', st')) :
 ∃ F' S',Rl G (fl ++ [(l',u)]) st' a w vals B F' S'∧Keeps vals B w st st'∧∀ b o,F b o→F' b o:=by
 simp only [boxL.snapMove] at hx
 obtain ⟨l0,st1,h1,h2⟩:=M.bind_some hx
 obtain ⟨hst,c,o,t,x,hv,rfl,hp⟩:=placed h h1
 subst hst
 have hr:=hp.link hp.nd ho.2
 split at h2
 · rename_i T0 x0 heq
   cases heq
   obtain ⟨rfl,rfl⟩:=M.pure_some h2
   have hf:RepF F w (.sl t) x (fun _ => hv):=by
    rcases hp.sf with hs | hs | hs
    · obtain ⟨n1, n2⟩ := hp.root hs
      exact (h.leaf _ _ _ _ _ hp.cell n1 n2).1.1
    · cases hs
    · cases hs
   exact ⟨F,_,h.push (CRep.sl (hf.cut hr)) trivial,.refl _ _ _ _,fun _ _ h => h⟩
 · obtain ⟨_, st2, h3, h4⟩ := M.bind_some h2
   obtain ⟨rfl,rfl⟩:=M.pure_some h4
   obtain ⟨F',S',g1,g2,g3,g4⟩:=freezeAt_rep h h1 h3
   obtain ⟨_,c',o',t',x',hv',heq,hp'⟩:=placed g1 g4
   simp only [L.d.injEq,Ty.sl.injEq] at heq
   obtain ⟨rfl,rfl,heq⟩:=heq
   cases heq
   have hr':=hp'.link hp'.nd (g2.link _ _ ho.2)
   exact ⟨F',_,g1.push (CRep.sl ((hp'.fro rfl).cut hr')) trivial,g2,g3⟩
theorem boxL_ok {soft : Bool} (h : Rl G fl st a w vals B F S) {l l' : L} {u : Value} (ho : OL st vals B F w l u) (hx : (boxL soft l).exec st = some (l', st')) :
 ∃ F' S',Rl G (fl ++ [(l',u)]) st' a w vals B F' S'∧Keeps vals B w st st'∧∀ b o,F b o→F' b o:=by
 have mv:∀ {l},OL st vals B F w l u→(moveL l).exec st=some (l',st')→∃ F' S',Rl G (fl ++ [(l',u)]) st' a w vals B F' S'∧Keeps vals B w st st'∧∀ b o,F b o→F' b o:=by
  intro l ho hx
  obtain ⟨S',g1,g2⟩:=moveL_ok h ho hx
  exact ⟨F,S',g1,g2,fun _ _ h => h⟩
 unfold boxL at hx
 split at hx
 · split at hx
   · exact snapMove_ok h ho hx
   · obtain ⟨l0, st1, h1, h2⟩ := M.bind_some hx
     obtain ⟨hst,_⟩:=placed h h1
     subst hst
     obtain ⟨rfl,rfl⟩:=M.pure_some h2
     exact ⟨F,_,h.push ho.1 ho.2,.refl _ _ _ _,fun _ _ h => h⟩
 · obtain ⟨hd, s1, h1, h2⟩ := M.bind_some hx
   obtain ⟨c,hc,rfl,hs1⟩:=M.peek_some h1
   rw [hs1] at h2
   split at h2
   · obtain ⟨l0, st1, h3, h4⟩ := M.bind_some h2
     obtain ⟨hst,_⟩:=placed h h3
     subst hst
     obtain ⟨rfl,rfl⟩:=M.pure_some h4
     exact ⟨F,_,h.push ho.1 ho.2,.refl _ _ _ _,fun _ _ h => h⟩
   · split at h2
     · exact snapMove_ok h ho h2
     · exact mv ho h2
 · obtain ⟨rfl, rfl⟩ := M.pure_some hx
   exact ⟨F,_,h.push trivial trivial,.refl _ _ _ _,fun _ _ h => h⟩
 · split at hx
   · unfold boxL.softL at hx
     split at hx
     · exact snapMove_ok h ho hx
     · exact mv ho hx
   · exact mv ho hx
theorem only_setRow (w : World) (g : Nat) (cs : Array Value) : OnlyAt w (w.setRow g cs) g where
 heap b hb:=setRow_other w g b cs hb
 os:=rfl
 tape:=rfl
 out:=rfl
 size:=by simp
theorem store_run (hE : EnvOK P E) {t : TypeId} {ti : TI} (ht : E.ti t = some ti) {b o : Nat} {old us : List Value} {v : Value} (hb : Blk w b old.toArray) (hv : v.cells = us.toArray) (hn : us.length = ti.n)
 (hle:o+us.length≤old.length) (hone:Ones us) :
 (Instr.storeAt t (.pointer (some ⟨b,o,none⟩)) v).run P w=.ok () (w.setRow b (rowOf old o us).toArray)∧Blk (w.setRow b (rowOf old o us).toArray) b (rowOf old o us).toArray:=by
 obtain ⟨g,hg,hgs,_⟩:=(hE.ti t ti ht).info
 obtain ⟨ty,hb⟩:=hb
 have h1:=run_storeCells_at (P:=P) b o ty us 0 old.toArray w hb (by simpa using hle) hone
 refine ⟨?_,ty, ?_⟩
 · have hz : ¬ (v.cells.size ≠ g.size) := by rw [hv, hgs]; simp [hn]
   simp only [Instr.storeAt,Instr.sureAddr,Sem.run_bind,Sem.run_pure,Result.andThen_ok,storeVar,sizeOf_run hg,if_neg hz,hv]
   simpa [rowOf,show us.length=g.size by rw [hn,hgs]] using h1
 · rw [setRow_heap w b old.toArray _ ty (0,0) hb]
theorem LinkOK.ptr_box {r o:Nat} {c:Cell} {u:Value} (hk:LinkOK st vals B w (.ptr r o) u) (hc:st[r]?=some c) (hd:c.dp=false):u=.pointer (some ⟨B r,o,none⟩):=by
 obtain ⟨c',hc',hk⟩:=hk
 rw [hc] at hc'
 obtain rfl:=Option.some.inj hc'
 rcases hk with hk | ⟨_,_,hu⟩
 · rw [hk] at hd; cases hd
 · exact hu
theorem storePtr_ok (hE : EnvOK P E) (h : Rl G [] st a w vals B F S) {t : TypeId} {ti : TI} (ht : E.ti t = some ti) {soft : Bool} {r o : Nat} {ls : List L} {us : List Value} {pv v : Value}
 (hp:OL st vals B F w (.ptr r o) pv) (hols:Ols st vals B F w ls us) (hone:Ones us) (hv:v.cells=us.toArray) (hn:ls.length=ti.n) {u:Unit}
 (hx:(storePtr soft ti r o ls).exec st=some (u,st')) :
 ∃ w',(Instr.storeAt t pv v).run P w=.ok () w'∧Rel G [] st' a w':=by
 obtain ⟨vs,st1,h1,h2⟩:=M.bind_some hx
 obtain ⟨F',S',g1,g2,g3,g4⟩:=mapF_ok (fun h ho hx => boxL_ok h ho hx) h hols h1
 obtain ⟨q,st2,h3,h4⟩:=M.bind_some h2
 obtain ⟨c,hc,rfl,hst⟩:=M.peek_some h3
 rw [hst] at h4
 obtain ⟨_,st3,h5,h6⟩:=M.bind_some h4
 obtain ⟨hd,hst3⟩:=M.must_some h5
 rw [hst3] at h6
 simp only [Cell.hd] at h6 hd
 split at h6
 · rename_i hck
   obtain ⟨_,st4,h7,h8⟩:=M.bind_some h6
   obtain ⟨hle,hst4⟩:=M.must_some h7
   rw [hst4] at h8
   have hle:=of_decide_eq_true hle
   have hpv:=(g2.link _ _ hp.2).ptr_box hc (by simpa using hd)
   subst hpv
   have hul:us.length=ti.n:=by rw [hols.length,hn]
   obtain ⟨c',e1,e2,e3,e4,e5,e6,e7,e8,e9⟩:=putN_ok hc h8
   have hcell:=g1.cell r c hc
   unfold CellOK at hcell
   rw [hck] at hcell
   obtain ⟨m1,m2,m3,m4,m5,m6⟩:=hcell
   obtain ⟨n1,n2⟩:=store_run (o:=o) hE ht m3 hv hul (by omega) hone
   refine ⟨_,n1, ?_⟩
   rw [e1]
   exact (Rl.storeBox (vs:=vs) (us:=us) (by simpa using g1) g3 hc hck (by omega) hone e2 e3 e4 e5 e6 e7 e8 e9 (only_setRow _ _ _) n2).rel
 · exact (M.fail_some h6).elim
end
end GoV

/- Stores into elements. -/
namespace GoV
open Go
def upd (cs:Nat→Value) (i:Nat) (u:Value):Nat→Value:=fun j => if j=i then u else cs j
theorem RepF.setL {F:FS} {w:World}:∀ {T:Ty} {e e':T.C} {cs:Nat→Value} {i:Nat} {l:L} {u:Value},RepF F w T e cs→T.setL e i l=some e'→CRep F w (froL l) u→RepF F w T e' (upd cs i u):=by
 intro T
 induction T with
 | int k =>
   intro e e' cs i l u h hs hl
   cases i with
   | succ i => cases l <;> simp [Ty.setL] at hs
   | zero =>
     cases l with
     | d o T x =>
       cases T with
       | int k' =>
         simp only [Ty.setL] at hs
         split at hs
         · rename_i hk
           subst hk
           obtain rfl:=Option.some.inj hs
           simp only [froL] at hl
           cases hl with
           | d _ _ _ _ h2 => simpa [RepF,upd] using h2
         · cases hs
       | _ => simp [Ty.setL] at hs
     | _ => simp [Ty.setL] at hs
 | bool =>
   intro e e' cs i l u h hs hl
   cases i with
   | succ i => cases l <;> simp [Ty.setL] at hs
   | zero =>
     cases l with
     | d o T x =>
       cases T with
       | bool =>
         simp only [Ty.setL] at hs
         obtain rfl:=Option.some.inj hs
         simp only [froL] at hl
         cases hl with
         | d _ _ _ _ h2 => simpa [RepF,upd] using h2
       | _ => simp [Ty.setL] at hs
     | _ => simp [Ty.setL] at hs
 | sl t ih =>
   intro e e' cs i l u h hs hl
   cases i with
   | succ i => cases l <;> simp [Ty.setL] at hs
   | zero =>
     cases l with
     | d o T x =>
       cases T with
       | sl t' =>
         simp only [Ty.setL] at hs
         split at hs
         · rename_i hk
           subst hk
           obtain rfl:=Option.some.inj hs
           simp only [froL] at hl
           cases hl with
           | d _ _ _ _ h2 => exact h2.congr fun j hj => by simp [upd,Ty.size] at hj ⊢; simp [hj]
         · cases hs
       | _ => simp [Ty.setL] at hs
     | nil t' =>
       simp only [Ty.setL] at hs
       split at hs
       · obtain rfl := Option.some.inj hs
         simp only [froL] at hl
         cases hl
         exact ⟨none,0,by simp [upd],by simp,.inl rfl⟩
       · cases hs
     | _ => simp [Ty.setL] at hs
 | pair a b iha ihb =>
   intro e e' cs i l u h hs hl
   simp only [Ty.setL] at hs
   split at hs
   · rename_i hi
     split at hs
     · rename_i y hy
       obtain rfl:=Option.some.inj hs
       refine ⟨iha h.1 hy hl,h.2.congr fun j hj => ?_⟩
       simp only [upd]
       rw [if_neg (by omega)]
     · cases hs
   · rename_i hi
     split at hs
     · rename_i y hy
       obtain rfl:=Option.some.inj hs
       refine ⟨h.1.congr fun j hj => ?_,(ihb h.2 hy hl).congr fun j hj => ?_⟩
       · simp only [upd]
         rw [if_neg (by omega)]
       · simp only [upd]
         by_cases e:j=i - a.size
         · rw [if_pos e,if_pos (by omega)]
         · rw [if_neg e,if_neg (by omega)]
     · cases hs
 | unit => intro e e' cs i l u h hs hl; cases i <;> cases l <;> simp [Ty.setL] at hs
theorem RepD.setL {w : World} : ∀ {T : Ty} {e e' : T.C} {cs : Nat → Value} {i : Nat} {l : L} {u : Value} {S X : BS}, RepD w T e cs S → T.setL e i l = some e' → (∀ y, S y → ¬ X y) →
 (match l with | .d _ (.sl t) x => RepD w (.sl t) x (fun _ => u) X | .d _ (.int k) x => u=.int k x | .d _ .bool x => u=.bool x | .nil _ => u=.slice none 0 0 | _ => False) →
 RepD w T e' (upd cs i u) (fun y => S y∨X y):=by
 intro T
 induction T with
 | pair a b iha ihb =>
   intro e e' cs i l u S X h hs hd hl
   simp only [Ty.setL] at hs
   simp only [RepD] at h ⊢
   obtain ⟨Sa,Sb,h1,h2,h3,ha,hb⟩:=h
   split at hs
   · rename_i hi
     split at hs
     · rename_i y hy
       obtain rfl:=Option.some.inj hs
       refine ⟨fun y => Sa y∨X y,Sb,fun y hy => hy.imp (h1 y) id,fun y hy => .inl (h2 y hy),fun y hy hy' => ?_,iha ha hy (fun y hy => hd y (h1 y hy)) hl,hb.congr fun j hj => ?_⟩
       · rcases hy with hy | hy
         · exact h3 y hy hy'
         · exact hd y (h2 y hy') hy
       · simp only [upd]
         rw [if_neg (by omega)]
     · cases hs
   · rename_i hi
     split at hs
     · rename_i y hy
       obtain rfl:=Option.some.inj hs
       refine ⟨Sa,fun y => Sb y∨X y,fun y hy => .inl (h1 y hy),fun y hy => hy.imp (h2 y) id,fun y hy hy' => ?_,ha.congr fun j hj => ?_,(ihb hb hy (fun y hy => hd y (h2 y hy)) hl).congr fun j hj => ?_⟩
       · rcases hy' with hy' | hy'
         · exact h3 y hy hy'
         · exact hd y (h1 y hy) hy'
       · simp only [upd]
         rw [if_neg (by omega)]
       · simp only [upd]
         by_cases e:j=i - a.size
         · rw [if_pos e,if_pos (by omega)]
         · rw [if_neg e,if_neg (by omega)]
     · cases hs
 | unit => intro e e' cs i l u S X h hs; cases i <;> cases l <;> simp [Ty.setL] at hs
 | int k =>
   intro e e' cs i l u S X h hs hd hl
   cases i with
   | succ i => cases l <;> simp [Ty.setL] at hs
   | zero =>
     cases l with
     | d o T x =>
       cases T with
       | int k' =>
         simp only [Ty.setL] at hs
         split at hs
         · rename_i hk
           subst hk
           obtain rfl:=Option.some.inj hs
           cases o <;> simpa [RepD,upd] using hl
         · cases hs
       | _ => simp [Ty.setL] at hs
     | _ => simp [Ty.setL] at hs
 | bool =>
   intro e e' cs i l u S X h hs hd hl
   cases i with
   | succ i => cases l <;> simp [Ty.setL] at hs
   | zero =>
     cases l with
     | d o T x =>
       cases T with
       | bool =>
         simp only [Ty.setL] at hs
         obtain rfl:=Option.some.inj hs
         cases o <;> simpa [RepD,upd] using hl
       | _ => simp [Ty.setL] at hs
     | _ => simp [Ty.setL] at hs
 | sl t ih =>
   intro e e' cs i l u S X h hs hd hl
   cases i with
   | succ i => cases l <;> simp [Ty.setL] at hs
   | zero =>
     cases l with
     | d o T x =>
       cases T with
       | sl t' =>
         simp only [Ty.setL] at hs
         split at hs
         · rename_i hk
           subst hk
           obtain rfl:=Option.some.inj hs
           have hl':RepD w (.sl t') x (fun _ => u) X:=hl
           exact (hl'.up fun y hy => .inr hy).congr fun j hj => by simp [upd,Ty.size] at hj ⊢; simp [hj]
         · cases hs
       | _ => simp [Ty.setL] at hs
     | nil t' =>
       simp only [Ty.setL] at hs
       split at hs
       · obtain rfl := Option.some.inj hs
         have hl':u=.slice none 0 0:=hl
         exact ⟨none,0,by simp [upd,hl'],by simp,.inl ⟨rfl,rfl⟩⟩
       · cases hs
     | _ => simp [Ty.setL] at hs
end GoV

/- Arguments: what is handed over. -/
namespace GoV
open Go

def Bk (vals:VS) (w:World) (p:Pl) (sz:Nat) (u:Value):Prop :=
 match p.sub with
 | none => (vals p.r)[p.k]?=some u
 | some (j,i) => ∃ b off n C,(vals p.r)[p.k]?=some (.slice (some ⟨b,off,none⟩) n C)∧u=cv w b (off+j * sz) i
section
variable {G:Ctx} {fl:List (L × Value)} {st st':St} {a:Act} {w w':World} {vals vals':VS} {B B':Nat→Nat} {F F':FS} {S:Nat→Nat→BS} {E:Env} {P:Program}

theorem LRep.coL {o:Fl} {l l':L} {v:Value} {S0:BS} (h:LRep F w l v S0) (hc:l.co o=some l'):∃ F' S',Less F F' S0 S'∧LRep F' w l' v S':=by
 unfold L.co at hc
 split at hc
 · split at hc
   · rename_i o' t x hle
     obtain rfl:=Option.some.inj hc
     exact LRep.co hle h
   · cases hc
 · rename_i t
   obtain rfl:=Option.some.inj hc
   have h':CRep F w (.nil t) v:=h
   cases h'
   exact ⟨F,fun _ => False,⟨fun _ _ h => h,fun _ _ h => .inl h,fun _ h => h.elim⟩,LRep.ofNil (S:=fun _ => False) o t⟩
 · cases hc
 · cases hc
 · obtain rfl := Option.some.inj hc
   exact ⟨F,S0,⟨fun _ _ h => h,fun _ _ h => .inl h,fun _ h => h⟩,h⟩
theorem LinkOK.coL {o:Fl} {l l':L} {v:Value} (h:LinkOK st vals B w l v) (hc:l.co o=some l'):LinkOK st vals B w l' v:=by
 unfold L.co at hc
 split at hc
 · split at hc
   · obtain rfl:=Option.some.inj hc; trivial
   · cases hc
 · obtain rfl:=Option.some.inj hc; trivial
 · cases hc
 · cases hc
 · obtain rfl:=Option.some.inj hc; exact h
theorem Rl.coLast {l:L} {u:Value} (h:Rl G (fl ++ [(l,u)]) st a w vals B F S) {o:Fl} {l':L} (hc:L.co o l=some l'):∃ F' S',Rl G (fl ++ [(l',u)]) st a w vals B F' S'∧∀ b o,F b o→F' b o:=by
 have hm:(fl ++ [(l,u)])[fl.length]?=some (l,u):=List.getElem?_concat_length
 obtain ⟨g1,g2⟩:=h.fleaf _ _ _ hm
 obtain ⟨F',S',k1,k2⟩:=g1.coL hc
 have:=h.coFloat hm k1 k2 (g2.coL hc)
 exact ⟨F',_,by simpa using this,k1.up⟩

theorem argL_ok (h : Rl G fl st a w vals B F S) {m : Mode} {k : Nat} {l l' : L} {bk : List (Nat × Pl × Nat)} {u : Value} (ho : OL st vals B F w l u) (hx : (argL m k l).exec st = some ((l', bk), st')) :
 ∃ F' S',Rl G (fl ++ [(l',u)]) st' a w vals B F' S'∧Keeps vals B w st st'∧(∀ b o,F b o→F' b o)∧∀ q,q∈bk→q.1=k∧q.2.1.r<st.length∧Bk vals w q.2.1 q.2.2 u:=by
 have push : ∀ {l' : L} {bk' : List (Nat × Pl × Nat)}, (pure (l', ([] : List (Nat × Pl × Nat))) : M (L × List (Nat × Pl × Nat))).exec st = some ((l', bk'), st') → LRep F w l' u (fun _ => False) → LinkOK st vals B w l' u →
  ∃ F' S',Rl G (fl ++ [(l',u)]) st' a w vals B F' S'∧Keeps vals B w st st'∧(∀ b o,F b o→F' b o)∧∀ q,q∈bk'→q.1=k∧q.2.1.r<st.length∧Bk vals w q.2.1 q.2.2 u:=by
  intro l' bk' hx h1 h2
  obtain ⟨e,rfl⟩:=M.pure_some hx
  obtain ⟨_,rfl⟩:=Prod.mk.inj e
  exact ⟨F,_,h.push h1 h2,.refl _ _ _ _,fun _ _ h => h,by simp⟩
 have pushP : ∀ {l1 : L} {bk' : List (Nat × Pl × Nat)}, (pure (l1, ([] : List (Nat × Pl × Nat))) : M (L × List (Nat × Pl × Nat))).exec st = some ((l', bk'), st') → LRep F w l1 u (fun _ => False) → LinkOK st vals B w l1 u →
  ∃ F' S',Rl G (fl ++ [(l',u)]) st' a w vals B F' S'∧Keeps vals B w st st'∧(∀ b o,F b o→F' b o)∧∀ q,q∈bk'→q.1=k∧q.2.1.r<st.length∧Bk vals w q.2.1 q.2.2 u:=by
  intro l1 bk' hx h1 h2
  have e:=(M.pure_some hx).1
  obtain ⟨rfl,_⟩:=Prod.mk.inj e
  exact push hx h1 h2
 have nil:∀ {o:Fl} {t:Ty},l=.nil t→LRep F w (.d o (.sl t) []) u (fun _ => False):=by
  rintro o t rfl
  have h1:CRep F w (.nil t) u:=ho.1
  cases h1
  exact LRep.ofNil (S:=fun _ => False) o t
 cases l with
 | lent p rg =>
   cases m with
   | sh => exact pushP hx ho.1 ho.2
   | mv o =>
     simp only [argL] at hx
     obtain ⟨x,st1,h1,h2⟩:=M.bind_some hx
     obtain ⟨S1,g1,g2⟩:=steal_ok h ho.2 h1
     obtain ⟨y,st2,h3,h4⟩:=M.bind_some h2
     obtain ⟨hco,rfl⟩:=M.opt_some h3
     obtain ⟨e,rfl⟩:=M.pure_some h4
     obtain ⟨rfl,rfl⟩:=Prod.mk.inj e
     obtain ⟨F',S',k1,k2⟩:=g1.coLast hco
     exact ⟨F',S',k1,g2,k2,by simp⟩
   | ap =>
     simp only [argL] at hx
     obtain ⟨l0,st1,h1,h2⟩:=M.bind_some hx
     obtain ⟨hst,c,o,t,x,hv,rfl,hp⟩:=placed h h1
     rw [hst] at h2
     have hr:=hp.link hp.nd ho.2
     split at h2
     · rename_i T x' heq
       cases heq
       exact pushP h2 (CRep.sl ((hp.fro rfl).cut hr)) trivial
     · rename_i hnf heq1 hsub
       cases heq1
       obtain ⟨_,st2,h3,h4⟩:=M.bind_some h2
       obtain ⟨c',hc',_,rfl⟩:=M.writeL_some h3
       rw [hp.cell] at hc'
       obtain rfl:=Option.some.inj hc'
       obtain ⟨e,rfl⟩:=M.pure_some h4
       obtain ⟨rfl,rfl⟩:=Prod.mk.inj e
       obtain ⟨hl,hu⟩:=hp.root hsub
       simp only [Resl] at hr
       subst hr
       have hno:o≠.fro:=hnf
       have hle:o.le .frt=true:=by cases o <;> first | rfl | exact absurd rfl hno
       obtain ⟨F1,S1,k1,k2⟩:=(h.leaf _ _ _ _ _ hp.cell hl hu).1.co hle
       have hlf:LeafLe false 0 (some (.d o (.sl t) x)) (some (.d .fro (.sl t) x)):=.inr (.inr (.inr (.inr ⟨o,.fro,t,x,x,.inl rfl,.inl rfl,rfl,.refl _ _ _⟩)))
       obtain ⟨S',g1⟩:=h.part (l1:=.d .fro (.sl t) x) (S1:=fun _ => False) (S2:=S1) (u2:=u) (l2:=.d .frt (.sl t) x) hp.cell hl hu ⟨k1.up,k1.to,fun _ h => h.elim⟩ (fun b hb => ⟨k1.sub b hb,id⟩) (h.box_false hp.cell hl hno) (CRep.sl k2.1) trivial hlf k2 trivial
       refine ⟨F1,S',g1,.set hp.cell (.leaf hl hlf),k1.up,fun q hq => ?_⟩
       simp only [List.mem_singleton] at hq
       subst hq
       exact ⟨rfl,get_lt hp.cell,by simp only [Bk,hsub]; exact hu⟩
     · exact (M.fail_some h2).elim
   | io o =>
     simp only [argL] at hx
     obtain ⟨l0,st1,h1,h2⟩:=M.bind_some hx
     obtain ⟨hst,c,hc,hfr,hl⟩:=rootL_ok h1
     rw [hst] at h2
     obtain ⟨_,st2,h3,h4⟩:=M.bind_some h2
     obtain ⟨how,hst2⟩:=M.must_some h3
     rw [hst2] at h4
     obtain ⟨pr,pk,ps⟩:=p
     split at h4
     · rename_i hrg hsub
       simp only at hsub
       subst hsub
       split at h4
       · rename_i o' t x
         obtain ⟨_,st3,h5,h6⟩:=M.bind_some h4
         obtain ⟨hle,hst3⟩:=M.must_some h5
         rw [hst3] at h6
         obtain ⟨_,st4,h7,h8⟩:=M.bind_some h6
         obtain ⟨c',hc',_,rfl⟩:=M.writeL_some h7
         simp only at hc hl hc'
         rw [hc] at hc'
         obtain rfl:=Option.some.inj hc'
         obtain ⟨e,rfl⟩:=M.pure_some h8
         obtain ⟨rfl,rfl⟩:=Prod.mk.inj e
         obtain ⟨hv,hu⟩:=h.val_at hc hl
         have hno:o'≠.fro:=by
          intro e; subst e
          cases o <;> simp [Fl.le,Fl.owned] at hle how
         have huv:u=hv:=by
          have hpl:(place ⟨pr,pk,none⟩).exec st=some (.d o' (.sl t) x,st):=place_of hc hfr hl rfl
          obtain ⟨_,c2,o2,t2,x2,hv2,heq,hp2⟩:=placed h hpl
          have hr:=hp2.link hp2.nd ho.2
          simp only [Resl] at hr
          obtain ⟨_,hu2⟩:=hp2.root rfl
          rw [hu] at hu2
          rw [hr]
          exact (Option.some.inj hu2).symm
         subst huv
         have hlf:LeafLe false 0 (some (.d o' (.sl t) x)) (some .dead):=.inr (.inr (.inl rfl))
         obtain ⟨F1,S1,k1,k2⟩:=(h.leaf _ _ _ _ _ hc hl hu).1.co hle
         obtain ⟨S',g1⟩:=h.part (l1:=.dead) (S1:=fun _ => False) (S2:=S1) (u2:=u) (l2:=.d o (.sl t) x) hc hl hu ⟨k1.up,k1.to,fun _ h => h.elim⟩ (fun b hb => ⟨k1.sub b hb,id⟩) (h.box_false hc hl hno) trivial trivial hlf k2 trivial
         refine ⟨F1,S',g1,.set hc (.leaf hl hlf),k1.up,fun q hq => ?_⟩
         simp only [List.mem_singleton] at hq
         subst hq
         exact ⟨rfl,get_lt hc,hu⟩
       · exact (M.fail_some h4).elim
     · rename_i j i hsub
       simp only at hsub
       subst hsub
       split at h4
       · rename_i T y
         obtain ⟨e,st9,h9,h10⟩:=M.bind_some h4
         obtain ⟨he,hst9⟩:=M.nth_some h9
         rw [hst9] at h10
         · split at h10
           · rename_i t x hg
             obtain ⟨_,st3,h5,h6⟩:=M.bind_some h10
             obtain ⟨hod,hst3⟩:=M.must_some h5
             rw [hst3] at h6
             obtain ⟨_,st4,h7,h8⟩:=M.bind_some h6
             obtain ⟨c',hc',_,rfl⟩:=M.writeL_some h7
             simp only at hc hl hc'
             rw [hc] at hc'
             obtain rfl:=Option.some.inj hc'
             obtain ⟨e9,rfl⟩:=M.pure_some h8
             obtain ⟨rfl,rfl⟩:=Prod.mk.inj e9
             obtain ⟨hv,hu⟩:=h.val_at hc hl
             obtain ⟨hrep,hnof⟩:=(h.leaf _ _ _ _ _ hc hl hu).1
             obtain ⟨X,b,off,C,q1,q2,q3,q4⟩:=hrep.rowHole he hg
             have huv:u=cv w b (off+j * T.size) i:=by
                have hpl:(place ⟨pr,pk,some (j,i)⟩).exec st=some (.d .deep (.sl t) x,st):=place_of hc hfr hl (by simp [subOf,he,hg,Fl.el])
                obtain ⟨_,c2,o2,t2,x2,hv2,heq,hp2⟩:=placed h hpl
                simp only [L.d.injEq,Ty.sl.injEq] at heq
                obtain ⟨rfl,rfl,heq⟩:=heq
                cases heq
                have hr:=hp2.link hp2.nd ho.2
                simp only [Resl] at hr
                obtain ⟨_,_,_,b1,off1,C1,k1,k2⟩:=hp2.inElem hpl hc hl hu
                rw [q1] at k1
                simp only [Value.slice.injEq,Option.some.injEq,Addr.mk.injEq] at k1
                obtain ⟨⟨rfl,rfl,_⟩,_⟩:=k1
                rw [hr,k2]
             have hlf:LeafLe true 0 (some (.d .deep (.sl T) y)) (some (.hole T y j i)):=.inl rfl
             obtain ⟨S', g1⟩ := h.part (F' := F) (l1 := .hole T y j i) (S1 := fun z => S pr (pk + 1) z ∧ ¬ X z) (S2 := X) (u2 := u) (l2 := .d .deep (.sl t) x) hc hl hu ⟨fun _ _ h => h, fun _ _ h => .inl h, fun _ h => h.1⟩
                (fun z hz => ⟨q2 z hz,fun hz' => hz'.2 hz⟩) (h.box_false hc hl (by simp)) ⟨q4,fun z hz => hnof z hz.1⟩ trivial hlf ⟨by rw [huv]; exact q3,fun z hz => hnof z (q2 z hz)⟩ trivial
             refine ⟨F,S',g1,.set hc (.leaf hl hlf),fun _ _ h => h,fun q hq => ?_⟩
             simp only [List.mem_singleton] at hq
             subst hq
             exact ⟨rfl,get_lt hc,b,off,y.length,C,by rw [← q1]; exact hu,huv⟩
           · exact (M.fail_some h10).elim
       · exact (M.fail_some h4).elim
     · exact (M.fail_some h4).elim
   | bx os => exact (M.fail_some hx).elim
 | nil t =>
   cases m with
   | bx os => exact (M.fail_some hx).elim
   | mv o =>
     cases o with
     | fro => exact pushP hx ho.1 ho.2
     | _ => exact pushP hx (nil rfl) trivial
   | _ => exact pushP hx (nil rfl) trivial
 | ptr r o => exact (M.fail_some hx).elim
 | eptr p j o => exact (M.fail_some hx).elim
 | dead => exact (M.fail_some hx).elim
 | hole T x j i => exact pushP hx ho.1 ho.2
 | _ => exact pushP hx ho.1 ho.2
end
end GoV

/- Arguments, all of them. -/
namespace GoV
open Go

/-! ## Links stay among the first slots -/
def LowSt (n:Nat) (st:St):Prop:=∀ (i k:Nat) (c:Cell) (l:L),st[i]?=some c→c.ls[k]?=some l→l.low n
def QW {α:Type} (n:Nat) (m:M α):Prop:=∀ (st st':St) (x:α),m.exec st=some (x,st')→LowSt n st→LowSt n st'
theorem QW.bind {α β:Type} {n:Nat} {m:M α} {f:α→M β} (h:QW n m) (hf:∀ x,QW n (f x)):QW n (m >>= f):=by
 intro st st' y hx hl
 obtain ⟨x,st1,h1,h2⟩:=M.bind_some hx
 exact hf x st1 st' y h2 (h st st1 x h1 hl)
theorem QW.pure {α:Type} {n:Nat} (x:α):QW n (Pure.pure x:M α):=by
 intro st st' y hx hl
 obtain ⟨_,rfl⟩:=M.pure_some hx
 exact hl
theorem QW.fail {α:Type} {n:Nat}:QW n (M.fail:M α):=fun _ _ _ hx _ => (M.fail_some hx).elim
theorem QW.opt {α:Type} {n:Nat} (x:Option α):QW n (M.opt x):=by
 intro st st' y hx hl
 obtain ⟨_,rfl⟩:=M.opt_some hx
 exact hl
theorem QW.must {n:Nat} (b:Bool):QW n (M.check b):=by
 intro st st' y hx hl
 obtain ⟨_,rfl⟩:=M.must_some hx
 exact hl
theorem QW.read {n i:Nat}:QW n (M.read i):=by
 intro st st' y hx hl
 obtain ⟨_,rfl⟩:=M.read_some hx
 exact hl
theorem QW.peek {n i:Nat}:QW n (M.peek i):=by
 intro st st' y hx hl
 obtain ⟨_,_,_,rfl⟩:=M.peek_some hx
 exact hl
theorem QW.leafAt {n i j:Nat}:QW n (M.leafAt i j):=by
 intro st st' y hx hl
 obtain ⟨_,_,_,_,_,rfl⟩:=M.leafAt_some hx
 exact hl
theorem QW.nth {α:Type} {n:Nat} {z:α} {x:List α} {j:Nat}:QW n (M.nth z x j):=by
 intro st st' y hx hl
 obtain ⟨_,rfl⟩:=M.nth_some hx
 exact hl
theorem QW.rootL {n:Nat} {p:Pl}:QW n (GoV.rootL p):=by
 intro st st' y hx hl
 obtain ⟨rfl,_⟩:=rootL_ok hx
 exact hl
theorem QW.place {n:Nat} {p:Pl}:QW n (GoV.place p):=by
 intro st st' y hx hl
 obtain ⟨rfl,_⟩:=place_ok hx
 exact hl
theorem QW.writeL {n i j:Nat} {l:L} {d:Bool} {e:Nat} (h:l.low n):QW n (M.writeL i j l d e):=by
 intro st st' y hx hl
 obtain ⟨c,hc,hj,rfl⟩:=M.writeL_some hx
 intro i' k c' l' hc' hl'
 rw [get_set (get_lt hc)] at hc'
 split at hc'
 · rename_i e1; subst e1
   obtain rfl:=Option.some.inj hc'
   simp only [Cell.setL] at hl'
   rw [get_set hj] at hl'
   split at hl'
   · obtain rfl := Option.some.inj hl'
     exact h
   · exact hl _ _ _ _ hc hl'
 · exact hl _ _ _ _ hc' hl'
theorem QW.writeS {n i j:Nat} {l:L} {d:Bool} {e:Nat} (h:l.low n):QW n (M.writeS i j l d e):=by
 intro st st' y hx hl
 obtain ⟨c,hc,hj,rfl⟩:=M.writeS_some hx
 intro i' k c' l' hc' hl'
 rw [get_set (get_lt hc)] at hc'
 split at hc'
 · rename_i e1; subst e1
   obtain rfl:=Option.some.inj hc'
   simp only [Cell.setL] at hl'
   rw [get_set hj] at hl'
   split at hl'
   · obtain rfl := Option.some.inj hl'
     exact h
   · exact hl _ _ _ _ hc hl'
 · exact hl _ _ _ _ hc' hl'
theorem QW.write {n i:Nat} {c:Cell} (h:∀ (k:Nat) (l:L),c.ls[k]?=some l→l.low n):QW n (M.write i c):=by
 intro st st' y hx hl
 obtain ⟨hi,rfl⟩:=M.write_some hx
 intro i' k c' l' hc' hl'
 rw [get_set hi] at hc'
 split at hc'
 · obtain rfl := Option.some.inj hc'
   exact h _ _ hl'
 · exact hl _ _ _ _ hc' hl'
theorem QW.ite {α:Type} {n:Nat} {c:Prop} [Decidable c] {m m':M α} (h:QW n m) (h':QW n m'):QW n (if c then m else m'):=by split <;> assumption
theorem QW.steal {n:Nat} {p:Pl} {rg:Option (Nat × Option Nat)}:QW n (GoV.steal p rg):=by
 unfold GoV.steal
 refine .bind .place fun l => ?_
 split
 · exact .pure _
 · split
   · refine .bind .leafAt fun q => ?_
     split
     · exact .bind (.writeS trivial) fun _ => .pure _
     · exact .fail
   · exact .bind (.writeL trivial) fun _ => .pure _
theorem QW.argL {n:Nat} {m:Mode} {k:Nat} {l:L}:QW n (GoV.argL m k l):=by
 unfold GoV.argL
 split
 · split
   · exact .pure _
   · exact .bind .steal fun _ => .bind (.opt _) fun _ => .pure _
   · refine .bind .place fun l => ?_
     split
     · exact .pure _
     · exact .bind (.writeL trivial) fun _ => .pure _
     · exact .fail
   · refine .bind .rootL fun l => .bind (.must _) fun _ => ?_
     split
     · split
       · exact .bind (.must _) fun _ => .bind (.writeL trivial) fun _ => .pure _
       · exact .fail
     · split
       · refine .bind .nth fun e => ?_
         split
         · exact .bind (.must _) fun _ => .bind (.writeL trivial) fun _ => .pure _
         · exact .fail
       · exact .fail
     · exact .fail
   · exact .fail
 · split
   · exact .pure _
   · exact .pure _
   · exact .pure _
   · exact .pure _
   · exact .pure _
   · exact .fail
 · exact .fail
 · exact .fail
 · exact .fail
 · exact .pure _
theorem QW.argLs {n : Nat} {m : Mode} : ∀ {k : Nat} {ls : List L}, QW n (GoV.argLs m k ls)
 | _,[] => .pure _
 | _,_::_ => .bind .argL fun _ => .bind QW.argLs fun _ => .pure _
theorem QW.argV {n:Nat} {m:Mode} {v:Val}:QW n (GoV.argV m v):=by
 have bx:∀ os,QW n (GoV.argBx os v):=by
  intro os
  unfold GoV.argBx
  split
  · refine .bind .read fun c => .bind (.must _) fun _ => ?_
    split
    · exact .bind (.must _) fun _ => .bind (.opt _) fun _ => .bind (.write (by simp)) fun _ => .pure _
    · exact .fail
  · exact .fail
 have val:∀ m,QW n (GoV.argVal m v):=fun m => .bind (.must _) fun _ => .bind .argLs fun _ => .pure _
 unfold GoV.argV
 split
 · exact bx _
 · exact val _
theorem QW.argVs {n : Nat} : ∀ {ms : List Mode} {vs : List Val}, QW n (GoV.argVs ms vs)
 | _,[] => by unfold GoV.argVs; exact .pure _
 | _,_::_ => by unfold GoV.argVs; exact .bind .argV fun _ => .bind QW.argVs fun _ => .pure _
theorem QW.freezeAt {n:Nat} {p:Pl}:QW n (GoV.freezeAt p):=by
 unfold GoV.freezeAt
 refine .bind .leafAt fun q => ?_
 split
 · exact .pure _
 · split
   · exact .writeL trivial
   · exact .ite (.writeL trivial) (.pure _)
 · exact .fail
theorem QW.freezes {n : Nat} : ∀ {ps : List Pl}, QW n (GoV.freezes ps)
 | [] => .pure _
 | _::_ => .bind .freezeAt fun _ => QW.freezes
theorem QW.back1 {n:Nat} {ap:Bool} {fin:Cell} {k:Nat} {p:Pl} {sz:Nat}:QW n (GoV.back1 ap fin k p sz):=by
 unfold GoV.back1
 split
 · refine .bind .peek fun h => .bind (.must _) fun _ => ?_
   split
   · split
     · exact .writeL trivial
     · exact .pure _
   · split
     · exact .bind (.must _) fun _ => .writeL trivial
     · refine .bind .leafAt fun q => ?_
       split
       · refine .bind (.must _) fun _ => .bind .nth fun e => ?_
         split
         · exact .writeL trivial
         · exact .fail
       · exact .fail
 · exact .pure _
 · exact .ite (.pure _) .fail
theorem QW.backL {n : Nat} {ap : Bool} {fin : Cell} : ∀ {bk : List (Nat × Pl × Nat)}, QW n (GoV.backL ap fin bk)
 | [] => .pure _
 | _::_ => .bind .back1 fun _ => QW.backL
theorem low_of_ref {n:Nat} {l:L} (h:l.ref=false):l.low n:=by cases l <;> first | trivial | cases h
theorem coLsK_ref : ∀ {os : List Fl} {ls ls' : List L}, GoV.coLsK os ls = some ls' → (ls.all fun l => !l.ref) = true → (ls'.all fun l => !l.ref) = true
 | os,[],ls',h,_ => by
   cases os <;> (simp only [GoV.coLsK,Option.some.injEq] at h; subst h; rfl)
 | [],l::ls,ls',h,hr => by simp only [GoV.coLsK,Option.some.injEq] at h; subst h; exact hr
 | o::os,l::ls,ls',h,hr => by
   simp only [List.all_cons,Bool.and_eq_true] at hr
   simp only [GoV.coLsK] at h
   split at h
   · simp [L.ref] at hr
   · simp [L.ref] at hr
   · split at h
     · rename_i x y hx hy
       obtain rfl:=Option.some.inj h
       simp only [List.all_cons,Bool.and_eq_true]
       refine ⟨?_,coLsK_ref hy hr.2⟩
       unfold L.co at hx
       split at hx
       · split at hx
         · obtain rfl:=Option.some.inj hx; rfl
         · cases hx
       · obtain rfl:=Option.some.inj hx; rfl
       · cases hx
       · cases hx
       · obtain rfl:=Option.some.inj hx; exact hr.1
     · cases h
theorem QW.backA {n:Nat} {a:Arg} {fin:Cell}:QW n (GoV.backA a fin):=by
 unfold GoV.backA
 split
 · intro st st' x hx hl
   obtain ⟨_,st0,h0,h00⟩:=M.bind_some hx
   obtain ⟨_,rfl⟩:=M.must_some h0
   obtain ⟨_,st1,h1,h2⟩:=M.bind_some h00
   obtain ⟨hr,rfl⟩:=M.must_some h1
   obtain ⟨ls,st2,h3,h4⟩:=M.bind_some h2
   obtain ⟨hco,rfl⟩:=M.opt_some h3
   refine (QW.bind .read fun c => ?_) _ _ _ h4 hl
   split
   · refine .write fun k l hk => ?_
     have:=coLsK_ref hco hr
     simp only [List.all_eq_true,Bool.not_eq_true'] at this
     exact low_of_ref (this l (List.mem_of_getElem? hk))
   · exact .fail
 · exact .ite (.pure _) (.bind (.must _) fun _ => .bind (.must _) fun _ => .backL)
theorem QW.backs {n : Nat} : ∀ {as : List Arg} {fs : List Cell}, QW n (GoV.backs as fs)
 | [],_ => by unfold GoV.backs; exact .pure _
 | _::_,[] => by unfold GoV.backs; exact .fail
 | _::_,_::_ => by unfold GoV.backs; exact .bind .backA fun _ => QW.backs

section
variable {G:Ctx} {fl:List (L × Value)} {st st':St} {a:Act} {w w':World} {vals vals':VS} {B B':Nat→Nat} {F F':FS} {S:Nat→Nat→BS} {E:Env} {P:Program}

theorem Rl.lowSt (h:Rl G fl st a w vals B F S):LowSt st.length st:=by
 intro i k c l hc hl
 obtain ⟨u,hu⟩:=h.val_at hc hl
 exact (h.leaf i c k l u hc hl hu).2.isLow
theorem argLs_ok {m : Mode} : ∀ {ls ls' : List L} {k : Nat} {bk : List (Nat × Pl × Nat)} {us : List Value} {fl : List (L × Value)} {st st' : St} {F : FS} {S : Nat → Nat → BS}, Rl G fl st a w vals B F S → Ols st vals B F w ls us →
 (argLs m k ls).exec st = some ((ls', bk), st') →
  ∃ F' S', Rl G (fl ++ ls'.zip us) st' a w vals B F' S' ∧ Keeps vals B w st st' ∧ (∀ b o, F b o → F' b o) ∧ ls'.length = us.length ∧
    ∀ q,q∈bk→k≤q.1∧q.2.1.r<st.length∧∃ u,us[q.1 - k]?=some u∧Bk vals w q.2.1 q.2.2 u
 | [],ls',k,bk,us,fl,st,st',F,S,h,ho,hx => by
   simp only [argLs] at hx
   obtain ⟨e,rfl⟩:=M.pure_some hx
   obtain ⟨rfl,rfl⟩:=Prod.mk.inj e
   cases us with
   | nil => exact ⟨F,S,by simpa using h,.refl _ _ _ _,fun _ _ h => h,rfl,by simp⟩
   | cons => exact ho.elim
 | l::ls,ls',k,bk,us,fl,st,st',F,S,h,ho,hx => by
   cases us with
   | nil => exact ho.elim
   | cons u us =>
     simp only [argLs] at hx
     obtain ⟨⟨l1,bk1⟩,st1,h1,h2⟩:=M.bind_some hx
     obtain ⟨⟨ls1,bk2⟩,st2,h3,h4⟩:=M.bind_some h2
     obtain ⟨e,rfl⟩:=M.pure_some h4
     obtain ⟨rfl,rfl⟩:=Prod.mk.inj e
     obtain ⟨F1,S1,g1,g2,gf,gb⟩:=argL_ok h ho.1 h1
     obtain ⟨F2,S2,g3,g4,g5,g6,g7⟩:=argLs_ok g1 (g2.ols (ho.2.up gf)) h3
     refine ⟨F2,S2,by simpa using g3,g2.trans g4,fun b o hb => g5 b o (gf b o hb),by simp [g6],fun q hq => ?_⟩
     simp only [List.mem_append] at hq
     rcases hq with hq | hq
     · obtain ⟨e, e2, e3⟩ := gb q hq
       exact ⟨by omega,e2,u,by simp [e],e3⟩
     · obtain ⟨e, e2, u', e3, e4⟩ := g7 q hq
       refine ⟨by omega,by rw [← g2.len]; exact e2,u', ?_,e4⟩
       rw [show q.1 - k=(q.1 - (k+1))+1 by omega,List.getElem?_cons_succ]
       exact e3
def Cell.unpin (c:Cell):Cell:={ c with pin:=false }
theorem Rl.takeBox (h : Rl G [] st a w vals B F S) {r : Nat} {c : Cell} (hc : st[r]? = some c) (hck : c.ck = .box false) :
 ∃ S', Rl G [] (st.set r ⟨.box true, [], c.pin, true, c.dp, c.ds, c.es⟩ ++ [⟨.box false, c.ls, false, false, false, 0, 0⟩]) ⟨a.tmps.push (.pointer (some ⟨B r, 0, none⟩)), a.defers⟩ w
   (ext (ext vals r []) st.length (vals r)) (ext B st.length (B r)) F S' ∧
   ∀ l u,LinkOK st vals B w l u→LinkOK (st.set r ⟨.box true,[],c.pin,true,c.dp,c.ds,c.es⟩ ++ [⟨.box false,c.ls,false,false,false,0,0⟩]) (ext (ext vals r []) st.length (vals r)) (ext B st.length (B r)) w l u:=by
 have hlt:=get_lt hc
 have hcell:=h.cell r c hc
 unfold CellOK at hcell
 rw [hck] at hcell
 obtain ⟨c1,c2,c3,c4,c5,c6⟩:=hcell
 have hle:CellLe c ⟨.box true,[],c.pin,true,c.dp,c.ds,c.es⟩:=⟨fun z _ => .inr ⟨true,rfl⟩,fun _ => rfl,id,fun _ => id,fun _ _ => id,.inl rfl⟩
 generalize hs:st.set r (⟨.box true,[],c.pin,true,c.dp,c.ds,c.es⟩:Cell)=s
 have hlen:s.length=st.length:=by rw [← hs]; simp
 have hget:∀ i,s[i]?=if r=i then some (⟨.box true,[],c.pin,true,c.dp,c.ds,c.es⟩:Cell) else st[i]?:=fun i => by rw [← hs,get_set hlt]
 -- the slot is out
 have lk1:∀ l u,LinkOK st vals B w l u→LinkOK s (ext vals r []) B w l u:=by
  have head:∀ (p:Pl) t n hv,PlHd st vals w p t n hv→Gone s p∨PlHd s (ext vals r []) w p t n hv:=by
   intro p t n hv hp
   by_cases e:p.r=r
   · exact .inl ⟨_,by rw [hget,if_pos e.symm],.inl rfl⟩
   · have := hp.set hc hle
     rw [hs] at this
     exact this.imp id fun hp' => hp'.revals (by rw [ext_ne e])
  intro l u hk
  cases l with
  | lent p rg =>
    rcases hk with hk | ⟨t,n,hv,hk,hu⟩
    · exact .inl (by rw [← hs]; exact hk.set hc hle)
    · exact (head p t n hv hk).imp id fun hk => ⟨t,n,hv,hk,hu⟩
  | eptr p j o =>
    rcases hk with hk | ⟨t,n,b,off,C,hk,hu⟩
    · exact .inl (by rw [← hs]; exact hk.set hc hle)
    · exact (head p t n _ hk).imp id fun hk => ⟨t,n,b,off,C,hk,hu⟩
  | ptr q o =>
    have:LinkOK (st.set r _) vals B w (.ptr q o) u:=LinkOK.set hc hle hk
    rw [hs] at this
    exact this
  | _ => trivial
 have h1:Rl G [] s a w (ext vals r []) B F (fun i k => if i=r then fun _ => False else S i k):=by
  have key:∀ {i k y},(if i=r then (fun _ => False:BS) else S i k) y→i≠r∧S i k y:=by
   intro i k y hy
   split at hy
   · exact hy.elim
   · exact ⟨by assumption,hy⟩
  refine { h with sz:=by rw [hlen]; exact h.sz,cell:=fun i q hq => ?_,leaf:=fun i q k l u hq hl hu => ?_,fleaf:=fun k l u hf => by simp at hf,disj:=fun i k i' k' b hne hb hb' => h.disj i k i' k' b hne (key hb).2 (key hb').2,sub:=fun i k b hb => h.sub i k b (key hb).2,pin:=fun i q hq hp => ?_ }
  · rw [hget] at hq
    split at hq
    · rename_i e; subst e
      obtain rfl:=Option.some.inj hq
      rw [ext_self]
      exact ⟨rfl,c2,by simp,by simp,by simp [Ones]⟩
    · rename_i e
      rw [ext_ne (fun e' => e e'.symm),if_neg (fun e' => e e'.symm)]
      exact h.cell i q hq
  · rw [hget] at hq
    split at hq
    · obtain rfl := Option.some.inj hq
      simp at hl
    · rename_i e
      rw [ext_ne (fun e' => e e'.symm)] at hu
      rw [if_neg (fun e' => e e'.symm)]
      obtain ⟨g1,g2⟩:=h.leaf i q k l u hq hl hu
      exact ⟨g1,lk1 _ _ g2⟩
  · rw [hget] at hq
    split at hq
    · rename_i e; subst e
      obtain rfl:=Option.some.inj hq
      exact h.pin r c hc hp
    · exact h.pin i q hq hp
 -- and in again,behind
 have lk2:∀ l u,LinkOK s (ext vals r []) B w l u→LinkOK (s ++ [⟨.box false,c.ls,false,false,false,0,0⟩]) (ext (ext vals r []) st.length (vals r)) (ext B st.length (B r)) w l u:=fun l u hk =>
  hk.near (n:=s.length) (fun i hi => List.getElem?_append_left hi) (fun i hi => ext_ne (by omega)) (fun i hi => ext_ne (by omega)) hk.isLow
 have htmp:∀ {i},i<st.length→(a.tmps.push (.pointer (some ⟨B r,0,none⟩))).getD i undef=a.tmps.getD i undef:=by
  intro i hi
  have:i≠a.tmps.size:=by rw [h.sz]; omega
  simp only [Array.getD_eq_getD_getElem?,Array.getElem?_push,if_neg this]
 have hget2:∀ {i q},(s ++ [(⟨.box false,c.ls,false,false,false,0,0⟩:Cell)])[i]?=some q→(i<st.length∧s[i]?=some q)∨(i=st.length∧q=⟨.box false,c.ls,false,false,false,0,0⟩):=by
  intro i q hq
  by_cases hi:i<s.length
  · rw [List.getElem?_append_left hi] at hq; exact .inl ⟨by omega,hq⟩
  · have := get_lt hq
    simp at this
    have e:i=s.length:=by omega
    subst e
    simp at hq
    exact .inr ⟨hlen,hq.symm⟩
 have key:∀ {i k y},(if i=st.length then S r k else if i=r then (fun _ => False:BS) else if i<st.length then S i k else fun _ => False) y→∃ i',S i' k y∧((i=st.length∧i'=r)∨(i≠st.length∧i≠r∧i'=i)):=by
  intro i k y hy
  split at hy
  · exact ⟨r,hy,.inl ⟨by assumption,rfl⟩⟩
  · split at hy
    · exact hy.elim
    · split at hy
      · exact ⟨i,hy,.inr ⟨by assumption,by assumption,rfl⟩⟩
      · exact hy.elim
 refine ⟨fun i k => if i=st.length then S r k else if i=r then fun _ => False else if i<st.length then S i k else fun _ => False, ?_,fun l u hk => lk2 l u (lk1 l u hk)⟩
 refine ⟨by simp [hlen,h.sz],h.df,fun i q hq => ?_,fun i q k l u hq hl hu => ?_,fun k l u hf => by simp at hf,fun i k i' k' y hne hy hy' => ?_,fun i k y hy => ?_,h.fz,h.f0,h.un,h.wo,fun i q hq hpin => ?_⟩
 · rcases hget2 hq with ⟨hi, hq⟩ | ⟨rfl, rfl⟩
   · rw [ext_ne (f := ext vals r []) (n := st.length) (by omega), ext_ne (f := B) (n := st.length) (by omega), htmp hi, if_neg (by omega)]
     have:=h1.cell i q hq
     by_cases e:i=r
     · rw [if_pos e]; rw [if_pos e] at this; exact this
     · rw [if_neg e,if_pos hi]; rw [if_neg e] at this; exact this
   · rw [ext_self, ext_self, if_pos rfl]
     have:(a.tmps.push (.pointer (some ⟨B r,0,none⟩))).getD st.length undef=.pointer (some ⟨B r,0,none⟩):=by
        rw [← h.sz]; simp
     rw [this]
     exact ⟨c1,rfl,c3,c4,c5,c6⟩
 · rcases hget2 hq with ⟨hi, hq⟩ | ⟨rfl, rfl⟩
   · rw [ext_ne (f := ext vals r []) (n := st.length) (by omega)] at hu
     rw [if_neg (by omega)]
     obtain ⟨g1,g2⟩:=h1.leaf i q k l u hq hl hu
     by_cases e:i=r
     · rw [if_pos e]; rw [if_pos e] at g1; exact ⟨g1,lk2 _ _ g2⟩
     · rw [if_neg e,if_pos hi]; rw [if_neg e] at g1; exact ⟨g1,lk2 _ _ g2⟩
   · rw [ext_self] at hu
     rw [if_pos rfl]
     obtain ⟨g1,g2⟩:=h.leaf r c k l u hc hl hu
     exact ⟨g1,lk2 _ _ (lk1 _ _ g2)⟩
 · obtain ⟨j, h2, h3⟩ := key hy
   obtain ⟨j',h4,h5⟩:=key hy'
   refine h.disj j k j' k' y (fun e => hne ?_) h2 h4
   simp only [Prod.mk.injEq] at e ⊢
   omega
 · obtain ⟨j, h2, h3⟩ := key hy
   exact h.sub j k y h2
 · rcases hget2 hq with ⟨hi, hq⟩ | ⟨rfl, rfl⟩
   · rw [htmp hi]; exact h1.pin i q hq hpin
   · cases hpin
end
end GoV

/- All arguments stand in slots behind the caller's own; what is read alone is shared for the time of the call. -/
namespace GoV
open Go
section
variable {G:Ctx} {fl:List (L × Value)} {st st':St} {a:Act} {w w':World} {vals vals':VS} {B B':Nat→Nat} {F F':FS} {S:Nat→Nat→BS} {E:Env} {P:Program}

theorem zip_get {ls:List L} {us:List Value} {k:Nat} {l:L} {u:Value} (h1:ls[k]?=some l) (h2:us[k]?=some u):(ls.zip us)[k]?=some (l,u):=by
 rw [List.getElem?_zip_eq_some]; exact ⟨h1,h2⟩
abbrev ArgF (vals:VS) (B:Nat→Nat) (w:World) (idx:Nat) (x:Arg) (av:Value):Prop :=
 (x.bx=none→(∃ sh,x.cell.ck=.val sh∧isArg sh=true)∧∀ q,q∈x.bk→q.2.1.r<idx∧∃ u,(vals idx)[q.1]?=some u∧Bk vals w q.2.1 q.2.2 u) ∧
 (∀ r os,x.bx=some (r,os)→r<idx∧x.cell.ck=.box false∧x.bk=[]∧av=.pointer (some ⟨B r,0,none⟩))
theorem argV_bx {m:Mode} {v:Val} {x:Arg} (hx:(argV m v).exec st=some (x,st')):st'.length=st.length∧∀ r os,x.bx=some (r,os)→r<st.length:=by
 refine ⟨(M.exec_append _ [] hx).2, ?_⟩
 have bx:∀ os,(argBx os v).exec st=some (x,st')→∀ r os,x.bx=some (r,os)→r<st.length:=by
  intro os hx
  unfold argBx at hx
  split at hx
  · obtain ⟨c, st1, h1, h2⟩ := M.bind_some hx
    obtain ⟨hc,rfl⟩:=M.read_some h1
    obtain ⟨_,st2,h3,h4⟩:=M.bind_some h2
    obtain ⟨_,rfl⟩:=M.must_some h3
    split at h4
    · obtain ⟨_, st3, h5, h6⟩ := M.bind_some h4
      obtain ⟨ls,st4,h7,h8⟩:=M.bind_some h6
      obtain ⟨_,st5,h9,h10⟩:=M.bind_some h8
      obtain ⟨rfl,_⟩:=M.pure_some h10
      intro r os e
      simp only [Option.some.injEq,Prod.mk.injEq] at e
      obtain ⟨rfl,_⟩:=e
      exact get_lt hc
    · exact (M.fail_some h4).elim
  · exact (M.fail_some hx).elim
 have val:∀ m,(argVal m v).exec st=some (x,st')→∀ r os,x.bx=some (r,os)→r<st.length:=by
  intro m hx
  obtain ⟨_,st1,h1,h2⟩:=M.bind_some hx
  obtain ⟨y,st2,h3,h4⟩:=M.bind_some h2
  obtain ⟨rfl,_⟩:=M.pure_some h4
  intro r os e
  cases e
 unfold argV at hx
 split at hx
 · exact bx _ hx
 · exact val _ hx
def ArgOK (G:Ctx) (st st':St) (a:Act) (w:World) (vals:VS) (B:Nat→Nat) (F:FS) (x:Arg) (av:Value):Prop :=
 ∃ vals' b F' S', Rl G [] (st' ++ [x.cell.unpin]) ⟨a.tmps.push av, a.defers⟩ w vals' (ext B st.length b) F' S' ∧ (∀ l u, LinkOK st vals B w l u → LinkOK (st' ++ [x.cell.unpin]) vals' (ext B st.length b) w l u) ∧
  (∀ b o,F b o→F' b o)∧(∀ i,i<st.length→(∀ r os,x.bx=some (r,os)→r≠i)→vals' i=vals i)∧ArgF vals' (ext B st.length b) w st.length x av
theorem argBx_ok (h : Rl G [] st a w vals B F S) {os : List Fl} {v : Val} {av : Value} {us : List Value} {x : Arg} (ho : Ols st vals B F w v.ls us) (hv : VR v.sh us av) (hx : (argBx os v).exec st = some (x, st')) :
 ArgOK G st st' a w vals B F x av:=by
 unfold argBx at hx
 split at hx
 · rename_i r
   obtain ⟨c,st1,g1,g2⟩:=M.bind_some hx
   obtain ⟨hc,hst⟩:=M.read_some g1
   rw [hst] at g2
   obtain ⟨_,st2,g3,g4⟩:=M.bind_some g2
   obtain ⟨hdp,hst2⟩:=M.must_some g3
   rw [hst2] at g4
   split at g4
   · rename_i hck
     obtain ⟨_,st3,g5,g6⟩:=M.bind_some g4
     obtain ⟨_,hst3⟩:=M.must_some g5
     rw [hst3] at g6
     obtain ⟨ls,st4,g7,g8⟩:=M.bind_some g6
     obtain ⟨hco,hst4⟩:=M.opt_some g7
     rw [hst4] at g8
     obtain ⟨_,st5,g9,g10⟩:=M.bind_some g8
     obtain ⟨hlt,hst5⟩:=M.write_some g9
     obtain ⟨rfl,hst6⟩:=M.pure_some g10
     rw [hst6,hst5]
     cases us with
     | nil => exact ho.elim
     | cons u us =>
       cases us with
       | cons => exact ho.2.elim
       | nil =>
         simp only [VR,List.cons.injEq,and_true] at hv
         subst hv
         have hpv:=LinkOK.ptr_box ho.1.2 hc (by simpa using hdp)
         obtain ⟨S1,k1,k2⟩:=h.takeBox hc hck
         have hcn:(st.set r (⟨.box true,[],c.pin,true,c.dp,c.ds,c.es⟩:Cell) ++ [(⟨.box false,c.ls,false,false,false,0,0⟩:Cell)])[st.length]?=some ⟨.box false,c.ls,false,false,false,0,0⟩:=by
          rw [List.getElem?_append_right (by simp)]; simp
         obtain ⟨F2,S2,m1,m2,m3⟩:=k1.coLsK (pre:=[]) hco hcn rfl (fun z hz => by simpa using hz.symm)
         have hset : (st.set r (⟨.box true, [], c.pin, true, c.dp, c.ds, c.es⟩ : Cell) ++ [(⟨.box false, c.ls, false, false, false, 0, 0⟩ : Cell)]).set st.length ⟨.box false, [] ++ ls, false, false, false, 0, 0⟩ =
             st.set r (⟨.box true,[],c.pin,true,c.dp,c.ds,c.es⟩:Cell) ++ [(⟨.box false,ls,false,false,false,0,0⟩:Cell)]:=by
          rw [List.set_append_right _ _ (by simp)]; simp
         simp only at m1 m2
         rw [hset] at m1 m2
         refine ⟨_,B r,F2,S2,by rw [hpv]; exact m1,fun l u hk => m2.link _ _ (k2 l u hk),m3,fun i hi hne => ?_, ?_⟩
         · rw [ext_ne (f:=ext vals r []) (n:=st.length) (by omega),ext_ne (fun e => hne r os rfl e.symm)]
         · refine ⟨fun e => absurd e (by simp), fun r' os' e => ?_⟩
           simp only [Option.some.injEq,Prod.mk.injEq] at e
           obtain ⟨rfl,rfl⟩:=e
           exact ⟨hlt,rfl,rfl,by rw [ext_ne (by omega)]; exact hpv⟩
   · exact (M.fail_some g4).elim
 · exact (M.fail_some hx).elim
theorem argVal_ok (h : Rl G [] st a w vals B F S) {m : Mode} {v : Val} {av : Value} {us : List Value} {x : Arg} (ho : Ols st vals B F w v.ls us) (hv : VR v.sh us av) (h1 : Ones us) (hx : (argVal m v).exec st = some (x, st')) :
 ArgOK G st st' a w vals B F x av:=by
 obtain ⟨_,st1,g1,g2⟩:=M.bind_some hx
 obtain ⟨htup,hst1⟩:=M.must_some g1
 rw [hst1] at g2
 obtain ⟨⟨ls',bk⟩,st2,g3,g4⟩:=M.bind_some g2
 obtain ⟨rfl,hst2⟩:=M.pure_some g4
 subst hst2
 obtain ⟨F1,S1,k1,k2,k3,k4,k5⟩:=argLs_ok h ho g3
 simp only [List.nil_append] at k1
 have hlen:=k2.len
 have k6 := k1.append (c := ⟨.val v.sh, ls', false, false, false, 0, 0⟩) (us := us) (v := av) (b := 0) (T := fun k => if k = 0 then fun _ => False else S1 st'.length k) rfl ⟨k4.symm, hv, h1⟩
  (fun k l u hl hu => by
   obtain ⟨n1,n2⟩:=k1.fleaf k l u (zip_get hl hu)
   rw [if_neg (by omega)]
   exact ⟨n1,n2⟩)
  (fun k y hy => by
   split at hy
   · exact hy.elim
   · exact ⟨k,hy⟩)
  (fun k k' y hne hy hy' => by
   split at hy
   · exact hy
   · split at hy'
     · exact hy'
     · exact k1.disj _ _ _ _ y (by simp; exact hne) hy hy')
 rw [hlen] at k6
 refine ⟨_,0,F1,_,k6,fun l u hk => ?_,k3,fun i hi _ => ext_ne (by omega),fun _ => ⟨⟨v.sh,rfl,by simpa using htup⟩,fun q hq => ?_⟩,fun r os e => by cases e⟩
 · have hk' := k2.link l u hk
   refine hk'.near (n:=st.length) (fun i hi => List.getElem?_append_left (by omega)) (fun i hi => ext_ne (by omega)) (fun i hi => ext_ne (by omega)) ?_
   have:=hk'.isLow
   rw [hlen] at this
   exact this
 · obtain ⟨n1, n2, u, n3, n4⟩ := k5 q hq
   refine ⟨n2,u,by rw [ext_self]; simpa using n3, ?_⟩
   unfold Bk at n4 ⊢
   rw [ext_ne (by omega)]
   exact n4
theorem argV_ok (h : Rl G [] st a w vals B F S) {m : Mode} {v : Val} {av : Value} {us : List Value} {x : Arg} (ho : Ols st vals B F w v.ls us) (hv : VR v.sh us av) (h1 : Ones us) (hx : (argV m v).exec st = some (x, st')) :
 ArgOK G st st' a w vals B F x av:=by
 unfold argV at hx
 split at hx
 · exact argBx_ok h ho hv hx
 · exact argVal_ok h ho hv h1 hx
theorem Vls.mono {st2 : St} (hm : ∀ l u, OL st vals B F w l u → OL st2 vals' B' F' w l u) : ∀ {vs : List Val} {xs : List Value}, Vls st vals B F w vs xs → Vls st2 vals' B' F' w vs xs
 | [],[],_ => trivial
 | _::_,_::_,h => ⟨by obtain ⟨us,h1,h2⟩:=h.1; exact ⟨us,h1.mono hm,h2⟩,Vls.mono hm h.2⟩
 | [],_::_,h => h.elim
 | _::_,[],h => h.elim
theorem Vls.length : ∀ {vs : List Val} {xs : List Value}, Vls st vals B F w vs xs → vs.length = xs.length
 | [],[],_ => rfl
 | _::_,_::_,h => by simp [Vls.length h.2]
 | [],_::_,h => h.elim
 | _::_,[],h => h.elim
theorem argVs_ok : ∀ {vs : List Val} {ms : List Mode} {as : List Arg} {st st' ex : St} {a : Act} {vals : VS} {B : Nat → Nat} {F : FS} {S : Nat → Nat → BS} {avs : List Value}, Rl G [] (st ++ ex) a w vals B F S → Vls (st ++ ex) vals B F w vs avs →
 (argVs ms vs).exec st=some (as,st') →
 ∃ vals' B' F' S', Rl G [] (st' ++ (ex ++ as.map (·.cell.unpin))) ⟨a.tmps ++ avs.toArray, a.defers⟩ w vals' B' F' S' ∧ st'.length = st.length ∧ as.length = avs.length ∧ (∀ b o, F b o → F' b o) ∧ (∀ i, i < (st ++ ex).length → B' i = B i) ∧
   (∀ y,y∈as→∀ r os,y.bx=some (r,os)→r<st.length)∧(∀ i,i<(st ++ ex).length→(∀ y,y∈as→∀ r os,y.bx=some (r,os)→r≠i)→vals' i=vals i) ∧
   ((∀ y,y∈as→∀ r os,y.bx=some (r,os)→∀ y',y'∈as→∀ q,q∈y'.bk→q.2.1.r≠r)→∀ (i:Nat) (x:Arg) (av:Value),as[i]?=some x→avs[i]?=some av→ArgF vals' B' w ((st ++ ex).length+i) x av)
 | [],ms,as,st,st',ex,a,vals,B,F,S,avs,h,hv,hx => by
   unfold argVs at hx
   obtain ⟨rfl,rfl⟩:=M.pure_some hx
   cases avs with
   | nil => exact ⟨vals,B,F,S,by simpa using h,rfl,rfl,fun _ _ h => h,fun _ _ => rfl,by simp,fun _ _ _ => rfl,by simp⟩
   | cons => exact hv.elim
 | v::vs,ms,as,st,st',ex,a,vals,B,F,S,avs,h,hv,hx => by
   cases avs with
   | nil => exact hv.elim
   | cons av avs =>
     unfold argVs at hx
     obtain ⟨x,st1,h1,h2⟩:=M.bind_some hx
     obtain ⟨xs,st2,h3,h4⟩:=M.bind_some h2
     obtain ⟨rfl,rfl⟩:=M.pure_some h4
     obtain ⟨us,v1,v2,v3⟩:=hv.1
     obtain ⟨b1,b2⟩:=argV_bx h1
     obtain ⟨vals1,b,F1,S1,g1,g2,g3,g4,g5⟩:=argV_ok h v1 v2 v3 (M.exec_append _ ex h1).1
     rw [List.append_assoc] at g1 g2
     have hv2:Vls (st1 ++ (ex ++ [x.cell.unpin])) vals1 (ext B (st ++ ex).length b) F1 w vs avs:=hv.2.mono fun l u ho => ⟨(ho.up g3).1,g2 _ _ ho.2⟩
     obtain ⟨vals2,B2,F2,S2,k1,k2,k3,k4,k5,k6,k7,k8⟩:=argVs_ok g1 hv2 h3
     have hlen1:(st1 ++ (ex ++ [x.cell.unpin])).length=(st ++ ex).length+1:=by simp [b1]; omega
     have hB:∀ i,i<(st ++ ex).length→B2 i=B i:=fun i hi => (k5 i (by omega)).trans (ext_ne (by omega))
     have hvn:∀ {i},i<(st ++ ex).length+1→(∀ y,y∈xs→∀ r os,y.bx=some (r,os)→r≠i)→vals2 i=vals1 i:=fun hi hne => k7 _ (by omega) hne
     refine ⟨vals2,B2,F2,S2,by simpa using k1,k2.trans b1,by simp [k3],fun b o hb => k4 b o (g3 b o hb),hB,fun y hy r os e => ?_,fun i hi hne => ?_,fun hap i y av' hy hav => ?_⟩
     · rcases List.mem_cons.1 hy with rfl | hy
       · exact b2 r os e
       · rw [← b1]; exact k6 y hy r os e
     · rw [hvn (by omega) fun y hy => hne y (List.mem_cons_of_mem _ hy)]
       exact g4 i hi fun r os e => hne x (by simp) r os e
     · cases i with
       | zero =>
         simp only [List.getElem?_cons_zero,Option.some.injEq] at hy hav
         subst hy; subst hav
         rw [Nat.add_zero]
         obtain ⟨f1,f2⟩:=g5
         refine ⟨fun e => ⟨(f1 e).1,fun q hq => ?_⟩,fun r os e => ?_⟩
         · obtain ⟨n1, u, n2, n3⟩ := (f1 e).2 q hq
           refine ⟨n1,u, ?_, ?_⟩
           · rw [hvn (by omega) fun y hy r os e => by
               have:=k6 y hy r os e
               simp only [List.length_append]
               omega]
             exact n2
           · unfold Bk at n3 ⊢
             rw [hvn (by omega) fun y hy r os e => fun e' => hap y (List.mem_cons_of_mem _ hy) r os e x (by simp) q hq e'.symm]
             exact n3
         · obtain ⟨n1, n2, n3, n4⟩ := f2 r os e
           exact ⟨n1,n2,n3,by rw [n4,k5 r (by omega)]⟩
       | succ i =>
         have:=k8 (fun y hy r os e y' hy' q hq => hap y (List.mem_cons_of_mem _ hy) r os e y' (List.mem_cons_of_mem _ hy') q hq) i y av' (by simpa using hy) (by simpa using hav)
         rw [hlen1] at this
         rw [show (st ++ ex).length+(i+1)=(st ++ ex).length+1+i by omega]
         exact this

/-! ## What is read alone -/
def PlKeep (st st':St):Prop:=∀ (q:Pl) (o:Fl) (t:Ty) (x:List t.C),(place q).exec st=some (.d o (.sl t) x,st)→∃ o',(place q).exec st'=some (.d o' (.sl t) x,st')∧(o=.fro→o'=.fro)
theorem PlKeep.refl (st:St):PlKeep st st:=fun _ o _ _ h => ⟨o,h,id⟩
theorem PlKeep.trans {st2:St} (h:PlKeep st st') (k:PlKeep st' st2):PlKeep st st2:=fun q o t x hq => by
 obtain ⟨o1,h1,h2⟩:=h q o t x hq
 obtain ⟨o2,k1,k2⟩:=k q o1 t x h1
 exact ⟨o2,k1,fun e => k2 (h2 e)⟩
theorem PlKeep.setL {r k : Nat} {c : Cell} {o o' : Fl} {T : Ty} {x : List T.C} (hc : st[r]? = some c) (hl : c.ls[k]? = some (.d o (.sl T) x)) (ho : o ≠ .fro) (ho' : o'.el = .fro) :
 PlKeep st (st.set r (c.setL k (.d o' (.sl T) x) false 0)):=by
 intro q o1 t y hq
 obtain ⟨_,c1,l0,h1,h2,h3,h4⟩:=place_ok hq
 by_cases e:q.r=r∧q.k=k
 · obtain ⟨rfl, rfl⟩ := e
   rw [hc] at h1
   obtain rfl:=Option.some.inj h1
   rw [hl] at h3
   obtain rfl:=Option.some.inj h3
   have hc':(st.set q.r (c.setL q.k (.d o' (.sl T) x) false 0))[q.r]?=some (c.setL q.k (.d o' (.sl T) x) false 0):=by rw [get_set (get_lt hc)]; simp
   have hl':(c.setL q.k (.d o' (.sl T) x) false 0).ls[q.k]?=some (.d o' (.sl T) x):=by simp [Cell.setL,get_lt hl]
   cases hs:q.sub with
   | none =>
     rw [hs] at h4
     simp only [subOf,Option.some.injEq,L.d.injEq,Ty.sl.injEq] at h4
     obtain ⟨rfl,rfl,h4⟩:=h4
     cases h4
     exact ⟨o',place_of hc' h2.setL hl' (by rw [hs]; rfl),fun e => absurd e ho⟩
   | some ji =>
     obtain ⟨j,i⟩:=ji
     rw [hs] at h4
     simp only [subOf] at h4
     split at h4
     · rename_i f hf
       split at h4
       · rename_i o2 t2 y2 hg
         simp only [Option.some.injEq,L.d.injEq,Ty.sl.injEq] at h4
         obtain ⟨rfl,rfl,h4⟩:=h4
         cases h4
         have hg':=getL_fl (o2:=.fro) hg
         exact ⟨.fro,place_of hc' h2.setL hl' (by rw [hs]; simp [subOf,hf,ho',hg']),fun _ => rfl⟩
       · cases h4
     · cases h4
 · by_cases er : q.r = r
   · subst er
     rw [hc] at h1
     obtain rfl:=Option.some.inj h1
     have hne:q.k≠k:=fun h => e ⟨rfl,h⟩
     have hc':(st.set q.r (c.setL k (.d o' (.sl T) x) false 0))[q.r]?=some (c.setL k (.d o' (.sl T) x) false 0):=by rw [get_set (get_lt hc)]; simp
     obtain ⟨k1,k2,k3⟩:=setL_leaf (c:=c) (l:=.d o' (.sl T) x) (d:=false) (e:=0) hne
     refine ⟨o1,place_of (l0:=l0) hc' ⟨h2.1,by rw [k2]; exact h2.2.1,by rw [k3]; exact h2.2.2⟩ (by rw [k1]; exact h3) h4,id⟩
   · exact ⟨o1,place_of (l0:=l0) (by rw [get_set (get_lt hc),if_neg (fun h => er h.symm)]; exact h1) h2 h3 h4,id⟩
theorem freezeAt_run {p:Pl} {o:Fl} {t:Ty} {x:List t.C} (h:(place p).exec st=some (.d o (.sl t) x,st)):∃ st',(freezeAt p).exec st=some ((),st')∧PlKeep st st':=by
 obtain ⟨_,c,l0,h1,h2,h3,h4⟩:=place_ok h
 have hroot:∃ o1 T,∃ x1:List T.C,l0=.d o1 (.sl T) x1:=by
  unfold subOf at h4
  split at h4
  · exact ⟨_,_,_,rfl⟩
  · exact ⟨_,_,_,rfl⟩
  · cases h4
 obtain ⟨o1,T,x1,rfl⟩:=hroot
 have hwr:∀ {l':L},(M.writeL p.r p.k l' false 0).exec st=some ((),st.set p.r (c.setL p.k l' false 0)):=by
  intro l'
  simp [M.writeL,M.exec,h1,M.okS_of (get_lt h3)]
 have hlf:∀ {f:L × Bool × Nat→M Unit},(M.leafAt p.r p.k >>= f).exec st=(f (.d o1 (.sl T) x1,c.ds.testBit p.k,esAt c.es p.k)).exec st:=by
  intro f
  simp [M.exec_bind,M.leafAt,M.exec,h1,h3]
 simp only [freezeAt,hlf]
 cases o1 with
 | fro => exact ⟨st,rfl,.refl _⟩
 | deep =>
   cases p.sub with
   | none => exact ⟨_,hwr,.setL h1 h3 (by simp) rfl⟩
   | some q => exact ⟨_,by simpa [Fl.el] using hwr,.setL h1 h3 (by simp) rfl⟩
 | jnk lo hi =>
   cases p.sub with
   | none => exact ⟨_,hwr,.setL h1 h3 (by simp) rfl⟩
   | some q => exact ⟨_,by simpa [Fl.el] using hwr,.setL h1 h3 (by simp) rfl⟩
 | sha =>
   cases p.sub with
   | none => exact ⟨_,hwr,.setL h1 h3 (by simp) rfl⟩
   | some q => exact ⟨st,by simp [M.exec_pure,Fl.el],.refl _⟩
 | frt =>
   cases p.sub with
   | none => exact ⟨_,hwr,.setL h1 h3 (by simp) rfl⟩
   | some q => exact ⟨st,by simp [M.exec_pure,Fl.el],.refl _⟩
theorem freezes_ok : ∀ {ps : List Pl} {st ex : St} {F : FS} {S : Nat → Nat → BS}, Rl G fl (st ++ ex) a w vals B F S → (∀ p, p ∈ ps → ∃ o t, ∃ x : List t.C, (place p).exec st = some (.d o (.sl t) x, st)) →
 ∃ st' F' S', (freezes ps).exec st = some ((), st') ∧ Rl G fl (st' ++ ex) a w vals B F' S' ∧ st'.length = st.length ∧ Keeps vals B w (st ++ ex) (st' ++ ex) ∧ (∀ b o, F b o → F' b o) ∧ (∀ i k b, S' i k b → S i k b) ∧ PlKeep st st' ∧
   ∀ p,p∈ps→∃ t,∃ x:List t.C,(place p).exec st'=some (.d .fro (.sl t) x,st')
 | [],st,ex,F,S,h,_ => ⟨st,F,S,rfl,h,rfl,.refl _ _ _ _,fun _ _ h => h,fun _ _ _ h => h,.refl _,by simp⟩
 | p::ps,st,ex,F,S,h,hp => by
   obtain ⟨o,t,x,hpl⟩:=hp p (by simp)
   obtain ⟨st1,h1,h2⟩:=freezeAt_run hpl
   obtain ⟨e1,e2⟩:=M.exec_append _ ex h1
   obtain ⟨F1,S1,g1,g2,g3,g4⟩:=freezeAt_ok h e1
   have hfro:(place p).exec st1=some (.d .fro (.sl t) x,st1):=by
     obtain ⟨o',k1,_⟩:=h2 p o t x hpl
     obtain ⟨_,_,_,_,_,k2⟩:=freezeAt_rep h (M.exec_append _ ex hpl).1 e1
     have k3:=(M.exec_append _ ex k1).1
     rw [k3] at k2
     simp only [Option.some.injEq,Prod.mk.injEq,and_true,L.d.injEq] at k2
     rw [k1,k2.1]
   obtain ⟨st2,F2,S2,m1,m2,m3,m4,m5,m6,m7,m8⟩:=freezes_ok g1 fun q hq => by
     obtain ⟨o1,t1,x1,hq1⟩:=hp q (List.mem_cons_of_mem _ hq)
     obtain ⟨o2,k1,_⟩:=h2 q o1 t1 x1 hq1
     exact ⟨o2,t1,x1,k1⟩
   refine ⟨st2,F2,S2, ?_,m2,m3.trans e2,g2.trans m4,fun b o hb => m5 b o (g3 b o hb),fun i k b hb => g4 i k b (m6 i k b hb),h2.trans m7,fun q hq => ?_⟩
   · simp only [freezes, M.exec_bind, h1, Option.bind_some]
     exact m1
   · rcases List.mem_cons.1 hq with rfl | hq
     · obtain ⟨o', k1, k2⟩ := m7 q .fro t x hfro
       exact ⟨t,x,by rw [k1,k2 rfl]⟩
     · exact m8 q hq
theorem snapLs_ok {st1 st2 : St} (hk : PlKeep st1 st2) : ∀ {ls ls' pre : List L} {ps : List Pl} {c : Cell} {r : Nat} {S : Nat → Nat → BS} {ex : St}, (snapLs ls).exec st1 = some ((ls', ps), st') →
 (∀ p,p∈ps→∃ t,∃ x:List t.C,(place p).exec st2=some (.d .fro (.sl t) x,st2))→Rl G fl (st2 ++ ex) a w vals B F S→ex[r]?=some c→c.ls=pre ++ ls→(∀ z,c.ck=.box z→z=false) →
 st'=st1∧ls'.length=ls.length∧∃ S',Rl G fl (st2 ++ ex.set r { c with ls:=pre ++ ls' }) a w vals B F S'∧∀ i k b,S' i k b→S i k b
 | [],ls',pre,ps,c,r,S,ex,hx,hp,h,hc,hl,_ => by
   simp only [snapLs] at hx
   obtain ⟨e,rfl⟩:=M.pure_some hx
   obtain ⟨rfl,rfl⟩:=Prod.mk.inj e
   have hce:({ c with ls:=pre ++ [] }:Cell)=c:=by rw [← hl]
   refine ⟨rfl,rfl,S, ?_,fun _ _ _ h => h⟩
   rw [hce,set_self hc]
   exact h
 | l::ls,ls',pre,ps,c,r,S,ex,hx,hp,h,hc,hl,hbox => by
   simp only [snapLs] at hx
   obtain ⟨⟨l1,p1⟩,s1,h1,h2⟩:=M.bind_some hx
   obtain ⟨⟨ls1,p2⟩,s2,h3,h4⟩:=M.bind_some h2
   obtain ⟨e,rfl⟩:=M.pure_some h4
   obtain ⟨rfl,rfl⟩:=Prod.mk.inj e
   have hlk:c.ls[pre.length]?=some l:=by rw [hl]; simp
   have stay:s1=st1→l1=l→st'=st1∧(l1::ls1).length=(l::ls).length∧∃ S',Rl G fl (st2 ++ ex.set r { c with ls:=pre ++ l1::ls1 }) a w vals B F S'∧∀ i k b,S' i k b→S i k b:=by
     rintro rfl rfl
     obtain ⟨k1,k2,S',k3,k4⟩:=snapLs_ok (pre:=pre ++ [l1]) hk h3 (fun p hpm => hp p (List.mem_append_right _ hpm)) h hc (by rw [hl]; simp) hbox
     exact ⟨k1,by simp [k2],S',by simpa using k3,k4⟩
   unfold snap1 at h1
   split at h1
   · rename_i p rg
     obtain ⟨x,s3,h5,h6⟩:=M.bind_some h1
     obtain ⟨e,rfl⟩:=M.pure_some h6
     obtain ⟨rfl,rfl⟩:=Prod.mk.inj e
     simp only [snap] at h5
     obtain ⟨l0,s4,h7,h8⟩:=M.bind_some h5
     obtain ⟨rfl,c0,l00,q1,q2,q3,q4⟩:=place_ok h7
     obtain ⟨rfl,rfl⟩:=M.pure_some h8
     obtain ⟨o,t,x,rfl⟩:=subOf_some q4
     obtain ⟨o',k1,_⟩:=hk p o t x h7
     obtain ⟨t',x',k2⟩:=hp p (by simp)
     rw [k1] at k2
     simp only [Option.some.injEq,Prod.mk.injEq,and_true,L.d.injEq,Ty.sl.injEq] at k2
     obtain ⟨rfl,rfl,k2⟩:=k2
     cases k2
     -- what the link says,in the state where the place is shared
     have hct:(st2 ++ ex)[st2.length+r]?=some c:=by rw [List.getElem?_append_right (by omega)]; simpa using hc
     obtain ⟨u,hu⟩:=h.val_at hct hlk
     obtain ⟨_,c3,o3,t3,x3,hv3,heq,hpl⟩:=placed h (M.exec_append _ ex k1).1
     cases heq
     have hr:=hpl.link hpl.nd (h.leaf _ _ _ _ _ hct hlk hu).2
     have hrep:LRep F w (froL (cutL rg (.d o (.sl t) x))) u (S (st2.length+r) (pre.length+1)):=CRep.sl ((hpl.fro rfl).cut hr)
     have h9:=h.coSlot (d:=false) (e:=0) (S0':=S (st2.length+r) (pre.length+1)) hct hlk hu ⟨fun _ _ h => h,fun _ _ h => .inl h,fun _ h => h⟩ hbox hrep trivial (.inr (.inr (.inr (.inl ⟨_,rfl,rfl⟩))))
     rw [setL_ff,List.set_append_right _ _ (by omega),Nat.add_sub_cancel_left] at h9
     have hls:c.ls.set pre.length (froL (cutL rg (.d o (.sl t) x)))=(pre ++ [froL (cutL rg (.d o (.sl t) x))]) ++ ls:=by rw [hl]; simp
     obtain ⟨m1, m2, S', m3, m4⟩ := snapLs_ok (r := r) (c := { c with ls := c.ls.set pre.length (froL (cutL rg (.d o (.sl t) x))) }) (pre := pre ++ [froL (cutL rg (.d o (.sl t) x))]) hk h3 (fun p hpm => hp p (List.mem_append_right _ hpm)) h9
        (by rw [get_set (get_lt hc)]; simp) hls hbox
     refine ⟨m1,by simp [m2],S',by simpa using m3,fun i k b hb => ?_⟩
     have:=m4 i k b hb
     by_cases e:i=st2.length+r∧k=pre.length+1
     · obtain ⟨rfl,rfl⟩:=e; rw [upS_self] at this; exact this
     · rw [upS_ne e] at this; exact this
   · obtain ⟨e, rfl⟩ := M.pure_some h1
     obtain ⟨rfl,rfl⟩:=Prod.mk.inj e
     exact stay rfl rfl
theorem snapAs_ok {st1 st2 : St} (hk : PlKeep st1 st2) : ∀ {as : List Arg} {cs : List Cell} {ps : List Pl} {pre : St} {S : Nat → Nat → BS}, (snapAs as).exec st1 = some ((cs, ps), st') →
 (∀ p,p∈ps→∃ t,∃ x:List t.C,(place p).exec st2=some (.d .fro (.sl t) x,st2))→Rl G fl (st2 ++ (pre ++ as.map (·.cell.unpin))) a w vals B F S→(∀ x,x∈as→∀ z,x.cell.ck=.box z→z=false) →
 st'=st1∧cs.length=as.length∧(∀ (i:Nat) (x:Arg) (c:Cell),as[i]?=some x→cs[i]?=some c→c.ck=x.cell.ck)∧∃ S',Rl G fl (st2 ++ (pre ++ cs.map (·.unpin))) a w vals B F S'∧∀ i k b,S' i k b→S i k b
 | [],cs,ps,pre,S,hx,hp,h,_ => by
   simp only [snapAs] at hx
   obtain ⟨e,rfl⟩:=M.pure_some hx
   obtain ⟨rfl,rfl⟩:=Prod.mk.inj e
   exact ⟨rfl,rfl,by simp,S,h,fun _ _ _ h => h⟩
 | x::as,cs,ps,pre,S,hx,hp,h,hbox => by
   simp only [snapAs] at hx
   obtain ⟨⟨ls1,p1⟩,s1,h1,h2⟩:=M.bind_some hx
   obtain ⟨⟨cs1,p2⟩,s2,h3,h4⟩:=M.bind_some h2
   obtain ⟨e,rfl⟩:=M.pure_some h4
   obtain ⟨rfl,rfl⟩:=Prod.mk.inj e
   obtain ⟨k1,k2,S1,k3,k4⟩:=snapLs_ok (r:=pre.length) (c:=x.cell.unpin) (pre:=[]) (ex:=pre ++ (x::as).map (·.cell.unpin)) hk h1 (fun p hpm => hp p (List.mem_append_left _ hpm)) h (by simp) rfl (hbox x (by simp))
   rw [k1] at h3
   have e2:(pre ++ (x::as).map (·.cell.unpin)).set pre.length { x.cell.unpin with ls:=[] ++ ls1 }=(pre ++ [({ x.cell with ls:=ls1 }:Cell).unpin]) ++ as.map (·.cell.unpin):=by simp [Cell.unpin]
   rw [e2] at k3
   obtain ⟨m1,m2,m3,S2,m4,m5⟩:=snapAs_ok hk h3 (fun p hpm => hp p (List.mem_append_right _ hpm)) k3 (fun y hy => hbox y (List.mem_cons_of_mem _ hy))
   refine ⟨m1,by simp [m2],fun i y c hy hc => ?_,S2,by simpa using m4,fun i k b hb => k4 i k b (m5 i k b hb)⟩
   cases i with
   | zero =>
     simp only [List.getElem?_cons_zero,Option.some.injEq] at hy hc
     subst hy; subst hc
     rfl
   | succ i => exact m3 i y c (by simpa using hy) (by simpa using hc)
theorem snapLs_places : ∀ {ls ls' : List L} {ps : List Pl} {st st' : St}, (snapLs ls).exec st = some ((ls', ps), st') → st' = st ∧ ∀ p, p ∈ ps → ∃ o t, ∃ x : List t.C, (place p).exec st = some (.d o (.sl t) x, st)
 | [],ls',ps,st,st',hx => by
   simp only [snapLs] at hx
   obtain ⟨e,rfl⟩:=M.pure_some hx
   obtain ⟨rfl,rfl⟩:=Prod.mk.inj e
   exact ⟨rfl,by simp⟩
 | l::ls,ls',ps,st,st',hx => by
   simp only [snapLs] at hx
   obtain ⟨⟨l1,p1⟩,s1,h1,h2⟩:=M.bind_some hx
   obtain ⟨⟨ls1,p2⟩,s2,h3,h4⟩:=M.bind_some h2
   obtain ⟨e,rfl⟩:=M.pure_some h4
   obtain ⟨rfl,rfl⟩:=Prod.mk.inj e
   have key:s1=st∧∀ p,p∈p1→∃ o t,∃ x:List t.C,(place p).exec st=some (.d o (.sl t) x,st):=by
     unfold snap1 at h1
     split at h1
     · obtain ⟨x, s3, h5, h6⟩ := M.bind_some h1
       obtain ⟨e,rfl⟩:=M.pure_some h6
       obtain ⟨rfl,rfl⟩:=Prod.mk.inj e
       simp only [snap] at h5
       obtain ⟨l0,s4,h7,h8⟩:=M.bind_some h5
       obtain ⟨rfl,c0,l00,q1,q2,q3,q4⟩:=place_ok h7
       obtain ⟨rfl,rfl⟩:=M.pure_some h8
       obtain ⟨o,t,x,rfl⟩:=subOf_some q4
       refine ⟨rfl,fun p hp => ?_⟩
       simp only [List.mem_singleton] at hp
       subst hp
       exact ⟨o,t,x,h7⟩
     · obtain ⟨e, rfl⟩ := M.pure_some h1
       obtain ⟨rfl,rfl⟩:=Prod.mk.inj e
       exact ⟨rfl,by simp⟩
   obtain ⟨rfl,k1⟩:=key
   obtain ⟨rfl,k2⟩:=snapLs_places h3
   exact ⟨rfl,fun p hp => (List.mem_append.1 hp).elim (k1 p) (k2 p)⟩
theorem snapAs_places : ∀ {as : List Arg} {cs : List Cell} {ps : List Pl} {st st' : St}, (snapAs as).exec st = some ((cs, ps), st') → st' = st ∧ ∀ p, p ∈ ps → ∃ o t, ∃ x : List t.C, (place p).exec st = some (.d o (.sl t) x, st)
 | [],cs,ps,st,st',hx => by
   simp only [snapAs] at hx
   obtain ⟨e,rfl⟩:=M.pure_some hx
   obtain ⟨rfl,rfl⟩:=Prod.mk.inj e
   exact ⟨rfl,by simp⟩
 | x::as,cs,ps,st,st',hx => by
   simp only [snapAs] at hx
   obtain ⟨⟨ls1,p1⟩,s1,h1,h2⟩:=M.bind_some hx
   obtain ⟨⟨cs1,p2⟩,s2,h3,h4⟩:=M.bind_some h2
   obtain ⟨e,rfl⟩:=M.pure_some h4
   obtain ⟨rfl,rfl⟩:=Prod.mk.inj e
   obtain ⟨rfl,k1⟩:=snapLs_places h1
   obtain ⟨rfl,k2⟩:=snapAs_places h3
   exact ⟨rfl,fun p hp => (List.mem_append.1 hp).elim (k1 p) (k2 p)⟩
def capCell (l:L):Cell:=⟨.val .one,[l],false,false,false,0,0⟩
theorem caps_ok : ∀ {caps : List L} {us : List Value} {st : St} {a : Act} {vals : VS} {B : Nat → Nat} {S : Nat → Nat → BS}, Rl G [] st a w vals B F S → caps.length = us.length →
 (∀ (i:Nat) (l:L) (u:Value),caps[i]?=some l→us[i]?=some u→CRep F w l u)→Ones us →
 ∃ vals' B' S',Rl G [] (st ++ caps.map capCell) ⟨a.tmps ++ us.toArray,a.defers⟩ w vals' B' F S'∧(∀ i,i<st.length→vals' i=vals i∧B' i=B i)∧∀ i k b,S' i k b→S i k b
 | [],us,st,a,vals,B,S,h,hlen,_,_ => by
   cases us with
   | nil => exact ⟨vals,B,S,by simpa using h,fun _ _ => ⟨rfl,rfl⟩,fun _ _ _ h => h⟩
   | cons => simp at hlen
 | l::caps,us,st,a,vals,B,S,h,hlen,hc,hone => by
   cases us with
   | nil => simp at hlen
   | cons u us =>
     have hl:=(hc 0 l u rfl rfl).ol (st:=st) (vals:=vals) (B:=B)
     have h1 := h.append (c := capCell l) (us := [u]) (v := u) (b := 0) (T := fun _ _ => False) rfl ⟨rfl, rfl, fun v hv => hone v (by simp at hv; simp [hv])⟩
        (fun k l' u' hl' hu' => by
         cases k with
         | zero => simp [capCell] at hl' hu'; subst hl'; subst hu'; exact hl
         | succ k => simp [capCell] at hl')
        (fun k y hy => hy.elim) (fun k k' y _ hy => hy.elim)
     obtain ⟨vals',B',S',g1,g2,g3⟩:=caps_ok h1 (by simpa using hlen) (fun i l' u' hl' hu' => hc (i+1) l' u' (by simpa using hl') (by simpa using hu')) (fun v hv => hone v (List.mem_cons_of_mem _ hv))
     refine ⟨vals',B',S',by simpa using g1,fun i hi => ?_,fun i k b hb => ?_⟩
     · obtain ⟨m1, m2⟩ := g2 i (by simp; omega)
       exact ⟨m1.trans (ext_ne (by omega)),m2.trans (ext_ne (by omega))⟩
     · have := g3 i k b hb
       split at this
       · exact this.elim
       · split at this
         · exact this
         · exact this.elim
end
end GoV

/- Calls: into the callee, and out again. -/
namespace GoV
open Go

def noRef (cs:List Cell):Prop:=∀ c,c∈cs→∀ l,l∈c.ls→l.ref=false
def CallOK (P:Program) (call:CallT):Prop :=
 ∀ (f : FuncId) (cells : List Cell) (res : Val) (fin : List Cell), (call f cells).get = some (res, fin) → ∀ (G : Ctx) (vals : VS) (B : Nat → Nat) (S : Nat → Nat → BS), noRef cells → Rl G [] cells ⟨G.args, []⟩ G.w0 vals B G.F0 S →
   Calls P f G.args G.w0 fun e w' => ∃ v us, e = .returned v ∧ VR res.sh us v ∧ Ones us ∧ res.ls.length = us.length ∧ fin.length = cells.length ∧ noRef fin ∧ (∀ l, l ∈ res.ls → l.ref = false) ∧
    ∃ a' vals' B' F' S',Rl G (res.ls.zip us) fin a' w' vals' B' F' S'
def Enters (P:Program) (call:CallT):Prop :=
 ∀ (f : FuncId) (cells : List Cell) (r : Val × List Cell), (call f cells).get = some r → ∃ fn, P.funcs[f]? = some fn ∧ (fn.name == "runtime.NumGoroutine") = false ∧ fn.body.isSome = true
theorem link_of_ref {st:St} {vals:VS} {B:Nat→Nat} {w:World} {l:L} {u:Value} (h:l.ref=false):LinkOK st vals B w l u:=by cases l <;> first | trivial | cases h

section
variable {G:Ctx} {fl:List (L × Value)} {st st':St} {a:Act} {w w':World} {vals vals':VS} {B B':Nat→Nat} {F F':FS} {S:Nat→Nat→BS} {E:Env} {P:Program}

def Ctx.callee (w:World) (F:FS) (S:Nat→Nat→BS) (n:Nat) (args:Array Value):Ctx :=
 ⟨w,F,fun b => b<w.heap.size∧¬ ∃ i k,S (n+i) k b,fun b => ∃ i k,S (n+i) k b,args⟩
theorem Rl.enter {cells : List Cell} {args : List Value} (h : Rl G [] (st ++ cells.map (·.unpin)) a w vals B F S) {tm : Array Value} (htm : a.tmps = tm ++ args.toArray) (hsz : tm.size = st.length) (hr : noRef cells) :
 Rl (Ctx.callee w F S st.length args.toArray) [] cells ⟨args.toArray,[]⟩ w (fun i => vals (st.length+i)) (fun i => B (st.length+i)) F (fun i k => S (st.length+i) k):=by
 have hget:∀ {i c},cells[i]?=some c→(st ++ cells.map (·.unpin))[st.length+i]?=some c.unpin:=by
  intro i c hc
  rw [List.getElem?_append_right (by omega),Nat.add_sub_cancel_left,List.getElem?_map,hc]
  rfl
 have hlen:args.toArray.size=cells.length:=by
  have:=h.sz
  rw [htm] at this
  simp only [Array.size_append,List.size_toArray,List.length_append,List.length_map] at this
  simp only [List.size_toArray]
  omega
 have htmp:∀ i,a.tmps.getD (st.length+i) undef=args.toArray.getD i undef:=by
  intro i
  rw [htm]
  simp only [Array.getD_eq_getD_getElem?,Array.getElem?_append]
  rw [if_neg (by omega)]
  congr 2
  omega
 refine ⟨hlen, rfl, fun i c hc => ?_, fun i c k l u hc hl hu => ?_, fun k l u hf => by simp at hf, fun i k i' k' b hne hb hb' => h.disj _ _ _ _ b (fun e => hne (by simp only [Prod.mk.injEq] at e ⊢; omega)) hb hb',
  fun i k b hb => ⟨(h.sub _ _ b hb).1,fun hu => hu.2 ⟨i,k,hb⟩,fun _ => ⟨i,k,hb⟩⟩,fun b o hb => ⟨(h.fz b o hb).1,.inl hb⟩,fun b o hb => ⟨hb,fun v hv => hv⟩,fun b hb => ⟨hb.1,rfl⟩,⟨rfl,rfl,rfl,Nat.le_refl _⟩,fun i c hc hp => rfl⟩
 · have := h.cell _ _ (hget hc)
   rw [htmp] at this
   simpa [CellOK,Cell.unpin] using this
 · obtain ⟨g1, g2⟩ := h.leaf _ _ k l u (hget hc) hl hu
   exact ⟨g1,link_of_ref (hr c (List.mem_of_getElem? hc) l (List.mem_of_getElem? hl))⟩
theorem Rl.link_near (h : Rl G fl st a w vals B F S) (hf : ∀ b o u, F b o → cellAt w b o = some u → cellAt w' b o = some u) (hs : ∀ i k b, i < st.length → S i k b → w'.heap[b]? = w.heap[b]?)
 {l:L} {u:Value} (hk:LinkOK st vals B w l u):LinkOK st vals B w' l u:=by
 have head:∀ {p:Pl} {t n hv},PlHd st vals w p t n hv→PlHd st vals w' p t n hv:=by
  rintro p t n hv ⟨c,o,t0,x0,h0,hc,hl,hu,hm⟩
  refine ⟨c,o,t0,x0,h0,hc,hl,hu, ?_⟩
  obtain ⟨pr,pk,ps⟩:=p
  cases ps with
  | none => exact hm
  | some q =>
    obtain ⟨j,i⟩:=q
    obtain ⟨e,o',y,b,off,C,g1,g2,g3,rfl,rfl⟩:=hm
    refine ⟨e,o',y,b,off,C,g1,g2,g3,rfl, ?_⟩
    obtain ⟨h1,u,h2⟩:=h.row_cell (r:=pr) (k:=pk) hc hl hu g1 (getL_lt g2)
    simp only [cv,h2]
    rcases h1 with h1 | h1
    · rw [cellAt_of_heap (hs _ _ _ (get_lt hc) h1),h2]
    · rw [hf _ _ _ h1 h2]
 cases l with
 | lent p rg => exact hk.imp id fun ⟨t,n,hv,hp,hu⟩ => ⟨t,n,hv,head hp,hu⟩
 | eptr p j o => exact hk.imp id fun ⟨t,n,b,off,C,hp,hu⟩ => ⟨t,n,b,off,C,head hp,hu⟩
 | _ => exact hk
theorem Rl.leave {ex : St} {Sx Sc : Nat → Nat → BS} {F0 : FS} {args : Array Value} {fin : List Cell} {a' : Act} {FX : FS} (h : Rl G [] (st ++ ex) a w vals B F S) (hlow : LowSt st.length st)
 (hc:Rl (Ctx.callee w F0 Sc st.length args) fl fin a' w' vals' B' F' Sx) {tm:Array Value} (hsz:tm.size=st.length) (htm:∀ i,i<st.length→tm.getD i undef=a.tmps.getD i undef)
 (hSc:∀ i k b,Sc (st.length+i) k b→b<w.heap.size∧¬ G.U b∧(b<G.w0.heap.size→G.SA b)∧∀ i' k',i'<st.length→¬ S i' k' b) (hF0:∀ b o,F b o→F0 b o) (hFX1:∀ b o,F b o→FX b o) (hFX2:∀ b o,FX b o→F' b o)
 (hFX3:∀ b o,FX b o→F b o∨(∃ i k,Sc (st.length+i) k b)∨¬ b<w.heap.size) (hnf:noRef fin) (hnl:∀ (k:Nat) (l:L) (u:Value),fl[k]?=some (l,u)→l.ref=false)
 (hcell:∀ (i:Nat) (c:Cell),fin[i]?=some c→CellOK FX w' (vals' i) (B' i) (Sx i 0) c (a'.tmps.getD i undef)) (hleaf:∀ (i:Nat) (c:Cell) (k:Nat) (l:L) (u:Value),fin[i]?=some c→c.ls[k]?=some l→(vals' i)[k]?=some u→LRep FX w' l u (Sx i (k+1)))
 (hfl:∀ (k:Nat) (l:L) (u:Value),fl[k]?=some (l,u)→LRep FX w' l u (Sx fin.length (k+1))) :
 Rl G fl (st ++ fin.map (·.unpin)) ⟨tm ++ a'.tmps, []⟩ w' (fun i => if i < st.length then vals i else vals' (i - st.length)) (fun i => if i < st.length then B i else B' (i - st.length)) FX
  (fun i k => if i<st.length then S i k else Sx (i - st.length) k):=by
 have hUs:∀ b,b<w.heap.size→(¬ ∃ i k,Sc (st.length+i) k b)→w'.heap[b]?=w.heap[b]?:=fun b h1 h2 => (hc.un b ⟨h1,h2⟩).2
 have hS:∀ i k b,i<st.length→S i k b→w'.heap[b]?=w.heap[b]?:=fun i k b hi hb => hUs b (h.sub i k b hb).1 fun ⟨i',k',h2⟩ => (hSc i' k' b h2).2.2.2 i k hi hb
 have hFw:∀ b o u,F b o→cellAt w b o=some u→cellAt w' b o=some u:=fun b o u hb hu => (hc.f0 b o (hF0 b o hb)).2 u hu
 have hgr:∀ i k,i<st.length→Grow F FX (S i k):=fun i k hi => ⟨hFX1,fun b o hb ho => by
  rcases hFX3 b o ho with h1 | ⟨i',k',h1⟩ | h1
  · exact h1
  · exact absurd hb ((hSc i' k' b h1).2.2.2 i k hi)
  · exact absurd (h.sub i k b hb).1 h1⟩
 have hlen:(st ++ fin.map (·.unpin)).length=st.length+fin.length:=by simp
 have hget:∀ {i q},(st ++ fin.map (·.unpin))[i]?=some q→(i<st.length∧st[i]?=some q)∨(¬ i<st.length∧∃ c,fin[i - st.length]?=some c∧q=c.unpin):=by
  intro i q hq
  by_cases hi:i<st.length
  · rw [List.getElem?_append_left hi] at hq; exact .inl ⟨hi,hq⟩
  · rw [List.getElem?_append_right (by omega), List.getElem?_map] at hq
    obtain ⟨c,h1,h2⟩:=Option.map_eq_some_iff.1 hq
    exact .inr ⟨hi,c,h1,h2.symm⟩
 have hsh:=h.shrink (tm:=tm) hsz htm hlow (by simp)
 have link : ∀ {l u}, l.low st.length → LinkOK (st ++ ex) vals B w l u →
  LinkOK (st ++ fin.map (·.unpin)) (fun i => if i<st.length then vals i else vals' (i - st.length)) (fun i => if i<st.length then B i else B' (i - st.length)) w' l u:=by
  intro l u hl hk
  have h1:LinkOK st vals B w l u:=hk.near (n:=st.length) (fun i hi => (List.getElem?_append_left hi).symm) (fun _ _ => rfl) (fun _ _ => rfl) hl
  have h2:=hsh.link_near (w':=w') hFw (fun i k b hi hb => hS i k b hi (by rw [if_neg (by omega),if_pos hi] at hb; exact hb)) h1
  exact h2.near (n:=st.length) (fun i hi => List.getElem?_append_left hi) (fun i hi => if_pos hi) (fun i hi => if_pos hi) hl
 have htl:∀ {i},i<st.length→(tm ++ a'.tmps).getD i undef=a.tmps.getD i undef:=by
  intro i hi
  rw [← htm i hi]
  simp only [Array.getD_eq_getD_getElem?,Array.getElem?_append]
  rw [if_pos (by omega)]
 have htr:∀ {i},¬ i<st.length→(tm ++ a'.tmps).getD i undef=a'.tmps.getD (i - st.length) undef:=by
  intro i hi
  simp only [Array.getD_eq_getD_getElem?,Array.getElem?_append]
  rw [if_neg (by omega),hsz]
 have hsz':=hc.sz
 refine ⟨by simp [hsz,hsz'],rfl,fun i q hq => ?_,fun i q k l u hq hl hu => ?_,fun k l u hf => ?_,fun i k i' k' b hne hb hb' => ?_,fun i k b hb => ?_,fun b o hb => ?_,fun b o hb => ?_,fun b hb => ?_, ?_,fun i q hq hp => ?_⟩
 · rcases hget hq with ⟨hi, hq⟩ | ⟨hi, c, hq1, rfl⟩
   · rw [if_pos hi, if_pos hi, if_pos hi, htl hi]
     exact (h.cell i q (by rw [List.getElem?_append_left hi]; exact hq)).stable ⟨hFw,fun b hb => hS i 0 b hi hb⟩ (hgr i 0 hi)
   · rw [if_neg hi, if_neg hi, if_neg hi, htr hi]
     simpa [CellOK,Cell.unpin] using hcell _ c hq1
 · rcases hget hq with ⟨hi, hq⟩ | ⟨hi, c, hq1, rfl⟩
   · rw [if_pos hi] at hu ⊢
     obtain ⟨g1,g2⟩:=h.leaf i q k l u (by rw [List.getElem?_append_left hi]; exact hq) hl hu
     exact ⟨g1.stable ⟨hFw,fun b hb => hS i (k+1) b hi hb⟩ (hgr i (k+1) hi),link (hlow i k q l hq hl) g2⟩
   · rw [if_neg hi] at hu ⊢
     exact ⟨hleaf _ c k l u hq1 hl hu,link_of_ref (hnf c (List.mem_of_getElem? hq1) l (List.mem_of_getElem? hl))⟩
 · rw [hlen, if_neg (by omega), Nat.add_sub_cancel_left]
   exact ⟨hfl k l u hf,link_of_ref (hnl k l u hf)⟩
 · by_cases hi : i < st.length <;> by_cases hi' : i' < st.length
   · rw [if_pos hi] at hb
     rw [if_pos hi'] at hb'
     exact h.disj i k i' k' b hne hb hb'
   · rw [if_pos hi] at hb
     rw [if_neg hi'] at hb'
     exact (hc.sub _ _ b hb').2.1 ⟨(h.sub i k b hb).1,fun ⟨j,k2,h2⟩ => (hSc j k2 b h2).2.2.2 i k hi hb⟩
   · rw [if_neg hi] at hb
     rw [if_pos hi'] at hb'
     exact (hc.sub _ _ b hb).2.1 ⟨(h.sub i' k' b hb').1,fun ⟨j,k2,h2⟩ => (hSc j k2 b h2).2.2.2 i' k' hi' hb'⟩
   · rw [if_neg hi] at hb
     rw [if_neg hi'] at hb'
     exact hc.disj _ _ _ _ b (fun e => hne (by simp only [Prod.mk.injEq] at e ⊢; omega)) hb hb'
 · by_cases hi : i < st.length
   · rw [if_pos hi] at hb
     exact ⟨Nat.lt_of_lt_of_le (h.sub i k b hb).1 hc.wo.2.2.2,(h.sub i k b hb).2⟩
   · rw [if_neg hi] at hb
     obtain ⟨g1,g2,g3⟩:=hc.sub _ _ b hb
     refine ⟨g1,fun hu => ?_,fun hlt => ?_⟩
     · have hlt : b < w.heap.size := Nat.lt_of_lt_of_le (h.un b hu).1 h.wo.2.2.2
       obtain ⟨j,k2,h2⟩:=g3 hlt
       exact (hSc j k2 b h2).2.1 hu
     · obtain ⟨j, k2, h2⟩ := g3 (Nat.lt_of_lt_of_le hlt h.wo.2.2.2)
       exact (hSc j k2 b h2).2.2.1 hlt
 · refine ⟨(hc.fz b o (hFX2 b o hb)).1, ?_⟩
   rcases hFX3 b o hb with h1 | ⟨j,k2,h1⟩ | h1
   · exact (h.fz b o h1).2
   · by_cases e : b < G.w0.heap.size
     · exact .inr (.inr ((hSc j k2 b h1).2.2.1 e))
     · exact .inr (.inl e)
   · exact .inr (.inl fun e => h1 (Nat.lt_of_lt_of_le e h.wo.2.2.2))
 · exact ⟨hFX1 b o (h.f0 b o hb).1,fun v hv => hFw b o v (h.f0 b o hb).1 ((h.f0 b o hb).2 v hv)⟩
 · obtain ⟨g1, g2⟩ := h.un b hb
   exact ⟨g1,(hUs b (Nat.lt_of_lt_of_le g1 h.wo.2.2.2) fun ⟨j,k2,h2⟩ => (hSc j k2 b h2).2.1 hb).trans g2⟩
 · obtain ⟨g1, g2, g3, g4⟩ := hc.wo
   obtain ⟨k1,k2,k3,k4⟩:=h.wo
   exact ⟨g1.trans k1,g2.trans k2,g3.trans k3,Nat.le_trans k4 g4⟩
 · rcases hget hq with ⟨hi, hq⟩ | ⟨hi, c, hq, rfl⟩
   · rw [htl hi]
     exact h.pin i q (by rw [List.getElem?_append_left hi]; exact hq) hp
   · cases hp
theorem VR.inj {sh:Sh} {us us':List Value} {v:Value} (h:VR sh us v) (h':VR sh us' v) (ht:isArg sh=true):us=us':=by
 cases sh with
 | one => simp only [VR] at h h'; rw [h,h']
 | agg =>
   simp only [VR] at h h'
   rw [h] at h'
   simpa using h'
 | clo f =>
   simp only [VR] at h h'
   rw [h] at h'
   simpa using h'
 | tup ns => cases ht
theorem LRep.quiet {l:L} {u:Value} {S0:BS} (h:LRep F' w l u S0) (hq:l.quiet=true) (hF:∀ b o,F b o→F' b o):LRep F w l u S0:=by
 cases l with
 | d o T x =>
   cases o with
   | deep =>
     cases T with
     | sl t => exact ⟨h.1,fun b hb o ho => h.2 b hb o (hF b o ho)⟩
     | int k => exact h.elim
     | bool => exact h.elim
     | pair p q => exact h.elim
     | unit => exact h.elim
   | fro =>
     cases T with
     | int k => cases h with | d _ _ _ h1 h2 => exact .d _ _ _ h1 h2
     | bool => cases h with | d _ _ _ h1 h2 => exact .d _ _ _ h1 h2
     | sl t => simp [L.quiet,L.isDeep] at hq
     | pair p q => simp [L.quiet,L.isDeep] at hq
     | unit => simp [L.quiet,L.isDeep] at hq
   | sha => cases T <;> simp [L.quiet,L.isDeep] at hq <;> exact h.elim
   | frt => cases T <;> simp [L.quiet,L.isDeep] at hq <;> exact h.elim
   | jnk lo hi => cases T <;> simp [L.quiet,L.isDeep] at hq <;> exact h.elim
 | nil t =>
   have h':CRep F' w (.nil t) u:=h
   cases h'
   exact CRep.nil t
 | dead => trivial
 | _ => simp [L.quiet,L.isDeep] at hq
end
end GoV

/- What was lent comes back. -/
namespace GoV
open Go
section
variable {G:Ctx} {fl:List (L × Value)} {st st' s s' ex:St} {a:Act} {w w':World} {vals vals':VS} {B B':Nat→Nat} {F F':FS} {S:Nat→Nat→BS} {E:Env} {P:Program}

theorem set_app {i:Nat} {c:Cell}:(s ++ ex).set (s.length+i) c=s ++ ex.set i c:=by
 rw [List.set_append_right _ _ (by omega),Nat.add_sub_cancel_left]
theorem get_app (i:Nat):(s ++ ex)[s.length+i]?=ex[i]?:=by
 rw [List.getElem?_append_right (by omega),Nat.add_sub_cancel_left]
theorem back1_ok (h : Rl G fl (s ++ ex) a w vals B F S) {j : Nat} {cj : Cell} (hj : ex[j]? = some cj) {ap : Bool} {fin : Cell} {k : Nat} {p : Pl} {sz : Nat} (hk : cj.ls[k]? = fin.ls[k]?)
 (hb:p.r<s.length→∀ u,(vals (s.length+j))[k]?=some u→Bk vals w p sz u) (hx:(back1 ap fin k p sz).exec s=some ((),s')) :
 ∃ cj' S',Rl G fl (s' ++ ex.set j cj') a w vals B F S'∧s'.length=s.length∧cj'.ck=cj.ck∧∀ k',k'≠k→cj'.ls[k']?=cj.ls[k']?:=by
 have nothing:s'=s→∃ cj' S',Rl G fl (s' ++ ex.set j cj') a w vals B F S'∧s'.length=s.length∧cj'.ck=cj.ck∧∀ k',k'≠k→cj'.ls[k']?=cj.ls[k']?:=by
  rintro rfl
  exact ⟨cj,S,by rw [set_self hj]; exact h,rfl,rfl,fun _ _ => rfl⟩
 unfold back1 at hx
 split at hx
 · rename_i o t x hfin
   rw [hfin] at hk
   obtain ⟨hd,s1,h1,h2⟩:=M.bind_some hx
   obtain ⟨c,hc,rfl,hs1⟩:=M.peek_some h1
   rw [hs1] at h2
   obtain ⟨_,s2,h3,h4⟩:=M.bind_some h2
   obtain ⟨hop,hs2⟩:=M.must_some h3
   rw [hs2] at h4
   simp only [Cell.hd] at hop
   have hjt:(s ++ ex)[s.length+j]?=some cj:=by rw [get_app]; exact hj
   obtain ⟨u,hu⟩:=h.val_at hjt hk
   have hbk:=hb (get_lt hc) u hu
   have hct:∀ ex':St,(s ++ ex')[p.r]?=some c:=fun ex' => by rw [List.getElem?_append_left (get_lt hc)]; exact hc
   -- the leaf is taken,and laid where it came from
   have go : ∀ {l' : L} {u' : Value}, o ≠ .fro → p.k < c.ls.length → (vals p.r)[p.k]? = some u' → (∀ S' : Nat → Nat → BS, LRep F w (.d o (.sl t) x) u (S' (s ++ ex).length (fl.length + 1)) → S' p.r (p.k + 1) = S p.r (p.k + 1) → (∀ b, S' (s ++ ex).length (fl.length + 1) b → S (s.length + j) (k + 1) b) →
        ∃ X,(∀ b,X b→S' (s ++ ex).length (fl.length+1) b∨S' p.r (p.k+1) b)∧LRep F w l' u' X)→l'.ref=false →
        ∃ cj' S',Rl G fl (s.set p.r (c.setL p.k l' true allE) ++ ex.set j cj') a w vals B F S'∧(s.set p.r (c.setL p.k l' true allE)).length=s.length∧cj'.ck=cj.ck∧∀ k',k'≠k→cj'.ls[k']?=cj.ls[k']?:=by
    intro l' u' ho hpk hu' hX href
    have h5:=h.steal hjt hk hu ho
    rw [set_app] at h5
    have hne:p.r≠s.length+j:=by have:=get_lt hc; omega
    have hlenE:(s ++ ex.set j (cj.setL k .dead false 0)).length=(s ++ ex).length:=by simp
    have hflast:=h5.fleaf fl.length _ _ List.getElem?_concat_length
    rw [hlenE] at hflast
    obtain ⟨X,x1,x2⟩:=hX _ hflast.1 (by
        rw [upS_ne (by omega),upS_ne (by simp; have:=get_lt hc; omega)]) (fun b hb => by
        rw [upS_ne (by simp; have:=get_lt hj; omega),upS_self] at hb
        exact hb)
    have h6:=h5.giveBack (l:=l') (u:=u') (X:=X) (e:=allE) (hct _) hpk hu' hop (fun b hb => by rw [hlenE]; exact x1 b hb) x2 (link_of_ref href)
    rw [List.set_append_left _ _ (get_lt hc)] at h6
    refine ⟨cj.setL k .dead false 0,_,h6,by simp,rfl,fun k' hk' => (setL_leaf hk').1⟩
   split at h4
   · split at h4
     · rename_i hap hsub
       obtain ⟨c',hc',hlt,rfl⟩:=M.writeL_some h4
       rw [hc] at hc'
       obtain rfl:=Option.some.inj hc'
       simp only [Bk,hsub] at hbk
       exact go (by simp) hlt hbk (fun S' h1 _ _ => ⟨_,fun b hb => .inl hb,h1⟩) rfl
     · exact nothing (M.pure_some h4).2
   · split at h4
     · rename_i hsub
       obtain ⟨_,s3,h5,h6⟩:=M.bind_some h4
       obtain ⟨how,hs3⟩:=M.must_some h5
       rw [hs3] at h6
       obtain ⟨c',hc',hlt,rfl⟩:=M.writeL_some h6
       rw [hc] at hc'
       obtain rfl:=Option.some.inj hc'
       simp only [Bk,hsub] at hbk
       exact go (by intro e; subst e; cases how) hlt hbk (fun S' h1 _ _ => ⟨_,fun b hb => .inl hb,h1⟩) rfl
     · rename_i jj ii hsub
       obtain ⟨q,s3,h5,h6⟩:=M.bind_some h4
       obtain ⟨c',l0,hc',hl0,rfl,hs3⟩:=M.leafAt_some h5
       rw [hs3] at h6
       rw [hc] at hc'
       obtain rfl:=Option.some.inj hc'
       simp only at h6
       split at h6
       · rename_i T y j' i' heq
         obtain ⟨_,s4,h7,h8⟩:=M.bind_some h6
         obtain ⟨hji,hs4⟩:=M.must_some h7
         rw [hs4] at h8
         simp only [Bool.and_eq_true,decide_eq_true_eq] at hji
         obtain ⟨rfl,rfl,rfl⟩:=hji
         obtain ⟨e,s9,h9,h10⟩:=M.bind_some h8
         obtain ⟨he,hs9⟩:=M.nth_some h9
         rw [hs9] at h10
         · split at h10
           · rename_i e' he'
             obtain ⟨c',hc',hlt,rfl⟩:=M.writeL_some h10
             rw [hc] at hc'
             obtain rfl:=Option.some.inj hc'
             simp only [Bk,hsub] at hbk
             obtain ⟨b,off,n,C,q1,q2⟩:=hbk
             have hhole:=(h.leaf p.r c p.k _ _ (hct ex) hl0 q1).1
             refine go (by simp) hlt q1 (fun S' k1 k2 k3 => ⟨fun z => S p.r (p.k+1) z∨S' (s ++ ex).length (fl.length+1) z,fun z hz => hz.elim (fun hz => .inr (by rw [k2]; exact hz)) .inl, ?_⟩) rfl
             obtain ⟨m3,m4⟩:=hhole
             refine ⟨m3.back rfl (X:=S' (s ++ ex).length (fl.length+1)) he he' (fun z hz hz' => ?_) ?_,fun z hz => hz.elim (m4 z) (k1.2 z)⟩
             · exact h.disj _ _ _ _ z (by simp; intro e; have:=get_lt hc; omega) hz (k3 z hz')
             · rw [← q2]; exact k1.1
           · exact (M.fail_some h10).elim
       · exact (M.fail_some h6).elim
 · exact nothing (M.pure_some hx).2
 · split at hx
   · exact nothing (M.pure_some hx).2
   · exact (M.fail_some hx).elim
theorem backL_ok {ap : Bool} {fin : Cell} {j : Nat} : ∀ {bk : List (Nat × Pl × Nat)} {s s' ex : St} {S : Nat → Nat → BS} {cj : Cell}, Rl G fl (s ++ ex) a w vals B F S → ex[j]? = some cj → onceK bk = true → (∀ q, q ∈ bk → cj.ls[q.1]? = fin.ls[q.1]?) →
 (∀ q,q∈bk→q.2.1.r<s.length→∀ u,(vals (s.length+j))[q.1]?=some u→Bk vals w q.2.1 q.2.2 u)→(backL ap fin bk).exec s=some ((),s') →
 ∃ cj' S',Rl G fl (s' ++ ex.set j cj') a w vals B F S'∧s'.length=s.length
 | [],s,s',ex,S,cj,h,hj,_,_,_,hx => by
   obtain ⟨_,rfl⟩:=M.pure_some hx
   exact ⟨cj,S,by rw [set_self hj]; exact h,rfl⟩
 | q::bk,s,s',ex,S,cj,h,hj,ho,hk,hb,hx => by
   simp only [backL] at hx
   obtain ⟨_,s1,h1,h2⟩:=M.bind_some hx
   obtain ⟨c1,S1,g1,g2,g3,g4⟩:=back1_ok h hj (hk q (by simp)) (hb q (by simp)) h1
   simp only [onceK,Bool.and_eq_true,List.all_eq_true,Bool.not_eq_true',beq_eq_false_iff_ne] at ho
   obtain ⟨c2, S2, k1, k2⟩ := backL_ok (bk := bk) (j := j) (cj := c1) g1 (by rw [get_set (get_lt hj)]; simp) ho.2 (fun q' hq' => (g4 _ (ho.1 q' hq')).trans (hk q' (List.mem_cons_of_mem _ hq')))
     (fun q' hq' => by rw [g2]; exact hb q' (List.mem_cons_of_mem _ hq')) h2
   exact ⟨c2,S2,by simpa using k1,k2.trans g2⟩
theorem Rl.giveBox (h : Rl G fl st a w vals B F S) {r i : Nat} {c ci : Cell} (hc : st[r]? = some c) (hck : c.ck = .box true) (hi : st[i]? = some ci) (hcki : ci.ck = .box false) (hne : r ≠ i) (hB : B i = B r) :
 Rl G fl ((st.set r ⟨.box false, ci.ls, c.pin, true, c.dp, c.ds, c.es⟩).set i ⟨.box true, [], ci.pin, true, ci.dp, ci.ds, ci.es⟩) a w (fun q => if q = r then vals i else if q = i then [] else vals q) B F
  (fun q k => if q=r then S i k else if q=i then fun _ => False else S q k):=by
 have hlt:=get_lt hc
 have hlti:=get_lt hi
 have hcell:=h.cell r c hc
 have hcelli:=h.cell i ci hi
 unfold CellOK at hcell hcelli
 rw [hck] at hcell
 rw [hcki] at hcelli
 obtain ⟨c1,c2,c3,c4,c5⟩:=hcell
 obtain ⟨d1,d2,d3,d4,d5,d6⟩:=hcelli
 have hle:CellLe c ⟨.box false,ci.ls,c.pin,true,c.dp,c.ds,c.es⟩:=⟨fun z _ => .inr ⟨false,rfl⟩,fun _ => rfl,id,fun _ => id,fun _ _ => id,.inl rfl⟩
 have hlei:CellLe ci ⟨.box true,[],ci.pin,true,ci.dp,ci.ds,ci.es⟩:=⟨fun z _ => .inr ⟨true,rfl⟩,fun _ => rfl,id,fun _ => id,fun _ _ => id,.inl rfl⟩
 have hi1:(st.set r (⟨.box false,ci.ls,c.pin,true,c.dp,c.ds,c.es⟩:Cell))[i]?=some ci:=by rw [get_set hlt,if_neg hne]; exact hi
 generalize hs:(st.set r (⟨.box false,ci.ls,c.pin,true,c.dp,c.ds,c.es⟩:Cell)).set i ⟨.box true,[],ci.pin,true,ci.dp,ci.ds,ci.es⟩=s2
 have hlen:s2.length=st.length:=by rw [← hs]; simp
 have hget:∀ q,s2[q]?=if i=q then some (⟨.box true,[],ci.pin,true,ci.dp,ci.ds,ci.es⟩:Cell) else if r=q then some (⟨.box false,ci.ls,c.pin,true,c.dp,c.ds,c.es⟩:Cell) else st[q]?:=by
  intro q
  rw [← hs,get_set (by simpa using hlti),get_set hlt]
 have hset:∀ {l u},LinkOK st vals B w l u→LinkOK s2 vals B w l u:=fun hk => by
  rw [← hs]; exact (hk.set hc hle).set hi1 hlei
 have link:∀ {l u},LinkOK st vals B w l u→LinkOK s2 (fun q => if q=r then vals i else if q=i then [] else vals q) B w l u:=by
  have head:∀ (p:Pl) t n hv,Gone s2 p∨PlHd s2 vals w p t n hv→Gone s2 p∨PlHd s2 (fun q => if q=r then vals i else if q=i then [] else vals q) w p t n hv:=by
   intro p t n hv hp
   by_cases e1:p.r=i
   · exact .inl ⟨_,by rw [hget,if_pos e1.symm],.inl rfl⟩
   · by_cases e2 : p.r = r
     · exact .inl ⟨_,by rw [hget,if_neg (fun e => e1 e.symm),if_pos e2.symm],.inl rfl⟩
     · exact hp.imp id fun hp => hp.revals (by rw [if_neg e2,if_neg e1])
  intro l u hk
  have h2:=hset hk
  cases l with
  | lent p rg =>
    rcases h2 with h2 | ⟨t,n,hv,h2,hu⟩
    · exact .inl h2
    · exact (head p t n hv (.inr h2)).imp id fun h2 => ⟨t,n,hv,h2,hu⟩
  | eptr p j o =>
    rcases h2 with h2 | ⟨t,n,b,off,C,h2,hu⟩
    · exact .inl h2
    · exact (head p t n _ (.inr h2)).imp id fun h2 => ⟨t,n,b,off,C,h2,hu⟩
  | ptr q o => exact h2
  | _ => trivial
 have key:∀ {q k y},(if q=r then S i k else if q=i then (fun _ => False:BS) else S q k) y→∃ q',S q' k y∧((q=r∧q'=i)∨(q≠r∧q≠i∧q'=q)):=by
  intro q k y hy
  split at hy
  · exact ⟨i,hy,.inl ⟨by assumption,rfl⟩⟩
  · split at hy
    · exact hy.elim
    · exact ⟨q,hy,.inr ⟨by assumption,by assumption,rfl⟩⟩
 refine ⟨by rw [hlen]; exact h.sz,h.df,fun q cq hq => ?_,fun q cq k l u hq hl hu => ?_,fun k l u hf => ?_,fun q k q' k' y hne' hy hy' => ?_,fun q k y hy => ?_,h.fz,h.f0,h.un,h.wo,fun q cq hq hp => ?_⟩
 · rw [hget] at hq
   split at hq
   · rename_i e; subst e
     obtain rfl:=Option.some.inj hq
     rw [if_neg (fun e => hne e.symm),if_pos rfl]
     exact ⟨rfl,d2,by simp,by simp,by simp [Ones]⟩
   · rename_i e1
     split at hq
     · rename_i e; subst e
       obtain rfl:=Option.some.inj hq
       rw [if_pos rfl,if_pos rfl]
       exact ⟨d1,c2,by rw [← hB]; exact d3,by rw [← hB]; exact d4,d5,d6⟩
     · rename_i e2
       rw [if_neg (fun e => e2 e.symm),if_neg (fun e => e1 e.symm),if_neg (fun e => e2 e.symm),if_neg (fun e => e1 e.symm)]
       exact h.cell q cq hq
 · rw [hget] at hq
   split at hq
   · obtain rfl := Option.some.inj hq
     simp at hl
   · rename_i e1
     split at hq
     · rename_i e; subst e
       obtain rfl:=Option.some.inj hq
       rw [if_pos rfl] at hu ⊢
       obtain ⟨g1,g2⟩:=h.leaf i ci k l u hi hl hu
       exact ⟨g1,link g2⟩
     · rename_i e2
       rw [if_neg (fun e => e2 e.symm),if_neg (fun e => e1 e.symm)] at hu ⊢
       obtain ⟨g1,g2⟩:=h.leaf q cq k l u hq hl hu
       exact ⟨g1,link g2⟩
 · rw [hlen, if_neg (by omega), if_neg (by omega)]
   obtain ⟨g1,g2⟩:=h.fleaf k l u hf
   exact ⟨g1,link g2⟩
 · obtain ⟨j, h2, h3⟩ := key hy
   obtain ⟨j',h4,h5⟩:=key hy'
   refine h.disj j k j' k' y (fun e => hne' ?_) h2 h4
   simp only [Prod.mk.injEq] at e ⊢
   omega
 · obtain ⟨j, h2, h3⟩ := key hy
   exact h.sub j k y h2
 · rw [hget] at hq
   split at hq
   · rename_i e; subst e
     obtain rfl:=Option.some.inj hq
     exact h.pin i ci hi hp
   · split at hq
     · rename_i e; subst e
       obtain rfl:=Option.some.inj hq
       exact h.pin r c hc hp
     · exact h.pin q cq hq hp
abbrev BackF (vals:VS) (B:Nat→Nat) (w:World) (n idx:Nat) (x:Arg) (c:Cell):Prop :=
 c.pin=true→c.ck.same x.cell.ck=true→(x.bx=none→∀ q,q∈x.bk→q.2.1.r<n→∀ u,(vals idx)[q.1]?=some u→Bk vals w q.2.1 q.2.2 u)∧(∀ r os,x.bx=some (r,os)→x.cell.ck=.box false∧B idx=B r)
theorem same_box {k k':CK} (h:k.same k'=true) (hb:k'=.box false):k=.box false:=by
 subst hb
 cases k with
 | no => cases h
 | val sh => cases sh <;> cases h
 | box z => cases z <;> first | rfl | cases h
theorem backA_ok (h : Rl G fl (s ++ ex) a w vals B F S) {j : Nat} {cj fin : Cell} {x : Arg} (hj : ex[j]? = some cj) (hck : cj.ck = fin.ck) (hls : cj.ls = fin.ls) (hf : BackF vals B w s.length (s.length + j) x fin)
 (hx:(backA x fin).exec s=some ((),s')) :
 ∃ cj' vals' F' S',Rl G fl (s' ++ ex.set j cj') a w vals' B F' S'∧s'.length=s.length∧(∀ b o,F b o→F' b o)∧∀ i,i≠s.length+j→(∀ r os,x.bx=some (r,os)→r≠i)→vals' i=vals i:=by
 unfold backA at hx
 split at hx
 · rename_i r os hbx
   obtain ⟨_,s1,h1,h2⟩:=M.bind_some hx
   obtain ⟨hpin,hs1⟩:=M.must_some h1
   rw [hs1] at h2
   simp only [Bool.and_eq_true] at hpin
   obtain ⟨f1,f2⟩:=hf hpin.1 hpin.2
   obtain ⟨f3,f4⟩:=f2 r os hbx
   obtain ⟨_,s2,h3,h4⟩:=M.bind_some h2
   obtain ⟨href,hs2⟩:=M.must_some h3
   rw [hs2] at h4
   obtain ⟨ls,s3,h5,h6⟩:=M.bind_some h4
   obtain ⟨hco,hs3⟩:=M.opt_some h5
   rw [hs3] at h6
   obtain ⟨c,s4,h7,h8⟩:=M.bind_some h6
   obtain ⟨hc,hs4⟩:=M.read_some h7
   rw [hs4] at h8
   split at h8
   · rename_i hckr
     obtain ⟨hlt,rfl⟩:=M.write_some h8
     have hbox:cj.ck=.box false:=by rw [hck]; exact same_box hpin.2 f3
     have hjt:(s ++ ex)[s.length+j]?=some cj:=by rw [get_app]; exact hj
     obtain ⟨F1,S1,g1,g2,g3⟩:=h.coLsK (pre:=[]) (by rw [← hls] at hco; exact hco) hjt rfl (fun z hz => by rw [hbox] at hz; simpa using hz.symm)
     rw [set_app] at g1
     have hct:∀ ex':St,(s ++ ex')[r]?=some c:=fun ex' => by rw [List.getElem?_append_left hlt]; exact hc
     have hi2:(s ++ ex.set j { cj with ls:=[] ++ ls })[s.length+j]?=some { cj with ls:=[] ++ ls }:=by rw [get_app,get_set (get_lt hj)]; simp
     have g4:=g1.giveBox (hct _) hckr hi2 hbox (by omega) f4
     rw [List.set_append_left _ _ hlt] at g4
     have e1:s.length+j=(s.set r (⟨.box false,[] ++ ls,c.pin,true,c.dp,c.ds,c.es⟩:Cell)).length+j:=by simp
     rw [e1,set_app] at g4
     simp only [List.nil_append,List.set_set] at g4
     refine ⟨_,_,F1,_,g4,by simp,g3,fun i hi hne => ?_⟩
     rw [if_neg (fun e => hne r os hbx e.symm),if_neg (by simpa using hi)]
   · exact (M.fail_some h8).elim
 · rename_i hbx
   split at hx
   · obtain ⟨_, rfl⟩ := M.pure_some hx
     exact ⟨cj,vals,F,S,by rw [set_self hj]; exact h,rfl,fun _ _ h => h,fun _ _ _ => rfl⟩
   · obtain ⟨_, s1, h1, h2⟩ := M.bind_some hx
     obtain ⟨hpin,hs1⟩:=M.must_some h1
     rw [hs1] at h2
     simp only [Bool.and_eq_true] at hpin
     obtain ⟨f1,f2⟩:=hf hpin.1 hpin.2
     obtain ⟨_,s2,h3,h4⟩:=M.bind_some h2
     obtain ⟨honce,hs2⟩:=M.must_some h3
     rw [hs2] at h4
     obtain ⟨cj',S',g1,g2⟩:=backL_ok h hj honce (fun q _ => by rw [hls]) (f1 hbx) h4
     exact ⟨cj',vals,F,S',g1,g2,fun _ _ h => h,fun _ _ _ => rfl⟩
theorem backs_ok : ∀ {as : List Arg} {fs : List Cell} {j : Nat} {s s' ex : St} {vals : VS} {F : FS} {S : Nat → Nat → BS}, Rl G fl (s ++ ex) a w vals B F S →
 (∀ (i:Nat) (x:Arg) (c:Cell),as[i]?=some x→fs[i]?=some c→(∃ cj,ex[j+i]?=some cj∧cj.ck=c.ck∧cj.ls=c.ls)∧BackF vals B w s.length (s.length+(j+i)) x c) →
 (∀ y,y∈as→∀ r os,y.bx=some (r,os)→∀ y',y'∈as→∀ q,q∈y'.bk→q.2.1.r≠r)→(∀ y,y∈as→∀ r os,y.bx=some (r,os)→r<s.length)→(backs as fs).exec s=some ((),s') →
 ∃ ex' vals' F' S',Rl G fl (s' ++ ex') a w vals' B F' S'∧s'.length=s.length∧∀ b o,F b o→F' b o
 | [],fs,j,s,s',ex,vals,F,S,h,_,_,_,hx => by
   unfold backs at hx
   obtain ⟨_,rfl⟩:=M.pure_some hx
   exact ⟨ex,vals,F,S,h,rfl,fun _ _ h => h⟩
 | x::as,[],j,s,s',ex,vals,F,S,h,_,_,_,hx => by
   unfold backs at hx
   exact (M.fail_some hx).elim
 | x::as,c::fs,j,s,s',ex,vals,F,S,h,hf,hap,hlt,hx => by
   unfold backs at hx
   obtain ⟨_,s1,h1,h2⟩:=M.bind_some hx
   obtain ⟨⟨cj,e1,e2,e3⟩,f1⟩:=hf 0 x c rfl rfl
   simp only [Nat.add_zero] at e1 f1
   obtain ⟨cj',vals1,F1,S1,g1,g2,g3,g4⟩:=backA_ok h e1 e2 e3 f1 h1
   have hb2:∀ (i:Nat) (y:Arg) (d:Cell),as[i]?=some y→fs[i]?=some d→(∃ ck,(ex.set j cj')[j+1+i]?=some ck∧ck.ck=d.ck∧ck.ls=d.ls)∧BackF vals1 B w s1.length (s1.length+(j+1+i)) y d:=by
     intro i y d hy hd
     obtain ⟨⟨ck,m1,m2,m3⟩,m4⟩:=hf (i+1) y d (by simpa using hy) (by simpa using hd)
     rw [show j+(i+1)=j+1+i by omega] at m1 m4
     refine ⟨⟨ck,by rw [get_set (get_lt e1),if_neg (by omega)]; exact m1,m2,m3⟩,fun p1 p2 => ?_⟩
     obtain ⟨q1,q2⟩:=m4 p1 p2
     refine ⟨fun hbn q hq hlt' u hu => ?_,by rw [g2]; exact q2⟩
     rw [g2] at hlt' hu
     have hidx:vals1 (s.length+(j+1+i))=vals (s.length+(j+1+i)):=g4 _ (by omega) (fun r os e => by have:=hlt x (by simp) r os e; omega)
     rw [hidx] at hu
     have:=q1 hbn q hq hlt' u hu
     unfold Bk at this ⊢
     rw [g4 q.2.1.r (by omega) (fun r os e => fun e' => hap x (by simp) r os e y (List.mem_cons_of_mem _ (List.mem_of_getElem? hy)) q hq e'.symm)]
     exact this
   obtain ⟨ex2, vals2, F2, S2, k1, k2, k3⟩ := backs_ok (as := as) (j := j + 1) g1 hb2 (fun y hy r os e y' hy' q hq => hap y (List.mem_cons_of_mem _ hy) r os e y' (List.mem_cons_of_mem _ hy') q hq)
     (fun y hy r os e => by rw [g2]; exact hlt y (List.mem_cons_of_mem _ hy) r os e) h2
   exact ⟨ex2,vals2,F2,S2,k1,k2.trans g2,fun b o hb => k3 b o (g3 b o hb)⟩
end
end GoV

/- A call, whole. -/
namespace GoV
open Go
section
variable {G:Ctx} {fl:List (L × Value)} {st st' s s' ex:St} {a:Act} {w w':World} {vals vals':VS} {B B':Nat→Nat} {F F':FS} {S:Nat→Nat→BS} {E:Env} {P:Program}

theorem holesOk_ok : ∀ {qs : List (Nat × Pl × Nat)} {st st' : St}, (holesOk qs).exec st = some ((), st') → st' = st ∧ ∀ q, q ∈ qs → q.2.1.sub = none ∨ ∃ c T y j i, st[q.2.1.r]? = some c ∧ c.ls[q.2.1.k]? = some (.hole T y j i)
 | [],st,st',hx => by
   obtain ⟨_,rfl⟩:=M.pure_some hx
   exact ⟨rfl,by simp⟩
 | q::qs,st,st',hx => by
   simp only [holesOk] at hx
   obtain ⟨_,s1,h1,h2⟩:=M.bind_some hx
   have key:s1=st∧(q.2.1.sub=none∨∃ c T y j i,st[q.2.1.r]?=some c∧c.ls[q.2.1.k]?=some (.hole T y j i)):=by
     unfold hole1 at h1
     split at h1
     · rename_i hs
       exact ⟨(M.pure_some h1).2,.inl hs⟩
     · obtain ⟨l, s2, h3, h4⟩ := M.bind_some h1
       obtain ⟨c,l0,hc,hl,rfl,rfl⟩:=M.leafAt_some h3
       split at h4
       · rename_i T y j i heq
         simp only at heq
         subst heq
         exact ⟨(M.pure_some h4).2,.inr ⟨c,T,y,j,i,hc,hl⟩⟩
       · exact (M.fail_some h4).elim
   obtain ⟨rfl,k1⟩:=key
   obtain ⟨rfl,k2⟩:=holesOk_ok h2
   exact ⟨rfl,fun q' hq => (List.mem_cons.1 hq).elim (fun e => by rw [e]; exact k1) (k2 q')⟩
theorem apart_ok {as:List Arg} (h:apart as=true):∀ y,y∈as→∀ r os,y.bx=some (r,os)→∀ y',y'∈as→∀ q,q∈y'.bk→q.2.1.r≠r:=by
 intro y hy r os e y' hy' q hq
 simp only [apart,List.all_eq_true] at h
 have h1:=h y hy
 rw [e] at h1
 simp only [List.all_eq_true,decide_eq_true_eq] at h1
 exact h1 y' hy' q hq
theorem same_val {k:CK} {sh:Sh} (h:k.same (.val sh)=true):k=.val sh∧isArg sh=true:=by
 cases k with
 | no => cases h
 | val sh' => cases sh' <;> cases sh <;> first | exact ⟨rfl,rfl⟩ | (obtain rfl:=Nat.eq_of_beq_eq_true h; exact ⟨rfl,rfl⟩) | cases h
 | box z => cases z <;> cases h
theorem getD_of {l:List Value} {i:Nat} {v:Value} (h:l[i]?=some v):l.toArray.getD i undef=v:=by simp [Array.getD_eq_getD_getElem?,h]
theorem LRep.toFX {FX:FS} {l:L} {u:Value} {S0:BS} (h:LRep F' w l u S0) (hq:FX=F'∨(l.quiet=true∧∀ b o,FX b o→F' b o)):LRep FX w l u S0:=by
 rcases hq with rfl | ⟨h1,h2⟩
 · exact h
 · exact h.quiet h1 h2
theorem CellOK.toFX {FX:FS} {us:List Value} {b:Nat} {S0:BS} {c:Cell} {v:Value} (h:CellOK F' w us b S0 c v) (hq:FX=F'∨(quietC c=true∧∀ b o,FX b o→F' b o)):CellOK FX w us b S0 c v:=by
 rcases hq with rfl | ⟨h1,h2⟩
 · exact h
 · simp only [quietC, Bool.and_eq_true] at h1
   unfold CellOK at h ⊢
   split <;> rename_i hck <;> simp only [hck] at h h1
   · exact h
   · exact h
   · obtain ⟨g1, g2, g3, g4, g5, g6⟩ := h
     exact ⟨g1,g2,g3,g4,fun b hb o ho => g5 b hb o (h2 b o ho),g6⟩
   · exact absurd h1.1 (by simp)
theorem callOp_ok {call : CallT} (hcall : CallOK P call) (h : Rl G [] st a w vals B F S) {dst : Option Nat} {g : FuncId} {caps : List L} {cus : List Value} {vs : List Val} {avs : List Value}
 (hv:Vls st vals B F w vs avs) (hcl:caps.length=cus.length) (hcaps:∀ (i:Nat) (l:L) (u:Value),caps[i]?=some l→cus[i]?=some u→CRep F w l u) (hone:Ones cus)
 (hx:(callOp E call dst g caps vs).exec st=some ((),st')) :
 Calls P g (avs ++ cus).toArray w fun e w' => ∃ v,e=.returned v∧Rel G [] st' (a.put dst v) w':=by
 simp only [callOp] at hx
 replace hx:=M.bind_some hx
 obtain ⟨as,s1,h1,hx⟩:=hx
 replace hx:=M.bind_some hx
 obtain ⟨_,t1,h2,hx⟩:=hx
 obtain ⟨hap,e1⟩:=M.must_some h2
 rw [e1] at hx
 replace hx:=M.bind_some hx
 obtain ⟨_,t2,h3,hx⟩:=hx
 obtain ⟨e2,hholes⟩:=holesOk_ok h3
 rw [e2] at hx
 replace hx:=M.bind_some hx
 obtain ⟨⟨cs0,ps⟩,t3,h4,hx⟩:=hx
 obtain ⟨e3,hpl⟩:=snapAs_places h4
 rw [e3] at hx
 replace hx:=M.bind_some hx
 obtain ⟨_,t4,h5,hx⟩:=hx
 obtain ⟨hnr,e4⟩:=M.must_some h5
 rw [e4] at hx
 clear e1 e2 e4 h2 h3 h5
 replace hap:=apart_ok hap
 -- the arguments
 obtain ⟨vals1,B1,F1,S1,g1,g2,g3,g4,g5,g6,g7,g8⟩:=argVs_ok (ex:=[]) (by simpa using h) (by simpa using hv) h1
 replace g8:=g8 hap
 simp only [List.append_nil,List.nil_append] at g1 g5 g7 g8
 obtain ⟨s2,F2,S2,f1,f2,f3,f4,f5,f6,f7,f8⟩:=freezes_ok g1 hpl
 have hbox:∀ x,x∈as→∀ z,x.cell.ck=.box z→z=false:=by
  intro x hx' z hz
  obtain ⟨i,hi⟩:=List.mem_iff_getElem?.1 hx'
  have hlt:=get_lt hi
  have hav:avs[i]?=some (avs[i]'(by omega)):=by simp [show i<avs.length by omega]
  obtain ⟨a1,a2⟩:=g8 i x _ hi hav
  cases hb:x.bx with
  | none => obtain ⟨⟨sh,k1,_⟩,_⟩:=a1 hb; rw [k1] at hz; cases hz
  | some ro => obtain ⟨r,os⟩:=ro; obtain ⟨_,k1,_⟩:=a2 r os hb; rw [k1] at hz; simpa using hz.symm
 obtain ⟨_,c1,c2,S3,c3,c4⟩:=snapAs_ok (pre:=[]) f7 h4 f8 (by simpa using f2) hbox
 simp only [List.nil_append] at c3
 obtain ⟨vals5,B5,S5,d1,d2,d3⟩:=caps_ok c3 hcl (fun i l u hl hu => (hcaps i l u hl hu).stable (fun b o hb => f5 b o (g4 b o hb)) (fun _ _ _ _ h => h)) hone
 have hn1:s1.length=st.length:=g2
 have hn2:s2.length=st.length:=f3.trans g2
 have hS51:∀ i k b,S5 i k b→S1 i k b:=fun i k b hb => f6 i k b (c4 i k b (d3 i k b hb))
 generalize hcells:cs0 ++ caps.map (fun l => (⟨.val .one,[l],false,false,false,0,0⟩:Cell))=cells at hx hnr
 have hnoref:noRef cells:=by
  intro c hc l hl
  simp only [List.all_eq_true,Bool.not_eq_true'] at hnr
  exact hnr c hc l hl
 have d1':Rl G [] (s2 ++ cells.map (·.unpin)) ⟨a.tmps ++ avs.toArray ++ cus.toArray,a.defers⟩ w vals5 B5 F2 S5:=by
  rw [← hcells,show (fun l => (⟨.val .one,[l],false,false,false,0,0⟩:Cell))=capCell from rfl]
  simpa [List.map_append,List.append_assoc,Function.comp_def,show ∀ l,(capCell l).unpin=capCell l from fun _ => rfl] using d1
 have hent:=d1'.enter (tm:=a.tmps) (args:=avs ++ cus) (by simp [Array.append_assoc]) (by rw [h.sz,hn2]) hnoref
 rw [hn2] at hent
 obtain ⟨⟨res,fin⟩,t5,h9,hx⟩:=M.bind_some hx
 obtain ⟨hcallEq,e9⟩:=M.call_some h9
 rw [e9] at hx
 · refine (hcall g cells res fin hcallEq (Ctx.callee w F2 S5 st.length (avs ++ cus).toArray) _ _ _ hnoref hent).mono ?_
   rintro e w' ⟨v,us,rfl,r1,r2,r3,r4,r5,r6,a',vals',B',F',S',r7⟩
   refine ⟨v,rfl, ?_⟩
   obtain ⟨_,sb,h6,hx⟩:=M.bind_some hx
   obtain ⟨_,s4,h7,h8⟩:=M.bind_some hx
   have hlow1:LowSt st.length s1:=QW.argVs _ _ _ h1 h.lowSt
   have hlow2:LowSt st.length s2:=QW.freezes _ _ _ f1 hlow1
   have hg5:∀ i k b,S5 (st.length+i) k b→b<w.heap.size∧¬ G.U b∧(b<G.w0.heap.size→G.SA b):=fun i k b hb => d1'.sub _ _ b hb
   have hdisj5:∀ i k b,S5 (st.length+i) k b→∀ i' k',i'<st.length→¬ S5 i' k' b:=fun i k b hb i' k' hi' hb' => d1'.disj _ _ _ _ b (by simp; omega) hb hb'
   have hdisj1:∀ i k b,S5 (st.length+i) k b→∀ i' k',i'<st.length→¬ S1 i' k' b:=fun i k b hb i' k' hi' hb' => g1.disj _ _ _ _ b (by simp; omega) (hS51 _ _ _ hb) hb'
   have hF2F':∀ b o,F2 b o→F' b o:=fun b o hb => (r7.f0 b o hb).1
   have hfl0:∀ (k:Nat) (l:L) (u:Value),(res.ls.zip us)[k]?=some (l,u)→l.ref=false:=by
    intro k l u hk
    rw [List.getElem?_zip_eq_some] at hk
    exact r6 l (List.mem_of_getElem? hk.1)
   have htl:∀ {i},i<st.length→a.tmps.getD i undef=(a.tmps ++ avs.toArray).getD i undef:=by
    intro i hi
    simp only [Array.getD_eq_getD_getElem?,Array.getElem?_append]
    rw [if_pos (by rw [h.sz]; omega)]
   have htl2:∀ {i},i<st.length→a.tmps.getD i undef=(a.tmps ++ avs.toArray ++ cus.toArray).getD i undef:=by
    intro i hi
    have e0:i<a.tmps.size:=by rw [h.sz]; exact hi
    have e1:i<(a.tmps ++ avs.toArray).size:=by rw [Array.size_append]; omega
    simp only [Array.getD_eq_getD_getElem?,Array.getElem?_append]
    rw [if_pos e1,if_pos e0]
   have hv51:∀ i,i<st.length+as.length→vals5 i=vals1 i∧B5 i=B1 i:=fun i hi => d2 i (by simp [hn2,c1]; omega)
   -- out again
   obtain ⟨valsX, BX, FX, SX, hlow, hlen, hX, hvX, hBX, hvY, hBY⟩ : ∃ valsX BX FX SX, LowSt st.length sb ∧ sb.length = st.length ∧ Rl G (res.ls.zip us) (sb ++ fin.map (·.unpin)) ⟨a.tmps ++ a'.tmps, []⟩ w' valsX BX FX SX ∧
        (∀ i,i<st.length→valsX i=vals1 i)∧(∀ i,i<st.length→BX i=B1 i)∧(∀ i,valsX (st.length+i)=vals' i)∧(∀ i,BX (st.length+i)=B' i):=by
    unfold thaw at h6
    by_cases hq:(res.ls.all L.quiet && fin.all quietC)=true
    · rw [if_pos hq] at h6
      simp only [Bool.and_eq_true,List.all_eq_true] at hq
      obtain ⟨_,rfl⟩:=M.pure_some h6
      have r7':=r7
      rw [← hn1] at r7'
      have hl:=g1.leave (FX:=F1) (tm:=a.tmps) (by rw [hn1]; exact hlow1) r7' (by rw [h.sz,hn1]) (fun i hi => htl (by omega)) (fun i k b hb => by
          rw [hn1] at hb ⊢
          obtain ⟨k1,k2,k3⟩:=hg5 i k b hb
          exact ⟨k1,k2,k3,hdisj1 i k b hb⟩) f5 (fun _ _ h => h) (fun b o hb => hF2F' b o (f5 b o hb)) (fun b o hb => .inl hb) r5 hfl0
       (fun i c hc => (r7.cell i c hc).toFX (.inr ⟨hq.2 c (List.mem_of_getElem? hc),fun b o hb => hF2F' b o (f5 b o hb)⟩))
       (fun i c k l u hc hl hu => (r7.leaf i c k l u hc hl hu).1.toFX (.inr ⟨by
          have:=hq.2 c (List.mem_of_getElem? hc)
          simp only [quietC,Bool.and_eq_true,List.all_eq_true] at this
          exact this.2 l (List.mem_of_getElem? hl),fun b o hb => hF2F' b o (f5 b o hb)⟩))
       (fun k l u hk => (r7.fleaf k l u hk).1.toFX (.inr ⟨by
          rw [List.getElem?_zip_eq_some] at hk
          exact hq.1 l (List.mem_of_getElem? hk.1),fun b o hb => hF2F' b o (f5 b o hb)⟩))
      refine ⟨_,_,_,_,hlow1,hn1,hl,fun i hi => by rw [if_pos (by omega)],fun i hi => by rw [if_pos (by omega)],fun i => ?_,fun i => ?_⟩
      · rw [if_neg (by omega),hn1,Nat.add_sub_cancel_left]
      · rw [if_neg (by omega),hn1,Nat.add_sub_cancel_left]
    · rw [if_neg hq, f1] at h6
      simp only [Option.some.injEq,Prod.mk.injEq,true_and] at h6
      subst h6
      have r7':=r7
      rw [← hn2] at r7'
      have hl:=d1'.leave (FX:=F') (tm:=a.tmps) (by rw [hn2]; exact hlow2) r7' (by rw [h.sz,hn2]) (fun i hi => htl2 (by omega)) (fun i k b hb => by
          rw [hn2] at hb ⊢
          obtain ⟨k1,k2,k3⟩:=hg5 i k b hb
          exact ⟨k1,k2,k3,hdisj5 i k b hb⟩) (fun _ _ h => h) hF2F' (fun _ _ h => h) (fun b o hb => by
          rcases (r7.fz b o hb).2 with k1 | k1 | ⟨i,k,k1⟩
          · exact .inl k1
          · exact .inr (.inr k1)
          · exact .inr (.inl ⟨i,k,by rw [hn2]; exact k1⟩)) r5 hfl0
       (fun i c hc => r7.cell i c hc) (fun i c k l u hc hl hu => (r7.leaf i c k l u hc hl hu).1) (fun k l u hk => (r7.fleaf k l u hk).1)
      refine ⟨_,_,_,_,hlow2,hn2,hl,fun i hi => by rw [if_pos (by omega)]; exact (hv51 i (by omega)).1,fun i hi => by rw [if_pos (by omega)]; exact (hv51 i (by omega)).2,fun i => ?_,fun i => ?_⟩
      · rw [if_neg (by omega),hn2,Nat.add_sub_cancel_left]
      · rw [if_neg (by omega),hn2,Nat.add_sub_cancel_left]
   -- what was lent comes back
   obtain ⟨ex',vals6,F6,S6,m1,m2,_⟩:=backs_ok (j:=0) hX (fun i x c hxi hci => by
    refine ⟨⟨c.unpin,by simp [hci],rfl,rfl⟩,fun p1 p2 => ?_⟩
    have hilt:=get_lt hxi
    have hav:avs[i]?=some (avs[i]'(by omega)):=by simp [show i<avs.length by omega]
    obtain ⟨a1,a2⟩:=g8 i x _ hxi hav
    have hpin:=r7.pin i c hci p1
    have hargs:(Ctx.callee w F2 S5 st.length (avs ++ cus).toArray).args.getD i undef=avs[i]'(by omega) :=
        getD_of (by rw [List.getElem?_append_left (by omega)]; exact hav)
    rw [hargs] at hpin
    have hcc:=r7.cell i c hci
    rw [hpin] at hcc
    rw [hlen]
    simp only [Nat.zero_add] at *
    refine ⟨fun hbn q hq hlt u hu => ?_,fun r os hb => ?_⟩
    · obtain ⟨⟨sh, k1, k2⟩, k3⟩ := a1 hbn
      rw [k1] at p2
      obtain ⟨k4,_⟩:=same_val p2
      obtain ⟨_,u0,k5,k6⟩:=k3 q hq
      -- the slot's leaves have the values that they had
      have hc0:cs0[i]?=some (cs0[i]'(by omega)):=by simp [show i<cs0.length by omega]
      have hck0:=c2 i x _ hxi hc0
      have hce:cells[i]?=some (cs0[i]'(by omega)):=by rw [← hcells,List.getElem?_append_left (by omega)]; exact hc0
      have hcc2:=hent.cell i _ hce
      have hargs2:(⟨(avs ++ cus).toArray,[]⟩:Act).tmps.getD i undef=avs[i]'(by omega):=hargs
      rw [hargs2] at hcc2
      unfold CellOK at hcc hcc2
      rw [k4] at hcc
      rw [hck0,k1] at hcc2
      have heq:vals' i=vals1 (st.length+i):=by
       rw [← (hv51 (st.length+i) (by omega)).1]
       exact VR.inj hcc.2.1 hcc2.2.1 k2
      rw [hvY,heq] at hu
      rw [hu] at k5
      obtain rfl:=Option.some.inj k5
      unfold Bk at k6 ⊢
      rw [hvX _ hlt]
      rcases hholes q (List.mem_flatMap.2 ⟨x,List.mem_of_getElem? hxi,hq⟩) with hs | ⟨c9,T,y,j9,i9,n1,n2⟩
      · rw [hs] at k6 ⊢
        exact k6
      · cases hs : q.2.1.sub with
        | none => rw [hs] at k6; exact k6
        | some ji =>
          obtain ⟨j0,i0⟩:=ji
          rw [hs] at k6
          obtain ⟨b,off,nn,C,n3,n4⟩:=k6
          refine ⟨b,off,nn,C,n3, ?_⟩
          rw [n4]
          have hct:(s1 ++ as.map (·.cell.unpin))[q.2.1.r]?=some c9:=by rw [List.getElem?_append_left (get_lt n1)]; exact n1
          obtain ⟨⟨b1,off1,C1,arr1,n5,_,n6,_⟩,_⟩:=(g1.leaf _ _ _ _ _ hct n2 n3).1
          simp only [Value.slice.injEq,Option.some.injEq,Addr.mk.injEq] at n5
          obtain ⟨⟨rfl,rfl,_⟩,_⟩:=n5
          have hU:w'.heap[b]?=w.heap[b]?:=(r7.un b ⟨(g1.sub _ _ b n6).1,fun ⟨i',k',hb'⟩ => hdisj1 i' k' b hb' _ _ hlt n6⟩).2
          rw [cv_of_heap hU]
    · obtain ⟨k0, k1, _, k2⟩ := a2 r os hb
      refine ⟨k1, ?_⟩
      have hckc:=same_box p2 k1
      unfold CellOK at hcc
      rw [hckc] at hcc
      have:=hcc.2.1
      rw [k2] at this
      simp only [Value.pointer.injEq,Option.some.injEq,Addr.mk.injEq,and_true] at this
      rw [hBY,hBX r (by have:=g6 x (List.mem_of_getElem? hxi) r os hb; omega)]
      exact this.symm) hap (fun y hy r os e => by rw [hlen]; exact g6 y hy r os e) h7
   have hlow4:LowSt st.length s4:=QW.backs _ _ _ h7 hlow
   have hs4:s4.length=st.length:=m2.trans hlen
   have hfin:=m1.shrink (tm:=a.tmps) (by rw [h.sz,hs4]) (fun i hi => by
        simp only [Array.getD_eq_getD_getElem?,Array.getElem?_append]
        rw [if_pos (by rw [h.sz]; omega)]) (by rw [hs4]; exact fun i k c l hc hl => hlow4 i k c l hc hl) (fun k l u hk => low_of_ref (hfl0 k l u hk))
   have hact:(⟨a.tmps,[]⟩:Act)=a:=by
    have:=h.df
    cases a
    simp only at this
    rw [this]
   simp only [hact] at hfin
   obtain ⟨rsh,rls⟩:=res
   exact dstV_ok hfin r3 r1 r2 h8
end
end GoV

/- Functions as values; the call operation. -/
namespace GoV
open Go
section
variable {G:Ctx} {fl:List (L × Value)} {st st' s s' ex:St} {a:Act} {w w':World} {vals vals':VS} {B B':Nat→Nat} {F F':FS} {S:Nat→Nat→BS} {E:Env} {P:Program}

theorem LRep.frz {l l':L} {u:Value} {S0:BS} (h:LRep F w l u S0) (hf:frzL l=some l') (hF:∀ b o,F b o→F' b o) (hS:∀ b o,S0 b→F' b o):CRep F' w l' u:=by
 unfold frzL at hf
 split at hf
 · rename_i o T x
   obtain rfl:=Option.some.inj hf
   cases T with
   | sl t => exact CRep.sl (LRep.toF hF hS h)
   | int k =>
     cases o <;> first | exact h.elim | skip
     have h':CRep F w (.d .fro (.int k) x) u:=h
     exact h'.stable hF (fun _ _ _ _ h => h)
   | bool =>
     cases o <;> first | exact h.elim | skip
     have h':CRep F w (.d .fro .bool x) u:=h
     exact h'.stable hF (fun _ _ _ _ h => h)
   | pair p q =>
     cases o <;> first | exact h.elim | skip
     have h':CRep F w (.d .fro (.pair p q) x) u:=h
     exact h'.stable hF (fun _ _ _ _ h => h)
   | unit =>
     cases o <;> first | exact h.elim | skip
     have h':CRep F w (.d .fro .unit x) u:=h
     exact h'.stable hF (fun _ _ _ _ h => h)
 · rename_i t
   obtain rfl:=Option.some.inj hf
   have h':CRep F w (.nil t) u:=h
   exact h'.stable hF (fun _ _ _ _ h => h)
 · rename_i f cs
   obtain rfl:=Option.some.inj hf
   have h':CRep F w (.fn f cs) u:=h
   exact h'.stable hF (fun _ _ _ _ h => h)
 · rename_i ls o
   obtain rfl:=Option.some.inj hf
   have h':CRep F w (.rp ls o) u:=h
   exact h'.stable hF (fun _ _ _ _ h => h)
 · rename_i T x o
   obtain rfl:=Option.some.inj hf
   have h':CRep F w (.fe T x o) u:=h
   exact h'.stable hF (fun _ _ _ _ h => h)
 · cases hf
theorem frzLs_get : ∀ {ls ls' : List L} {k : Nat} {l' : L}, frzLs ls = some ls' → ls'[k]? = some l' → ∃ l, ls[k]? = some l ∧ frzL l = some l'
 | [],ls',k,l',h,hk => by simp only [frzLs,Option.some.injEq] at h; subst h; simp at hk
 | l::ls,ls',k,l',h,hk => by
   simp only [frzLs] at h
   split at h
   · rename_i x y hx hy
     obtain rfl:=Option.some.inj h
     cases k with
     | zero => simp at hk; subst hk; exact ⟨l,rfl,hx⟩
     | succ k => exact frzLs_get (ls:=ls) (ls':=y) hy (by simpa using hk)
   · cases h
theorem frzLs_length : ∀ {ls ls' : List L}, frzLs ls = some ls' → ls'.length = ls.length
 | [],ls',h => by simp only [frzLs,Option.some.injEq] at h; subst h; rfl
 | l::ls,ls',h => by
   simp only [frzLs] at h
   split at h
   · rename_i x y hx hy
     obtain rfl:=Option.some.inj h
     simp [frzLs_length hy]
   · cases h
theorem Rl.freezeBox (h : Rl G fl st a w vals B F S) {r : Nat} {c : Cell} {z : Bool} {ls : List L} (hc : st[r]? = some c) (hck : c.ck = .box z) (hls : frzLs c.ls = some ls) :
 ∃ F' S', Rl G fl (st.set r ⟨.box true, ls, c.pin, true, c.dp, c.ds, c.es⟩) a w vals B F' S' ∧ (∀ b o, F b o → F' b o) ∧ CRep F' w (.rp ls 0) (.pointer (some ⟨B r, 0, none⟩)) ∧
   Keeps vals B w st (st.set r ⟨.box true,ls,c.pin,true,c.dp,c.ds,c.es⟩):=by
 have hlt:=get_lt hc
 have hle:CellLe c ⟨.box true,ls,c.pin,true,c.dp,c.ds,c.es⟩:=⟨fun z _ => .inr ⟨true,rfl⟩,fun _ => rfl,id,fun _ => id,fun _ _ => id,.inl rfl⟩
 generalize hF':(fun b o => F b o∨∃ k,S r k b:FS)=F'
 have hup:∀ b o,F b o→F' b o:=fun b o hb => by rw [← hF']; exact .inl hb
 have hSr:∀ k b o,S r k b→F' b o:=fun k b o hb => by rw [← hF']; exact .inr ⟨k,hb⟩
 have hgr:∀ i k,i≠r→Grow F F' (S i k):=fun i k hi => ⟨hup,fun b o hb ho => by
  rw [← hF'] at ho
  rcases ho with ho | ⟨k',ho⟩
  · exact ho
  · exact absurd ho (h.disj i k r k' b (by simp; intro e; exact absurd e hi) hb)⟩
 have hcell:=h.cell r c hc
 have hdata:(vals r).length=c.ls.length∧a.tmps.getD r undef=.pointer (some ⟨B r,0,none⟩)∧(∀ (k:Nat) (u:Value),(vals r)[k]?=some u→F' (B r) k∧cellAt w (B r) k=some u)∧Ones (vals r):=by
  unfold CellOK at hcell
  rw [hck] at hcell
  cases z with
  | false =>
    obtain ⟨g1,g2,g3,g4,g5,g6⟩:=hcell
    exact ⟨g1,g2,fun k u hu => ⟨hSr 0 _ _ g4,by rw [cellAt_blk g3]; simpa using hu⟩,g6⟩
  | true =>
    obtain ⟨g1,g2,g3,g4,g5⟩:=hcell
    exact ⟨g1,g2,fun k u hu => ⟨hup _ _ (g3 k u hu).1,(g3 k u hu).2⟩,g5⟩
 obtain ⟨q1,q2,q3,q4⟩:=hdata
 have hcr:∀ (k:Nat) (l:L) (u:Value),ls[k]?=some l→(vals r)[k]?=some u→CRep F' w l u:=by
  intro k l u hl hu
  obtain ⟨l0,hl0,hf⟩:=frzLs_get hls hl
  exact (h.leaf r c k l0 u hc hl0 hu).1.frz hf hup (fun b o hb => hSr _ b o hb)
 have hlen:(st.set r (⟨.box true,ls,c.pin,true,c.dp,c.ds,c.es⟩:Cell)).length=st.length:=by simp
 refine ⟨F',fun i k => if i=r then fun _ => False else S i k, ?_,hup, ?_,.set hc hle⟩
 · have key:∀ {i k y},(if i=r then (fun _ => False:BS) else S i k) y→i≠r∧S i k y:=by
    intro i k y hy
    split at hy
    · exact hy.elim
    · exact ⟨by assumption,hy⟩
   refine ⟨by rw [hlen]; exact h.sz, h.df, fun i q hq => ?_, fun i q k l u hq hl hu => ?_, fun k l u hf => ?_, fun i k i' k' b hne hb hb' => h.disj i k i' k' b hne (key hb).2 (key hb').2, fun i k b hb => h.sub i k b (key hb).2,
    fun b o hb => ?_,fun b o hb => ⟨hup _ _ (h.f0 b o hb).1,(h.f0 b o hb).2⟩,h.un,h.wo,fun i q hq hp => ?_⟩
   · rw [get_set hlt] at hq
     split at hq
     · rename_i e; subst e
       obtain rfl:=Option.some.inj hq
       exact ⟨by rw [q1,frzLs_length hls],q2,q3,hcr,q4⟩
     · rename_i e
       rw [if_neg (fun e' => e e'.symm)]
       exact (h.cell i q hq).stable (.refl _ _ _) (hgr i 0 (fun e' => e e'.symm))
   · rw [get_set hlt] at hq
     split at hq
     · rename_i e; subst e
       obtain rfl:=Option.some.inj hq
       rw [if_pos rfl]
       have hc':=hcr k l u hl hu
       obtain ⟨k1,k2⟩:=hc'.ol (st:=st.set r (⟨.box true,ls,c.pin,true,c.dp,c.ds,c.es⟩:Cell)) (vals:=vals) (B:=B)
       exact ⟨k1,k2⟩
     · rename_i e
       rw [if_neg (fun e' => e e'.symm)]
       obtain ⟨g1,g2⟩:=h.leaf i q k l u hq hl hu
       exact ⟨g1.stable (.refl _ _ _) (hgr i (k+1) (fun e' => e e'.symm)),g2.set hc hle⟩
   · rw [hlen, if_neg (by omega)]
     obtain ⟨g1,g2⟩:=h.fleaf k l u hf
     exact ⟨g1.stable (.refl _ _ _) (hgr _ (k+1) (by omega)),g2.set hc hle⟩
   · rw [← hF'] at hb
     rcases hb with hb | ⟨k,hb⟩
     · exact h.fz b o hb
     · obtain ⟨g1, _, g3⟩ := h.sub r k b hb
       refine ⟨g1,.inr ?_⟩
       by_cases e:b<G.w0.heap.size
       · exact .inr (g3 e)
       · exact .inl e
   · rw [get_set hlt] at hq
     split at hq
     · rename_i e; subst e
       obtain rfl:=Option.some.inj hq
       exact h.pin r c hc hp
     · exact h.pin i q hq hp
 · have hu:∀ {i:Nat} {l:L},ls[i]?=some l→∃ u,(vals r)[i]?=some u:=by
    intro i l hl
    have h1:=get_lt hl
    rw [frzLs_length hls] at h1
    exact ⟨(vals r)[i]'(by omega),by simp [show i<(vals r).length by omega]⟩
   refine .rp ls 0 (B r) (fun i => (vals r).getD i undef) (fun i l hl => ?_) (fun i l hl => ?_) (fun i l hl => ?_)
   · obtain ⟨u, h1⟩ := hu hl
     exact (q3 i u h1).1
   · obtain ⟨u, h1⟩ := hu hl
     rw [(q3 i u h1).2]
     simp [List.getD_eq_getElem?_getD,h1]
   · obtain ⟨u, h1⟩ := hu hl
     have:=hcr i l u hl h1
     simpa [List.getD_eq_getElem?_getD,h1] using this
theorem capL_ok (h : Rl G fl st a w vals B F S) {l l' : L} {u : Value} (ho : OL st vals B F w l u) (hx : (capL l).exec st = some (l', st')) :
 ∃ F' S',Rl G fl st' a w vals B F' S'∧(∀ b o,F b o→F' b o)∧CRep F' w l' u∧Keeps vals B w st st':=by
 unfold capL at hx
 split at hx
 · rename_i r
   obtain ⟨c,s1,h1,h2⟩:=M.bind_some hx
   obtain ⟨hc,e1⟩:=M.read_some h1
   rw [e1] at h2
   obtain ⟨_,s2,h3,h4⟩:=M.bind_some h2
   obtain ⟨hdp,e2⟩:=M.must_some h3
   rw [e2] at h4
   split at h4
   · rename_i z hck
     obtain ⟨ls,s3,h5,h6⟩:=M.bind_some h4
     obtain ⟨hls,e3⟩:=M.opt_some h5
     rw [e3] at h6
     obtain ⟨_,s4,h7,h8⟩:=M.bind_some h6
     obtain ⟨_,e4⟩:=M.write_some h7
     obtain ⟨rfl,e5⟩:=M.pure_some h8
     rw [e5,e4]
     have hpv:=LinkOK.ptr_box ho.2 hc (by simpa using hdp)
     rw [hpv]
     exact h.freezeBox hc hck hls
   · exact (M.fail_some h4).elim
 · rename_i ls o
   obtain ⟨rfl,rfl⟩:=M.pure_some hx
   exact ⟨F,S,h,fun _ _ h => h,ho.1,.refl _ _ _ _⟩
 · exact (M.fail_some hx).elim
theorem capLs_ok : ∀ {xs : List Operand} {cs : List L} {st st' : St} {F : FS} {S : Nat → Nat → BS}, Rl G fl st a w vals B F S → (capLs E xs).exec st = some (cs, st') →
 ∃ F' S',Rl G fl st' a w vals B F' S'∧(∀ b o,F b o→F' b o)∧cs.length=xs.length∧∀ (i:Nat) (l:L) (x:Operand),cs[i]?=some l→xs[i]?=some x→CRep F' w l (a.eval x)
 | [],cs,st,st',F,S,h,hx => by
   simp only [capLs] at hx
   obtain ⟨rfl,rfl⟩:=M.pure_some hx
   exact ⟨F,S,h,fun _ _ h => h,rfl,by simp⟩
 | x::xs,cs,st,st',F,S,h,hx => by
   simp only [capLs] at hx
   obtain ⟨l0,s1,h1,h2⟩:=M.bind_some hx
   obtain ⟨e1,ho⟩:=opnd1_ok h h1
   rw [e1] at h2
   obtain ⟨l,s2,h3,h4⟩:=M.bind_some h2
   obtain ⟨F1,S1,g1,g2,g3,g4⟩:=capL_ok h ho h3
   obtain ⟨ls,s3,h5,h6⟩:=M.bind_some h4
   obtain ⟨rfl,rfl⟩:=M.pure_some h6
   obtain ⟨F2,S2,k1,k2,k3,k4⟩:=capLs_ok g1 h5
   refine ⟨F2,S2,k1,fun b o hb => k2 b o (g2 b o hb),by simp [k3],fun i l' x' hl hx' => ?_⟩
   cases i with
   | zero =>
     simp at hl hx'
     subst hl; subst hx'
     exact g3.stable k2 (fun _ _ _ _ h => h)
   | succ i => exact k4 i l' x' (by simpa using hl) (by simpa using hx')
theorem makeFunc_ok (h : Rl G [] st a w vals B F S) {o : Oper} {f : FuncId} {first caps : Array Operand} (ho : o.op = .makeFunc (.func f) first caps)
 (hx:(funcOp E o.dst f first caps).exec st=some ((),st')) :
 OpOK P o a w fun a' w' => Rel G [] st' a' w':=by
 unfold funcOp at hx
 split at hx
 rotate_left
 · rename_i x hfirst
   obtain ⟨_,s1,h1,h2⟩:=M.bind_some hx
   obtain ⟨hce,e1⟩:=M.must_some h1
   rw [e1] at h2
   obtain ⟨v,s2,h3,h4⟩:=M.bind_some h2
   obtain ⟨e2,us,hols,hv,hone⟩:=opnd_ok h h3
   rw [e2] at h4
   split at h4
   · rename_i hsh
     rw [hsh] at hv
     simp only [VR] at hv
     obtain ⟨S',hp⟩:=h.pushs hols
     have hf:first=#[x]:=by
        have:first=first.toList.toArray:=by simp
        rw [this,hfirst]
     have hc:caps=#[]:=by simpa using hce
     refine op_value (w':=w) (v:=.func (.func f) #[.agg us.toArray] #[]) (by rw [execOp,ho,hf,hc]; simp [Instr.makeFunc,hv]) (dstV_ok (sh:=.clo f) (by simpa using hp) hols.length.symm rfl hone h4)
   · exact (M.fail_some h4).elim
 · exact (M.fail_some hx).elim
 rename_i hfirst
 obtain ⟨cs,s2,h3,h4⟩:=M.bind_some hx
 obtain ⟨F1,S1,g1,g2,g3,g4⟩:=capLs_ok h h3
 have hf:first=#[]:=by
  have:first=first.toList.toArray:=by simp
  rw [this,hfirst]
 refine op_value (w':=w) (v:=.func (.func f) #[] (caps.map a.eval)) (by rw [execOp,ho,hf]; simp [Instr.makeFunc]) (dst1_ok g1 (CRep.fn f cs _ (by simp [g3]) fun i l hl => ?_).ol rfl h4)
 have hi:=get_lt hl
 have hx':caps.toList[i]?=some (caps.toList[i]'(by omega)):=by simp [show i<caps.toList.length by omega]
 have:=g4 i l _ hl hx'
 have e:(caps.map a.eval).getD i undef=a.eval (caps.toList[i]'(by omega)):=by
  have hi':i<caps.size:=by simpa using (show i<caps.toList.length by omega)
  simp [Array.getD_eq_getD_getElem?,hi']
 rw [e]
 exact this
/-! ## The call operation -/
theorem opnds_ok (h : Rl G fl st a w vals B F S) : ∀ {xs : List Operand} {ts : List TypeId} {vs : List Val} {st' : St}, (opnds E xs ts).exec st = some (vs, st') → st' = st ∧ Vls st vals B F w vs (xs.map a.eval)
 | [],ts,vs,st',hx => by
   unfold opnds at hx
   obtain ⟨rfl,rfl⟩:=M.pure_some hx
   exact ⟨rfl,trivial⟩
 | x::xs,t::ts,vs,st',hx => by
   unfold opnds at hx
   obtain ⟨v,s1,h1,h2⟩:=M.bind_some hx
   obtain ⟨e1,us,k1,k2,k3⟩:=opnd_ok h h1
   rw [e1] at h2
   obtain ⟨r,s2,h3,h4⟩:=M.bind_some h2
   obtain ⟨e2,k4⟩:=opnds_ok h h3
   obtain ⟨rfl,rfl⟩:=M.pure_some h4
   exact ⟨e2,⟨us,k1,k2,k3⟩,k4⟩
 | x::xs,[],vs,st',hx => by
   unfold opnds at hx
   obtain ⟨v,s1,h1,h2⟩:=M.bind_some hx
   obtain ⟨e1,us,k1,k2,k3⟩:=opnd_ok h h1
   rw [e1] at h2
   obtain ⟨r,s2,h3,h4⟩:=M.bind_some h2
   obtain ⟨e2,k4⟩:=opnds_ok h h3
   obtain ⟨rfl,rfl⟩:=M.pure_some h4
   exact ⟨e2,⟨us,k1,k2,k3⟩,k4⟩
theorem call_ok (hE : EnvOK P E) {call : CallT} (hcall : CallOK P call) (hent : Enters P call) (h : Rl G [] st a w vals B F S) {o : Oper} {c : Call} {x : Operand} (ho : o.op = .call c) (hc : c.callee = .value x)
 (hx:(callVal E call o.dst c x).exec st=some ((),st')) :
 OpOK P o a w fun a' w' => Rel G [] st' a' w':=by
 unfold callVal at hx
 obtain ⟨v,s1,h1,h2⟩:=M.bind_some hx
 obtain ⟨e1,us,hols,hvr,hvone⟩:=opnd_ok h h1
 rw [e1] at h2
 split at h2
 · rename_i g ls
   obtain ⟨vs,s2,h3,h4⟩:=M.bind_some h2
   obtain ⟨e2,hv⟩:=opnds_ok h h3
   rw [e2] at h4
   simp only [VR] at hvr
   have hv':Vls st vals B F w (⟨.agg,ls⟩::vs) (.agg us.toArray::c.args.toList.map a.eval):=⟨⟨us,hols,rfl,hvone⟩,hv⟩
   have hent' : ∃ fn, P.funcs[g]? = some fn ∧ (fn.name == "runtime.NumGoroutine") = false ∧ fn.body.isSome = true := by
    have h5:=h4
    simp only [callOp] at h5
    obtain ⟨_,_,_,h5⟩:=M.bind_some h5
    obtain ⟨_,_,_,h5⟩:=M.bind_some h5
    obtain ⟨_,_,_,h5⟩:=M.bind_some h5
    obtain ⟨_,_,_,h5⟩:=M.bind_some h5
    obtain ⟨_,_,_,h5⟩:=M.bind_some h5
    obtain ⟨p,_,h6,_⟩:=M.bind_some h5
    exact hent _ _ _ (M.call_some h6).1
   obtain ⟨fn,hf1,hf2,hf3⟩:=hent'
   have hrun:(execOp a.eval o).run P w=.ok (.enter g ((Value.agg us.toArray::c.args.toList.map a.eval) ++ []).toArray) w:=by
    have hb:¬ fn.body=none:=by intro e; rw [e] at hf3; cases hf3
    have hf2' : ¬ fn.name = "runtime.NumGoroutine" := by simpa using hf2
    have harr:((Value.agg us.toArray::c.args.toList.map a.eval) ++ []).toArray=#[Value.agg us.toArray] ++ Array.map a.eval c.args:=by apply Array.ext'; simp
    rw [execOp,ho,harr]
    simp [resolve,hc,hvr,Deferred.ofValue,invoke,callFunc,hf1,hf2',hb]
   have hmain:=callOp_ok hcall h (cus:=[]) hv' rfl (fun i l u hl' hu => by simp at hl') (fun u hu => by simp at hu) h4
   intro K Q hK
   simp only [Oper.wp,hrun,Oper.upon_enter]
   exact hmain.mono fun e w' he => by
    obtain ⟨v,rfl,hr⟩:=he
    exact hK _ _ hr
 · rename_i g caps
   simp only [VR] at hvr
   obtain rfl:=hvr
   have hl:OL st vals B F w (.fn g caps) (a.eval x):=hols.1
   obtain ⟨vs,s2,h3,h4⟩:=M.bind_some h2
   obtain ⟨e2,hv⟩:=opnds_ok h h3
   rw [e2] at h4
   have hfn:CRep F w (.fn g caps) (a.eval x):=hl.1
   generalize hfv:a.eval x=fv at hfn
   cases hfn with
   | fn _ _ arr k1 k2 =>
     have enter : ∀ fn, P.funcs[g]? = some fn → (fn.name == "runtime.NumGoroutine") = false → fn.body.isSome = true → (execOp a.eval o).run P w = .ok (.enter g ((c.args.toList.map a.eval) ++ arr.toList).toArray) w := by
        intro fn hf1 hf2 hf3
        have hb:¬ fn.body=none:=by intro e; rw [e] at hf3; cases hf3
        have hf2' : ¬ fn.name = "runtime.NumGoroutine" := by simpa using hf2
        have harr:((c.args.toList.map a.eval) ++ arr.toList).toArray=Array.map a.eval c.args ++ arr:=by apply Array.ext'; simp
        rw [execOp,ho,harr]
        simp [resolve,hc,hfv,Deferred.ofValue,invoke,callFunc,hf1,hf2',hb]
     split at h4
     · rename_i p hp
       obtain ⟨⟨fn,hf1,hf2,hf3⟩,hadr⟩:=hE.adr g p hp
       have hrun:=enter fn hf1 hf2 hf3
       unfold adrOp at h4
       obtain ⟨_,s3,h5,h6⟩:=M.bind_some h4
       obtain ⟨hce,e3⟩:=M.must_some h5
       rw [e3] at h6
       obtain ⟨l1,s4,h7,h8⟩:=M.bind_some h6
       obtain ⟨e4,hcall⟩:=hadr G st s4 a w vals B F S vs _ l1 h hv h7
       rw [e4] at h8
       have harr0:arr.toList=[]:=by
        have:caps=[]:=by simpa using hce
        rw [this] at k1
        simpa using k1
       rw [harr0,List.append_nil] at hrun
       intro K Q hK
       simp only [Oper.wp,hrun,Oper.upon_enter]
       exact hcall.mono fun e w' he => by
        obtain ⟨u,rfl,g1,g2,g3⟩:=he
        exact hK _ _ (dst1_ok g2 g3 g1 h8)
     have hent' : ∃ fn, P.funcs[g]? = some fn ∧ (fn.name == "runtime.NumGoroutine") = false ∧ fn.body.isSome = true := by
        have h5:=h4
        simp only [callOp] at h5
        obtain ⟨_,_,_,h5⟩:=M.bind_some h5
        obtain ⟨_,_,_,h5⟩:=M.bind_some h5
        obtain ⟨_,_,_,h5⟩:=M.bind_some h5
        obtain ⟨_,_,_,h5⟩:=M.bind_some h5
        obtain ⟨_,_,_,h5⟩:=M.bind_some h5
        obtain ⟨p,_,h6,_⟩:=M.bind_some h5
        exact hent _ _ _ (M.call_some h6).1
     obtain ⟨fn,hf1,hf2,hf3⟩:=hent'
     have hrun:=enter fn hf1 hf2 hf3
     have hmain:=callOp_ok hcall h (cus:=arr.toList) hv (by simp [k1]) (fun i l u hl' hu => by
        have:=k2 i l hl'
        have hu':arr[i]?=some u:=by simpa using hu
        simpa [Array.getD_eq_getD_getElem?,hu'] using this) (fun u hu => by
        obtain ⟨i,hi⟩:=List.mem_iff_getElem?.1 hu
        have hi':arr[i]?=some u:=by simpa using hi
        have hlt:i<caps.length:=by rw [← k1]; have:=get_lt hi; simpa using this
        have:=k2 i _ (by simp [hlt]:caps[i]?=some caps[i])
        have:=this.one
        simpa [Array.getD_eq_getD_getElem?,hi'] using this) h4
     intro K Q hK
     simp only [Oper.wp,hrun,Oper.upon_enter]
     exact hmain.mono fun e w' he => by
        obtain ⟨v,rfl,hr⟩:=he
        exact hK _ _ hr
 · exact (M.fail_some h2).elim
end
end GoV
