/- A part of the proof of FnExactFinishSnap: an interpreter of the model over plain data, its soundness, and what it makes of the functions that the statement reaches. Conditions: none beyond what the given statement itself says. -/
import Derived.Test.YtbimgkhikmmhoaaTL
set_option linter.unusedVariables false
set_option linter.unusedSimpArgs false
set_option linter.unnecessarySimpa false
set_option linter.unusedSectionVars false
/- What the statements' own helpers answer (printed by wip/tools/lawgen.py). -/
namespace GoV
open Go
theorem xl1a_ok (v0:List (Int × Int × Bool)) (v1:Int) (hw:WfT (.sl (.pair (.int .i64) (.pair (.int .i64) .bool))) v0) (h1:0≤v1) (h2:v1≤1048576):∃ r,xl1a v0 v1=some r∧r≤v1∧(0≤r→(szT (.sl (.pair (.int .i64) (.pair (.int .i64) .bool))) v0:Int)+r=v1):=by
 have hl:=hw.1
 have e0:IntKind.i64.wrap (v1 - (v0.length:Int))=v1 - (v0.length:Int):=wrap_id (by omega) (by omega)
 by_cases hn:v1 - (v0.length:Int)<0
 · exact ⟨-1,xl1a.eq v0 v1 (by simp only [xl1a.t,e0,dec_t hn,cond_true]),by omega,fun h => by omega⟩
 · exact ⟨v1 - (v0.length:Int),xl1a.eq v0 v1 (by simp only [xl1a.t,e0,dec_f hn,cond_false]),by omega,fun _ => by rw [szT_sl_flat (t:=(.pair (.int .i64) (.pair (.int .i64) .bool))) v0 rfl]; omega⟩
theorem xl1j_ok (v0:List Int) (v1:Int) (hw:WfT (.sl (.int .i64)) v0) (h1:0≤v1) (h2:v1≤1048576):∃ r,xl1j v0 v1=some r∧r≤v1∧(0≤r→(szT (.sl (.int .i64)) v0:Int)+r=v1):=by
 have hl:=hw.1
 have e0:IntKind.i64.wrap (v1 - (v0.length:Int))=v1 - (v0.length:Int):=wrap_id (by omega) (by omega)
 by_cases hn:v1 - (v0.length:Int)<0
 · exact ⟨-1,xl1j.eq v0 v1 (by simp only [xl1j.t,e0,dec_t hn,cond_true]),by omega,fun h => by omega⟩
 · exact ⟨v1 - (v0.length:Int),xl1j.eq v0 v1 (by simp only [xl1j.t,e0,dec_f hn,cond_false]),by omega,fun _ => by rw [szT_sl_flat (t:=(.int .i64)) v0 rfl]; omega⟩
theorem xl1l_ok (v0:List Int) (v1:List Int) (v2:Bool) (v3:Int) (hw:WfT (.pair (.sl (.int .i64)) (.pair (.sl (.int .i64)) .bool)) (v0,(v1,v2))) (h1:0≤v3) (h2:v3≤1048576):∃ r,xl1l v0 v1 v2 v3=some r∧r≤v3∧(0≤r→(szT (.pair (.sl (.int .i64)) (.pair (.sl (.int .i64)) .bool)) (v0,(v1,v2)):Int)+r=v3):=by
 obtain ⟨r1,e1,a1,b1⟩:=xl1j_ok v0 v3 hw.1 h1 h2
 by_cases n1:r1<0
 · exact ⟨-1,xl1l.eq v0 v1 v2 v3 (by simp only [xl1l.t,dec_t n1,e1,cond_true,cond_false,Option.bind_some]),by omega,fun h => by omega⟩
 obtain ⟨r2,e2,a2,b2⟩:=xl1j_ok v1 r1 hw.2.1 (by omega) (by omega)
 by_cases n2:r2<0
 · exact ⟨-1,xl1l.eq v0 v1 v2 v3 (by simp only [xl1l.t,e1,dec_f n1,dec_t n2,e2,cond_true,cond_false,Option.bind_some]),by omega,fun h => by omega⟩
 refine ⟨r2,xl1l.eq v0 v1 v2 v3 (by simp only [xl1l.t,e1,dec_f n1,e2,dec_f n2,cond_true,cond_false,Option.bind_some]),by omega,fun h => ?_⟩
 have k1:=b1 (by omega)
 have k2:=b2 (by omega)
 simp only [szT] at k1 k2 ⊢
 omega
theorem xl1b_ok (v0:List (List Int × List Int × Bool)) (v1:Int) (hw:WfT (.sl (.pair (.sl (.int .i64)) (.pair (.sl (.int .i64)) .bool))) v0) (h1:0≤v1) (h2:v1≤1048576):∃ r,xl1b v0 v1=some r∧r≤v1∧(0≤r→(szT (.sl (.pair (.sl (.int .i64)) (.pair (.sl (.int .i64)) .bool))) v0:Int)+r=v1):=by
 have hl:=hw.1
 have e0:IntKind.i64.wrap (v1 - (v0.length:Int))=v1 - (v0.length:Int):=wrap_id (by omega) (by omega)
 by_cases hn:v1 - (v0.length:Int)<0
 · exact ⟨-1,xl1b.eq v0 v1 (by simp only [xl1b.t,e0,dec_t hn,cond_true]),by omega,fun h => by omega⟩
 · have key:∀ i,i≤v0.length→∀ m:Int,0≤m→m≤1048576→∃ r,xl1b.l5 v0 m (i:Int)=some r∧r≤m∧(0≤r→((((v0.drop i).map (szT (.pair (.sl (.int .i64)) (.pair (.sl (.int .i64)) .bool)))).sum:Nat):Int)+r=m):=by
    refine upto ?_ ?_
    · intro m h1 h2
      exact ⟨m,xl1b.eq5 v0 m (v0.length:Int) (by simp only [xl1b.t5,ix_lt,Nat.lt_irrefl,decide_false,cond_false]),Int.le_refl _,fun _ => by simp⟩
    · intro i hi ih m h1 h2
      obtain ⟨r,hr,hr1,hr2⟩:=xl1l_ok ((v0.getD i ([],[],Bool.false)).fst) ((v0.getD i ([],[],Bool.false)).snd.fst) ((v0.getD i ([],[],Bool.false)).snd.snd) m (hw.2 _ (getD_mem ([],[],Bool.false) hi)) h1 h2
      by_cases hneg:r<0
      · exact ⟨-1,xl1b.eq5 v0 m (i:Int) (by simp only [xl1b.t5,ix_lt,ix_nn,ix_nat,dec_t hi,cond_true,hr,Option.bind_some,dec_t hneg]),by omega,fun h => by omega⟩
      · obtain ⟨r2, g0, g1, g2⟩ := ih r (by omega) (by omega)
        refine ⟨r2,xl1b.eq5 v0 m (i:Int) (by simp only [xl1b.t5,ix_lt,ix_nn,ix_nat,dec_t hi,cond_true,hr,Option.bind_some,dec_f hneg,cond_false,wrap_succ (show i<9223372036854775807 by omega),g0]),by omega,fun h => ?_⟩
        have k1:=hr2 (by omega)
        have k2:=g2 h
        rw [drop_getD ([],[],Bool.false) hi]
        simp only [List.map_cons,List.sum_cons]
        simp only [szT] at k1 k2 ⊢
        omega
   obtain ⟨r,g0,g1,g2⟩:=key 0 (Nat.zero_le _) (v1 - (v0.length:Int)) (by omega) (by omega)
   refine ⟨r,xl1b.eq v0 v1 (by simp only [xl1b.t,e0,dec_f hn,cond_false]; exact g0),by omega,fun h => ?_⟩
   have:=g2 h
   simp only [List.drop_zero] at this
   simp only [szT] at this ⊢
   omega
theorem xl1k_ok (v0:List (Int × Int × Bool)) (v1:List (List Int × List Int × Bool)) (v2:Int) (hw:WfT (.pair (.sl (.pair (.int .i64) (.pair (.int .i64) .bool))) (.sl (.pair (.sl (.int .i64)) (.pair (.sl (.int .i64)) .bool)))) (v0,v1)) (h1:0≤v2) (h2:v2≤1048576):∃ r,xl1k v0 v1 v2=some r∧r≤v2∧(0≤r→(szT (.pair (.sl (.pair (.int .i64) (.pair (.int .i64) .bool))) (.sl (.pair (.sl (.int .i64)) (.pair (.sl (.int .i64)) .bool)))) (v0,v1):Int)+r=v2):=by
 obtain ⟨r1,e1,a1,b1⟩:=xl1a_ok v0 v2 hw.1 h1 h2
 by_cases n1:r1<0
 · exact ⟨-1,xl1k.eq v0 v1 v2 (by simp only [xl1k.t,dec_t n1,e1,cond_true,cond_false,Option.bind_some]),by omega,fun h => by omega⟩
 obtain ⟨r2,e2,a2,b2⟩:=xl1b_ok v1 r1 hw.2 (by omega) (by omega)
 by_cases n2:r2<0
 · exact ⟨-1,xl1k.eq v0 v1 v2 (by simp only [xl1k.t,e1,dec_f n1,dec_t n2,e2,cond_true,cond_false,Option.bind_some]),by omega,fun h => by omega⟩
 refine ⟨r2,xl1k.eq v0 v1 v2 (by simp only [xl1k.t,e1,dec_f n1,e2,dec_f n2,cond_true,cond_false,Option.bind_some]),by omega,fun h => ?_⟩
 have k1:=b1 (by omega)
 have k2:=b2 (by omega)
 simp only [szT] at k1 k2 ⊢
 omega
theorem xl1n_id (v0:Int) (v1:Int) (v2:Bool) (h:szT (.pair (.int .i64) (.pair (.int .i64) .bool)) (v0,(v1,v2))≤1073741824):xl1n v0 v1 v2=some (v0,v1,v2):=by
 exact xl1n.eq v0 v1 v2 (by simp only [xl1n.t,Option.bind_some])
theorem xl1c_id (v0:List (Int × Int × Bool)) (h:szT (.sl (.pair (.int .i64) (.pair (.int .i64) .bool))) v0≤1073741824):xl1c v0=some v0:=by
 have hlen:v0.length≤1073741824:=Nat.le_trans (szT_len (t:=(.pair (.int .i64) (.pair (.int .i64) .bool)))) h
 have key:∀ i,i≤v0.length→∀ a:List (Int × Int × Bool),a.length=v0.length→a.take i=v0.take i→xl1c.l3 v0 a (i:Int)=some v0:=by
  refine upto ?_ ?_
  · intro a ha hh
    have ea:=take_all_eq ha hh
    subst ea
    exact xl1c.eq3 a a (a.length:Int) (by simp only [xl1c.t3,ix_lt,Nat.lt_irrefl,decide_false,cond_false])
  · intro i hi ih a ha hh
    have hc:=xl1n_id ((v0.getD i ((0:Int),(0:Int),Bool.false)).fst) ((v0.getD i ((0:Int),(0:Int),Bool.false)).snd.fst) ((v0.getD i ((0:Int),(0:Int),Bool.false)).snd.snd) (Nat.le_trans (szT_mem (t:=(.pair (.int .i64) (.pair (.int .i64) .bool))) (getD_mem ((0:Int),(0:Int),Bool.false) hi)) h)
    have g:=ih (a.set i (v0.getD i ((0:Int),(0:Int),false))) (by simp [ha]) (set_step hi ha hh)
    have hia:i<a.length:=by omega
    refine xl1c.eq3 v0 a (i:Int) ?_
    simp only [xl1c.t3,ix_lt,ix_nn,ix_nat,dec_t hi,dec_t hia,cond_true,hc,Option.bind_some,wrap_succ (show i<9223372036854775807 by omega)]
    exact g
 refine xl1c.eq v0 ?_
 have h3:((v0.length:Int) * ((3:Nat):Int)≤(4398046511104:Int)):=by omega
 simp only [xl1c.t,decide_true,dec_t h3,cond_true,ix_nat]
 exact key 0 (Nat.zero_le _) _ (by simp) (by simp)
theorem xl1m_id (v0:List Int) (h:szT (.sl (.int .i64)) v0≤1073741824):xl1m v0=some v0:=by
 have hlen:v0.length≤1073741824:=Nat.le_trans (szT_len (t:=(.int .i64))) h
 have key:∀ i,i≤v0.length→∀ a:List Int,a.length=v0.length→a.take i=v0.take i→xl1m.l3 v0 a (i:Int)=some v0:=by
  refine upto ?_ ?_
  · intro a ha hh
    have ea:=take_all_eq ha hh
    subst ea
    exact xl1m.eq3 a a (a.length:Int) (by simp only [xl1m.t3,ix_lt,Nat.lt_irrefl,decide_false,cond_false])
  · intro i hi ih a ha hh
    have g:=ih (a.set i (v0.getD i (0:Int))) (by simp [ha]) (set_step hi ha hh)
    have hia:i<a.length:=by omega
    refine xl1m.eq3 v0 a (i:Int) ?_
    simp only [xl1m.t3,ix_lt,ix_nn,ix_nat,dec_t hi,dec_t hia,cond_true,wrap_succ (show i<9223372036854775807 by omega)]
    exact g
 refine xl1m.eq v0 ?_
 have h3:((v0.length:Int) * ((1:Nat):Int)≤(4398046511104:Int)):=by omega
 simp only [xl1m.t,decide_true,dec_t h3,cond_true,ix_nat]
 exact key 0 (Nat.zero_le _) _ (by simp) (by simp)
theorem xl1p_id (v0:List Int) (v1:List Int) (v2:Bool) (h:szT (.pair (.sl (.int .i64)) (.pair (.sl (.int .i64)) .bool)) (v0,(v1,v2))≤1073741824):xl1p v0 v1 v2=some (v0,v1,v2):=by
 have e1:=xl1m_id v0 (by simp only [szT] at h ⊢; omega)
 have e2:=xl1m_id v1 (by simp only [szT] at h ⊢; omega)
 exact xl1p.eq v0 v1 v2 (by simp only [xl1p.t,e1,e2,Option.bind_some])
theorem xl1d_id (v0:List (List Int × List Int × Bool)) (h:szT (.sl (.pair (.sl (.int .i64)) (.pair (.sl (.int .i64)) .bool))) v0≤1073741824):xl1d v0=some v0:=by
 have hlen:v0.length≤1073741824:=Nat.le_trans (szT_len (t:=(.pair (.sl (.int .i64)) (.pair (.sl (.int .i64)) .bool)))) h
 have key:∀ i,i≤v0.length→∀ a:List (List Int × List Int × Bool),a.length=v0.length→a.take i=v0.take i→xl1d.l3 v0 a (i:Int)=some v0:=by
  refine upto ?_ ?_
  · intro a ha hh
    have ea:=take_all_eq ha hh
    subst ea
    exact xl1d.eq3 a a (a.length:Int) (by simp only [xl1d.t3,ix_lt,Nat.lt_irrefl,decide_false,cond_false])
  · intro i hi ih a ha hh
    have hc:=xl1p_id ((v0.getD i ([],[],Bool.false)).fst) ((v0.getD i ([],[],Bool.false)).snd.fst) ((v0.getD i ([],[],Bool.false)).snd.snd) (Nat.le_trans (szT_mem (t:=(.pair (.sl (.int .i64)) (.pair (.sl (.int .i64)) .bool))) (getD_mem ([],[],Bool.false) hi)) h)
    have g:=ih (a.set i (v0.getD i ([],[],false))) (by simp [ha]) (set_step hi ha hh)
    have hia:i<a.length:=by omega
    refine xl1d.eq3 v0 a (i:Int) ?_
    simp only [xl1d.t3,ix_lt,ix_nn,ix_nat,dec_t hi,dec_t hia,cond_true,hc,Option.bind_some,wrap_succ (show i<9223372036854775807 by omega)]
    exact g
 refine xl1d.eq v0 ?_
 have h3:((v0.length:Int) * ((3:Nat):Int)≤(4398046511104:Int)):=by omega
 simp only [xl1d.t,decide_true,dec_t h3,cond_true,ix_nat]
 exact key 0 (Nat.zero_le _) _ (by simp) (by simp)
theorem xl1o_id (v0:List (Int × Int × Bool)) (v1:List (List Int × List Int × Bool)) (h:szT (.pair (.sl (.pair (.int .i64) (.pair (.int .i64) .bool))) (.sl (.pair (.sl (.int .i64)) (.pair (.sl (.int .i64)) .bool)))) (v0,v1)≤1073741824):xl1o v0 v1=some (v0,v1):=by
 have e1:=xl1c_id v0 (by simp only [szT] at h ⊢; omega)
 have e2:=xl1d_id v1 (by simp only [szT] at h ⊢; omega)
 exact xl1o.eq v0 v1 (by simp only [xl1o.t,e1,e2,Option.bind_some])
theorem xs02_ok (v0:List Int) (p:Int→Bool) (hl:v0.length≤4611686018427387904) (hp:∀ x,x∈v0→xi07 (x)=some (p x)):∃ r:Int,xs02 v0=some r∧decide (r ≥ 0)=v0.any p:=by
 have key:∀ i,i≤v0.length→∃ r:Int,xs02.l2 (v0) ((↑v0.length:Int)) (i:Int)=some r∧decide (r ≥ 0)=(v0.drop i).any p:=by
  refine upto ?_ ?_
  · exact ⟨-1,xs02.eq2 (v0) ((↑v0.length:Int)) (v0.length:Int) (by simp only [xs02.t2,ix_lt,Nat.lt_irrefl,decide_false,cond_false]),by simp⟩
  · intro i hi ih
    have hc:=hp _ (getD_mem (0:Int) hi)
    rw [drop_getD (0:Int) hi,List.any_cons]
    cases hx:p (v0.getD i (0:Int)) with
    | true => exact ⟨i,xs02.eq2 (v0) ((↑v0.length:Int)) (i:Int) (by simp only [xs02.t2,ix_lt,ix_nn,ix_nat,dec_t hi,cond_true,hc,hx,Option.bind_some]),by simp⟩
    | false =>
      obtain ⟨r,g0,g1⟩:=ih
      exact ⟨r,xs02.eq2 (v0) ((↑v0.length:Int)) (i:Int) (by simp only [xs02.t2,ix_lt,ix_nn,ix_nat,dec_t hi,cond_true,cond_false,hc,hx,Option.bind_some,wrap_succ (show i<9223372036854775807 by omega),g0]),by rw [g1,Bool.false_or]⟩
 obtain ⟨r,g0,g1⟩:=key 0 (Nat.zero_le _)
 exact ⟨r,xs02.eq v0 (by simp only [xs02.t]; exact g0),by simpa using g1⟩
theorem xs00_ok (v0:List Int) (p:Int→Bool) (hl:v0.length≤4611686018427387904) (hp:∀ x,x∈v0→xi07 (x)=some (p x)):xs00 v0=some (v0.any p):=by
 obtain ⟨r,g0,g1⟩:=xs02_ok (v0) p hl hp
 exact xs00.eq v0 (by simp only [xs00.t,g0,Option.bind_some,g1])
theorem xi09_ok (v0:List Int) (p:Int→Bool) (hl:v0.length≤4611686018427387904) (hp:∀ x,x∈v0→xi0i ((x))=some (p x)):xi09 v0=some (v0.all p):=by
 have g:=xs00_ok (v0) (fun x => !p x) hl (fun x hx => xi07.eq (x) (by simp only [xi07.t,hp x hx,Option.bind_some]))
 exact xi09.eq v0 (by simp only [xi09.t,g,Option.bind_some,List.all_eq_not_any_not])
theorem xs03_ok (v0:List Int) (p:Int→Bool) (hl:v0.length≤4611686018427387904) (hp:∀ x,x∈v0→xi08 (x)=some (p x)):∃ r:Int,xs03 v0=some r∧decide (r ≥ 0)=v0.any p:=by
 have key:∀ i,i≤v0.length→∃ r:Int,xs03.l2 (v0) ((↑v0.length:Int)) (i:Int)=some r∧decide (r ≥ 0)=(v0.drop i).any p:=by
  refine upto ?_ ?_
  · exact ⟨-1,xs03.eq2 (v0) ((↑v0.length:Int)) (v0.length:Int) (by simp only [xs03.t2,ix_lt,Nat.lt_irrefl,decide_false,cond_false]),by simp⟩
  · intro i hi ih
    have hc:=hp _ (getD_mem (0:Int) hi)
    rw [drop_getD (0:Int) hi,List.any_cons]
    cases hx:p (v0.getD i (0:Int)) with
    | true => exact ⟨i,xs03.eq2 (v0) ((↑v0.length:Int)) (i:Int) (by simp only [xs03.t2,ix_lt,ix_nn,ix_nat,dec_t hi,cond_true,hc,hx,Option.bind_some]),by simp⟩
    | false =>
      obtain ⟨r,g0,g1⟩:=ih
      exact ⟨r,xs03.eq2 (v0) ((↑v0.length:Int)) (i:Int) (by simp only [xs03.t2,ix_lt,ix_nn,ix_nat,dec_t hi,cond_true,cond_false,hc,hx,Option.bind_some,wrap_succ (show i<9223372036854775807 by omega),g0]),by rw [g1,Bool.false_or]⟩
 obtain ⟨r,g0,g1⟩:=key 0 (Nat.zero_le _)
 exact ⟨r,xs03.eq v0 (by simp only [xs03.t]; exact g0),by simpa using g1⟩
theorem xs01_ok (v0:List Int) (p:Int→Bool) (hl:v0.length≤4611686018427387904) (hp:∀ x,x∈v0→xi08 (x)=some (p x)):xs01 v0=some (v0.any p):=by
 obtain ⟨r,g0,g1⟩:=xs03_ok (v0) p hl hp
 exact xs01.eq v0 (by simp only [xs01.t,g0,Option.bind_some,g1])
theorem xi0a_ok (v0:List Int) (p:Int→Bool) (hl:v0.length≤4611686018427387904) (hp:∀ x,x∈v0→xi0p ((x))=some (p x)):xi0a v0=some (v0.all p):=by
 have g:=xs01_ok (v0) (fun x => !p x) hl (fun x hx => xi08.eq (x) (by simp only [xi08.t,hp x hx,Option.bind_some]))
 exact xi0a.eq v0 (by simp only [xi0a.t,g,Option.bind_some,List.all_eq_not_any_not])
theorem xs05_ok (v0:List (Int × Int × Bool)) (p:(Int) × ((Int) × (Bool))→Bool) (hl:v0.length≤4611686018427387904) (hp:∀ x,x∈v0→xi0l ((x).fst) ((x).snd.fst) ((x).snd.snd)=some (p x)):∃ r:Int,xs05 v0=some r∧decide (r ≥ 0)=v0.any p:=by
 have key:∀ i,i≤v0.length→∃ r:Int,xs05.l2 (v0) ((↑v0.length:Int)) (i:Int)=some r∧decide (r ≥ 0)=(v0.drop i).any p:=by
  refine upto ?_ ?_
  · exact ⟨-1,xs05.eq2 (v0) ((↑v0.length:Int)) (v0.length:Int) (by simp only [xs05.t2,ix_lt,Nat.lt_irrefl,decide_false,cond_false]),by simp⟩
  · intro i hi ih
    have hc:=hp _ (getD_mem ((0:Int),(0:Int),false) hi)
    rw [drop_getD ((0:Int),(0:Int),false) hi,List.any_cons]
    cases hx:p (v0.getD i ((0:Int),(0:Int),false)) with
    | true => exact ⟨i,xs05.eq2 (v0) ((↑v0.length:Int)) (i:Int) (by simp only [xs05.t2,ix_lt,ix_nn,ix_nat,dec_t hi,cond_true,hc,hx,Option.bind_some]),by simp⟩
    | false =>
      obtain ⟨r,g0,g1⟩:=ih
      exact ⟨r,xs05.eq2 (v0) ((↑v0.length:Int)) (i:Int) (by simp only [xs05.t2,ix_lt,ix_nn,ix_nat,dec_t hi,cond_true,cond_false,hc,hx,Option.bind_some,wrap_succ (show i<9223372036854775807 by omega),g0]),by rw [g1,Bool.false_or]⟩
 obtain ⟨r,g0,g1⟩:=key 0 (Nat.zero_le _)
 exact ⟨r,xs05.eq v0 (by simp only [xs05.t]; exact g0),by simpa using g1⟩
theorem xs04_ok (v0:List (Int × Int × Bool)) (p:(Int) × ((Int) × (Bool))→Bool) (hl:v0.length≤4611686018427387904) (hp:∀ x,x∈v0→xi0l ((x).fst) ((x).snd.fst) ((x).snd.snd)=some (p x)):xs04 v0=some (v0.any p):=by
 obtain ⟨r,g0,g1⟩:=xs05_ok (v0) p hl hp
 exact xs04.eq v0 (by simp only [xs04.t,g0,Option.bind_some,g1])
theorem xl1g_rf (v0:Int) (v1:Int) (v2:Bool) (h:szT (.pair (.int .i64) (.pair (.int .i64) .bool)) (v0,(v1,v2))≤1073741824):xl1g v0 v1 v2 v0 v1 v2=some true:=by
 exact xl1g.eq v0 v1 v2 v0 v1 v2 (by simp only [xl1g.t,Option.bind_some,bne_ref,beq_ref,bang_t,cond_false])
theorem xl18_rf (v0:List (Int × Int × Bool)) (h:szT (.sl (.pair (.int .i64) (.pair (.int .i64) .bool))) v0≤1073741824):xl18 v0 v0=some true:=by
 have hlen:v0.length≤1073741824:=Nat.le_trans (szT_len (t:=(.pair (.int .i64) (.pair (.int .i64) .bool)))) h
 have key:∀ i,i≤v0.length→xl18.l4 v0 v0 (i:Int)=some true:=by
  refine upto ?_ ?_
  · exact xl18.eq4 v0 v0 (v0.length:Int) (by simp only [xl18.t4,ix_lt,Nat.lt_irrefl,decide_false,cond_false])
  · intro i hi ih
    have hc:=xl1g_rf ((v0.getD i ((0:Int),(0:Int),Bool.false)).fst) ((v0.getD i ((0:Int),(0:Int),Bool.false)).snd.fst) ((v0.getD i ((0:Int),(0:Int),Bool.false)).snd.snd) (Nat.le_trans (szT_mem (t:=(.pair (.int .i64) (.pair (.int .i64) .bool))) (getD_mem ((0:Int),(0:Int),Bool.false) hi)) h)
    exact xl18.eq4 v0 v0 (i:Int) (by simp only [xl18.t4,ix_lt,ix_nn,ix_nat,dec_t hi,cond_true,cond_false,bne_ref,beq_ref,bang_t,hc,Option.bind_some,bang_t,wrap_succ (show i<9223372036854775807 by omega),ih])
 exact xl18.eq v0 v0 (by simp only [xl18.t,bne_ref,cond_false]; exact key 0 (Nat.zero_le _))
theorem xl1f_rf (v0:List Int) (h:szT (.sl (.int .i64)) v0≤1073741824):xl1f v0 v0=some true:=by
 have hlen:v0.length≤1073741824:=Nat.le_trans (szT_len (t:=(.int .i64))) h
 have key:∀ i,i≤v0.length→xl1f.l4 v0 v0 (i:Int)=some true:=by
  refine upto ?_ ?_
  · exact xl1f.eq4 v0 v0 (v0.length:Int) (by simp only [xl1f.t4,ix_lt,Nat.lt_irrefl,decide_false,cond_false])
  · intro i hi ih
    exact xl1f.eq4 v0 v0 (i:Int) (by simp only [xl1f.t4,ix_lt,ix_nn,ix_nat,dec_t hi,cond_true,cond_false,bne_ref,beq_ref,bang_t,wrap_succ (show i<9223372036854775807 by omega),ih])
 exact xl1f.eq v0 v0 (by simp only [xl1f.t,bne_ref,cond_false]; exact key 0 (Nat.zero_le _))
theorem xl1i_rf (v0:List Int) (v1:List Int) (v2:Bool) (h:szT (.pair (.sl (.int .i64)) (.pair (.sl (.int .i64)) .bool)) (v0,(v1,v2))≤1073741824):xl1i v0 v1 v2 v0 v1 v2=some true:=by
 have e1:=xl1f_rf v0 (by simp only [szT] at h ⊢; omega)
 have e2:=xl1f_rf v1 (by simp only [szT] at h ⊢; omega)
 exact xl1i.eq v0 v1 v2 v0 v1 v2 (by simp only [xl1i.t,e1,e2,Option.bind_some,bne_ref,beq_ref,bang_t,cond_false])
theorem xl19_rf (v0:List (List Int × List Int × Bool)) (h:szT (.sl (.pair (.sl (.int .i64)) (.pair (.sl (.int .i64)) .bool))) v0≤1073741824):xl19 v0 v0=some true:=by
 have hlen:v0.length≤1073741824:=Nat.le_trans (szT_len (t:=(.pair (.sl (.int .i64)) (.pair (.sl (.int .i64)) .bool)))) h
 have key:∀ i,i≤v0.length→xl19.l4 v0 v0 (i:Int)=some true:=by
  refine upto ?_ ?_
  · exact xl19.eq4 v0 v0 (v0.length:Int) (by simp only [xl19.t4,ix_lt,Nat.lt_irrefl,decide_false,cond_false])
  · intro i hi ih
    have hc:=xl1i_rf ((v0.getD i ([],[],Bool.false)).fst) ((v0.getD i ([],[],Bool.false)).snd.fst) ((v0.getD i ([],[],Bool.false)).snd.snd) (Nat.le_trans (szT_mem (t:=(.pair (.sl (.int .i64)) (.pair (.sl (.int .i64)) .bool))) (getD_mem ([],[],Bool.false) hi)) h)
    exact xl19.eq4 v0 v0 (i:Int) (by simp only [xl19.t4,ix_lt,ix_nn,ix_nat,dec_t hi,cond_true,cond_false,bne_ref,beq_ref,bang_t,hc,Option.bind_some,bang_t,wrap_succ (show i<9223372036854775807 by omega),ih])
 exact xl19.eq v0 v0 (by simp only [xl19.t,bne_ref,cond_false]; exact key 0 (Nat.zero_le _))
theorem xl1h_rf (v0:List (Int × Int × Bool)) (v1:List (List Int × List Int × Bool)) (h:szT (.pair (.sl (.pair (.int .i64) (.pair (.int .i64) .bool))) (.sl (.pair (.sl (.int .i64)) (.pair (.sl (.int .i64)) .bool)))) (v0,v1)≤1073741824):xl1h v0 v1 v0 v1=some true:=by
 have e1:=xl18_rf v0 (by simp only [szT] at h ⊢; omega)
 have e2:=xl19_rf v1 (by simp only [szT] at h ⊢; omega)
 exact xl1h.eq v0 v1 v0 v1 (by simp only [xl1h.t,e1,e2,Option.bind_some,bne_ref,beq_ref,bang_t,cond_false])
theorem xl0j_ok (v0:List (Int × Int × Bool)) (v1:Int) (h0:0≤v1) (h1:v1+(cntT (.sl (.pair (.int .i64) (.pair (.int .i64) .bool))) v0:Int)≤4611686018427387904) (h2:szT (.sl (.pair (.int .i64) (.pair (.int .i64) .bool))) v0≤1073741824):xl0j v0 v1=some ((mrL (mrE (.pair (.int .i64) (.pair (.int .i64) .bool))) v0 v1).2,(mrL (mrE (.pair (.int .i64) (.pair (.int .i64) .bool))) v0 v1).1):=by
 have key : ∀ (rest pre : List (Int × Int × Bool)) (k : Int), 0 ≤ k → k + (cntT (.sl (.pair (.int .i64) (.pair (.int .i64) .bool))) rest : Int) ≤ 4611686018427387904 → pre.length + szT (.sl (.pair (.int .i64) (.pair (.int .i64) .bool))) rest ≤ 1073741824 →
  xl0j.l2 (pre ++ rest) k (pre.length:Int)=some ((mrL (mrE (.pair (.int .i64) (.pair (.int .i64) .bool))) rest k).2,pre ++ (mrL (mrE (.pair (.int .i64) (.pair (.int .i64) .bool))) rest k).1):=by
  intro rest
  induction rest with
  | nil =>
    intro pre k _ _ _
    exact xl0j.eq2 _ _ _ (by simp only [xl0j.t2,List.append_nil,ix_lt,Nat.lt_irrefl,decide_false,cond_false,mrL_nil])
  | cons x r ih =>
    intro pre k hk hb hl
    rw [cnt_cons] at hb
    simp only [cntT] at hb
    simp only [szT,List.length_cons,List.map_cons,List.sum_cons] at hl
    have g:=ih (pre ++ [(mrE (.pair (.int .i64) (.pair (.int .i64) .bool)) x k).1]) (mrE (.pair (.int .i64) (.pair (.int .i64) .bool)) x k).2 (by rw [mrE_cnt]; omega) (by rw [mrE_cnt]; simp only [cntT] at hb ⊢; omega) (by simp only [szT,List.length_append,List.length_cons,List.length_nil] at hl ⊢; omega)
    refine xl0j.eq2 _ _ _ ?_
    simp only [mrL_cons,mrE_int,mrE_bool,mrE_sl,mrE_pair]
    simp only [xl0j.t2,lenI_mid,ix_nn,ix_nat,len_mid,set_mid,getD_mid,cond_true,cond_false,bne_ref,beq_ref,bang_t,wrap_k (k:=k) (by omega) (by omega),wrap_k (k:=(k+1)) (by omega) (by omega),wrap_k (k:=((k+1)+1)) (by omega) (by omega),wrap_succ (show pre.length<9223372036854775807 by omega),Option.bind_some,dec_rfl,Bool.and_true]
    rw [push_mid]
    simpa [mrE_int,mrE_bool,mrE_sl,mrE_pair] using g
 exact xl0j.eq v0 v1 (by simp only [xl0j.t]; exact key v0 [] v1 h0 h1 (by simpa using h2))
theorem xl0q_ok (v0:List Int) (v1:Int) (h0:0≤v1) (h1:v1+(cntT (.sl (.int .i64)) v0:Int)≤4611686018427387904) (h2:szT (.sl (.int .i64)) v0≤1073741824):xl0q v0 v1=some ((mrL (mrE (.int .i64)) v0 v1).2,(mrL (mrE (.int .i64)) v0 v1).1):=by
 have key : ∀ (rest pre : List Int) (k : Int), 0 ≤ k → k + (cntT (.sl (.int .i64)) rest : Int) ≤ 4611686018427387904 → pre.length + szT (.sl (.int .i64)) rest ≤ 1073741824 →
  xl0q.l2 (pre ++ rest) k (pre.length:Int)=some ((mrL (mrE (.int .i64)) rest k).2,pre ++ (mrL (mrE (.int .i64)) rest k).1):=by
  intro rest
  induction rest with
  | nil =>
    intro pre k _ _ _
    exact xl0q.eq2 _ _ _ (by simp only [xl0q.t2,List.append_nil,ix_lt,Nat.lt_irrefl,decide_false,cond_false,mrL_nil])
  | cons x r ih =>
    intro pre k hk hb hl
    rw [cnt_cons] at hb
    simp only [cntT] at hb
    simp only [szT,List.length_cons,List.map_cons,List.sum_cons] at hl
    have g:=ih (pre ++ [(mrE (.int .i64) x k).1]) (mrE (.int .i64) x k).2 (by rw [mrE_cnt]; omega) (by rw [mrE_cnt]; simp only [cntT] at hb ⊢; omega) (by simp only [szT,List.length_append,List.length_cons,List.length_nil] at hl ⊢; omega)
    refine xl0q.eq2 _ _ _ ?_
    simp only [mrL_cons,mrE_int,mrE_bool,mrE_sl,mrE_pair]
    simp only [xl0q.t2,lenI_mid,ix_nn,ix_nat,len_mid,set_mid,getD_mid,cond_true,cond_false,bne_ref,beq_ref,bang_t,wrap_k (k:=k) (by omega) (by omega),wrap_succ (show pre.length<9223372036854775807 by omega),Option.bind_some,dec_rfl,Bool.and_true]
    rw [push_mid]
    simpa [mrE_int,mrE_bool,mrE_sl,mrE_pair] using g
 exact xl0q.eq v0 v1 (by simp only [xl0q.t]; exact key v0 [] v1 h0 h1 (by simpa using h2))
theorem xl0k_ok (v0:List (List Int × List Int × Bool)) (v1:Int) (h0:0≤v1) (h1:v1+(cntT (.sl (.pair (.sl (.int .i64)) (.pair (.sl (.int .i64)) .bool))) v0:Int)≤4611686018427387904) (h2:szT (.sl (.pair (.sl (.int .i64)) (.pair (.sl (.int .i64)) .bool))) v0≤1073741824):xl0k v0 v1=some ((mrL (mrE (.pair (.sl (.int .i64)) (.pair (.sl (.int .i64)) .bool))) v0 v1).2,(mrL (mrE (.pair (.sl (.int .i64)) (.pair (.sl (.int .i64)) .bool))) v0 v1).1):=by
 have key : ∀ (rest pre : List (List Int × List Int × Bool)) (k : Int), 0 ≤ k → k + (cntT (.sl (.pair (.sl (.int .i64)) (.pair (.sl (.int .i64)) .bool))) rest : Int) ≤ 4611686018427387904 → pre.length + szT (.sl (.pair (.sl (.int .i64)) (.pair (.sl (.int .i64)) .bool))) rest ≤ 1073741824 →
  xl0k.l2 (pre ++ rest) k (pre.length:Int)=some ((mrL (mrE (.pair (.sl (.int .i64)) (.pair (.sl (.int .i64)) .bool))) rest k).2,pre ++ (mrL (mrE (.pair (.sl (.int .i64)) (.pair (.sl (.int .i64)) .bool))) rest k).1):=by
  intro rest
  induction rest with
  | nil =>
    intro pre k _ _ _
    exact xl0k.eq2 _ _ _ (by simp only [xl0k.t2,List.append_nil,ix_lt,Nat.lt_irrefl,decide_false,cond_false,mrL_nil])
  | cons x r ih =>
    intro pre k hk hb hl
    rw [cnt_cons] at hb
    simp only [cntT] at hb
    simp only [szT,List.length_cons,List.map_cons,List.sum_cons] at hl
    have n1:=mrL_cnt (t:=(.int .i64)) x.1 k
    simp only [cntT] at n1
    have c1:=xl0q_ok x.1 k (by omega) (by simp only [cntT]; omega) (by simp only [szT]; omega)
    have n2:=mrL_cnt (t:=(.int .i64)) x.2.1 (mrL (mrE (.int .i64)) x.1 k).2
    simp only [cntT] at n2
    have c2:=xl0q_ok x.2.1 (mrL (mrE (.int .i64)) x.1 k).2 (by omega) (by simp only [cntT]; omega) (by simp only [szT]; omega)
    have g:=ih (pre ++ [(mrE (.pair (.sl (.int .i64)) (.pair (.sl (.int .i64)) .bool)) x k).1]) (mrE (.pair (.sl (.int .i64)) (.pair (.sl (.int .i64)) .bool)) x k).2 (by rw [mrE_cnt]; omega) (by rw [mrE_cnt]; simp only [cntT] at hb ⊢; omega) (by simp only [szT,List.length_append,List.length_cons,List.length_nil] at hl ⊢; omega)
    refine xl0k.eq2 _ _ _ ?_
    simp only [mrL_cons,mrE_int,mrE_bool,mrE_sl,mrE_pair]
    simp only [xl0k.t2,lenI_mid,ix_nn,ix_nat,len_mid,set_mid,getD_mid,cond_true,cond_false,bne_ref,beq_ref,bang_t,wrap_k (k:=(mrL (mrE (.int .i64)) x.2.1 (mrL (mrE (.int .i64)) x.1 k).2).2) (by omega) (by omega),c1,c2,wrap_succ (show pre.length<9223372036854775807 by omega),Option.bind_some,dec_rfl,Bool.and_true]
    rw [push_mid]
    simpa [mrE_int,mrE_bool,mrE_sl,mrE_pair] using g
 exact xl0k.eq v0 v1 (by simp only [xl0k.t]; exact key v0 [] v1 h0 h1 (by simpa using h2))
theorem xl0r_ok (v0:List (Int × Int × Bool)) (v1:List (List Int × List Int × Bool)) (v2:Int) (h0:0≤v2) (h1:v2+(cntT (.pair (.sl (.pair (.int .i64) (.pair (.int .i64) .bool))) (.sl (.pair (.sl (.int .i64)) (.pair (.sl (.int .i64)) .bool)))) (v0,v1):Int)≤4611686018427387904) (h2:szT (.pair (.sl (.pair (.int .i64) (.pair (.int .i64) .bool))) (.sl (.pair (.sl (.int .i64)) (.pair (.sl (.int .i64)) .bool)))) (v0,v1)≤1073741824):xl0r v0 v1 v2=some ((mrT (.pair (.sl (.pair (.int .i64) (.pair (.int .i64) .bool))) (.sl (.pair (.sl (.int .i64)) (.pair (.sl (.int .i64)) .bool)))) (v0,v1) v2).2,(mrT (.pair (.sl (.pair (.int .i64) (.pair (.int .i64) .bool))) (.sl (.pair (.sl (.int .i64)) (.pair (.sl (.int .i64)) .bool)))) (v0,v1) v2).1.1,(mrT (.pair (.sl (.pair (.int .i64) (.pair (.int .i64) .bool))) (.sl (.pair (.sl (.int .i64)) (.pair (.sl (.int .i64)) .bool)))) (v0,v1) v2).1.2):=by
 simp only [cntT] at h1
 simp only [szT] at h2
 have n1:=mrL_cnt (t:=(.pair (.int .i64) (.pair (.int .i64) .bool))) v0 v2
 have n1b:=n1
 simp only [cntT] at n1b
 have c1:=xl0j_ok v0 v2 (by omega) (by simp only [cntT]; omega) (by simp only [szT]; omega)
 have n2:=mrL_cnt (t:=(.pair (.sl (.int .i64)) (.pair (.sl (.int .i64)) .bool))) v1 (mrL (mrE (.pair (.int .i64) (.pair (.int .i64) .bool))) v0 v2).2
 have n2b:=n2
 simp only [cntT] at n2b
 have c2:=xl0k_ok v1 (mrL (mrE (.pair (.int .i64) (.pair (.int .i64) .bool))) v0 v2).2 (by omega) (by simp only [cntT]; omega) (by simp only [szT]; omega)
 try simp only [mrT] at c1 c2
 refine xl0r.eq _ _ _ ?_
 simp only [xl0r.t,mrT,c1,c2,Option.bind_some,cond_false]
theorem xl0y_ok (v0:List (Int × Int × Bool)) (v1:Int) (h0:0≤v1) (h1:v1+(cntT (.sl (.pair (.int .i64) (.pair (.int .i64) .bool))) v0:Int)≤4611686018427387904) (h2:szT (.sl (.pair (.int .i64) (.pair (.int .i64) .bool))) v0≤1073741824):xl0y (mrL (mrE (.pair (.int .i64) (.pair (.int .i64) .bool))) v0 v1).1 v1=some (mrL (mrE (.pair (.int .i64) (.pair (.int .i64) .bool))) v0 v1).2:=by
 have key : ∀ (rest pre : List (Int × Int × Bool)) (k : Int), 0 ≤ k → k + (cntT (.sl (.pair (.int .i64) (.pair (.int .i64) .bool))) rest : Int) ≤ 4611686018427387904 → pre.length + szT (.sl (.pair (.int .i64) (.pair (.int .i64) .bool))) rest ≤ 1073741824 →
  xl0y.l2 (pre ++ (mrL (mrE (.pair (.int .i64) (.pair (.int .i64) .bool))) rest k).1) k (pre.length:Int)=some (mrL (mrE (.pair (.int .i64) (.pair (.int .i64) .bool))) rest k).2:=by
  intro rest
  induction rest with
  | nil =>
    intro pre k _ _ _
    exact xl0y.eq2 _ _ _ (by simp only [xl0y.t2,List.append_nil,ix_lt,Nat.lt_irrefl,decide_false,cond_false,mrL_nil])
  | cons x r ih =>
    intro pre k hk hb hl
    rw [cnt_cons] at hb
    simp only [cntT] at hb
    simp only [szT,List.length_cons,List.map_cons,List.sum_cons] at hl
    have g:=ih (pre ++ [(mrE (.pair (.int .i64) (.pair (.int .i64) .bool)) x k).1]) (mrE (.pair (.int .i64) (.pair (.int .i64) .bool)) x k).2 (by rw [mrE_cnt]; omega) (by rw [mrE_cnt]; simp only [cntT] at hb ⊢; omega) (by simp only [szT,List.length_append,List.length_cons,List.length_nil] at hl ⊢; omega)
    refine xl0y.eq2 _ _ _ ?_
    simp only [mrL_cons,mrE_int,mrE_bool,mrE_sl,mrE_pair]
    simp only [xl0y.t2,lenI_mid,ix_nn,ix_nat,len_mid,set_mid,getD_mid,cond_true,cond_false,bne_ref,beq_ref,bang_t,wrap_k (k:=k) (by omega) (by omega),wrap_k (k:=(k+1)) (by omega) (by omega),wrap_k (k:=((k+1)+1)) (by omega) (by omega),wrap_succ (show pre.length<9223372036854775807 by omega),Option.bind_some,dec_rfl,Bool.and_true]
    rw [push_mid]
    simpa [mrE_int,mrE_bool,mrE_sl,mrE_pair] using g
 exact xl0y.eq _ v1 (by simp only [xl0y.t]; exact key v0 [] v1 h0 h1 (by simpa using h2))
theorem xl14_ok (v0:List Int) (v1:Int) (h0:0≤v1) (h1:v1+(cntT (.sl (.int .i64)) v0:Int)≤4611686018427387904) (h2:szT (.sl (.int .i64)) v0≤1073741824):xl14 (mrL (mrE (.int .i64)) v0 v1).1 v1=some (mrL (mrE (.int .i64)) v0 v1).2:=by
 have key : ∀ (rest pre : List Int) (k : Int), 0 ≤ k → k + (cntT (.sl (.int .i64)) rest : Int) ≤ 4611686018427387904 → pre.length + szT (.sl (.int .i64)) rest ≤ 1073741824 →
  xl14.l2 (pre ++ (mrL (mrE (.int .i64)) rest k).1) k (pre.length:Int)=some (mrL (mrE (.int .i64)) rest k).2:=by
  intro rest
  induction rest with
  | nil =>
    intro pre k _ _ _
    exact xl14.eq2 _ _ _ (by simp only [xl14.t2,List.append_nil,ix_lt,Nat.lt_irrefl,decide_false,cond_false,mrL_nil])
  | cons x r ih =>
    intro pre k hk hb hl
    rw [cnt_cons] at hb
    simp only [cntT] at hb
    simp only [szT,List.length_cons,List.map_cons,List.sum_cons] at hl
    have g:=ih (pre ++ [(mrE (.int .i64) x k).1]) (mrE (.int .i64) x k).2 (by rw [mrE_cnt]; omega) (by rw [mrE_cnt]; simp only [cntT] at hb ⊢; omega) (by simp only [szT,List.length_append,List.length_cons,List.length_nil] at hl ⊢; omega)
    refine xl14.eq2 _ _ _ ?_
    simp only [mrL_cons,mrE_int,mrE_bool,mrE_sl,mrE_pair]
    simp only [xl14.t2,lenI_mid,ix_nn,ix_nat,len_mid,set_mid,getD_mid,cond_true,cond_false,bne_ref,beq_ref,bang_t,wrap_k (k:=k) (by omega) (by omega),wrap_succ (show pre.length<9223372036854775807 by omega),Option.bind_some,dec_rfl,Bool.and_true]
    rw [push_mid]
    simpa [mrE_int,mrE_bool,mrE_sl,mrE_pair] using g
 exact xl14.eq _ v1 (by simp only [xl14.t]; exact key v0 [] v1 h0 h1 (by simpa using h2))
theorem xl0z_ok (v0:List (List Int × List Int × Bool)) (v1:Int) (h0:0≤v1) (h1:v1+(cntT (.sl (.pair (.sl (.int .i64)) (.pair (.sl (.int .i64)) .bool))) v0:Int)≤4611686018427387904) (h2:szT (.sl (.pair (.sl (.int .i64)) (.pair (.sl (.int .i64)) .bool))) v0≤1073741824):xl0z (mrL (mrE (.pair (.sl (.int .i64)) (.pair (.sl (.int .i64)) .bool))) v0 v1).1 v1=some (mrL (mrE (.pair (.sl (.int .i64)) (.pair (.sl (.int .i64)) .bool))) v0 v1).2:=by
 have key : ∀ (rest pre : List (List Int × List Int × Bool)) (k : Int), 0 ≤ k → k + (cntT (.sl (.pair (.sl (.int .i64)) (.pair (.sl (.int .i64)) .bool))) rest : Int) ≤ 4611686018427387904 → pre.length + szT (.sl (.pair (.sl (.int .i64)) (.pair (.sl (.int .i64)) .bool))) rest ≤ 1073741824 →
  xl0z.l2 (pre ++ (mrL (mrE (.pair (.sl (.int .i64)) (.pair (.sl (.int .i64)) .bool))) rest k).1) k (pre.length:Int)=some (mrL (mrE (.pair (.sl (.int .i64)) (.pair (.sl (.int .i64)) .bool))) rest k).2:=by
  intro rest
  induction rest with
  | nil =>
    intro pre k _ _ _
    exact xl0z.eq2 _ _ _ (by simp only [xl0z.t2,List.append_nil,ix_lt,Nat.lt_irrefl,decide_false,cond_false,mrL_nil])
  | cons x r ih =>
    intro pre k hk hb hl
    rw [cnt_cons] at hb
    simp only [cntT] at hb
    simp only [szT,List.length_cons,List.map_cons,List.sum_cons] at hl
    have n1:=mrL_cnt (t:=(.int .i64)) x.1 k
    simp only [cntT] at n1
    have c1:=xl14_ok x.1 k (by omega) (by simp only [cntT]; omega) (by simp only [szT]; omega)
    have g1:¬ (mrL (mrE (.int .i64)) x.1 k).2<0:=by omega
    have n2:=mrL_cnt (t:=(.int .i64)) x.2.1 (mrL (mrE (.int .i64)) x.1 k).2
    simp only [cntT] at n2
    have c2:=xl14_ok x.2.1 (mrL (mrE (.int .i64)) x.1 k).2 (by omega) (by simp only [cntT]; omega) (by simp only [szT]; omega)
    have g2:¬ (mrL (mrE (.int .i64)) x.2.1 (mrL (mrE (.int .i64)) x.1 k).2).2<0:=by omega
    have g:=ih (pre ++ [(mrE (.pair (.sl (.int .i64)) (.pair (.sl (.int .i64)) .bool)) x k).1]) (mrE (.pair (.sl (.int .i64)) (.pair (.sl (.int .i64)) .bool)) x k).2 (by rw [mrE_cnt]; omega) (by rw [mrE_cnt]; simp only [cntT] at hb ⊢; omega) (by simp only [szT,List.length_append,List.length_cons,List.length_nil] at hl ⊢; omega)
    refine xl0z.eq2 _ _ _ ?_
    simp only [mrL_cons,mrE_int,mrE_bool,mrE_sl,mrE_pair]
    simp only [xl0z.t2,lenI_mid,ix_nn,ix_nat,len_mid,set_mid,getD_mid,cond_true,cond_false,bne_ref,beq_ref,bang_t,wrap_k (k:=(mrL (mrE (.int .i64)) x.2.1 (mrL (mrE (.int .i64)) x.1 k).2).2) (by omega) (by omega),c1,dec_f g1,c2,dec_f g2,wrap_succ (show pre.length<9223372036854775807 by omega),Option.bind_some,dec_rfl,Bool.and_true]
    rw [push_mid]
    simpa [mrE_int,mrE_bool,mrE_sl,mrE_pair] using g
 exact xl0z.eq _ v1 (by simp only [xl0z.t]; exact key v0 [] v1 h0 h1 (by simpa using h2))
theorem xl15_ok (v0:List (Int × Int × Bool)) (v1:List (List Int × List Int × Bool)) (v2:Int) (h0:0≤v2) (h1:v2+(cntT (.pair (.sl (.pair (.int .i64) (.pair (.int .i64) .bool))) (.sl (.pair (.sl (.int .i64)) (.pair (.sl (.int .i64)) .bool)))) (v0,v1):Int)≤4611686018427387904) (h2:szT (.pair (.sl (.pair (.int .i64) (.pair (.int .i64) .bool))) (.sl (.pair (.sl (.int .i64)) (.pair (.sl (.int .i64)) .bool)))) (v0,v1)≤1073741824):xl15 ((mrT (.pair (.sl (.pair (.int .i64) (.pair (.int .i64) .bool))) (.sl (.pair (.sl (.int .i64)) (.pair (.sl (.int .i64)) .bool)))) (v0,v1) v2).1.1) ((mrT (.pair (.sl (.pair (.int .i64) (.pair (.int .i64) .bool))) (.sl (.pair (.sl (.int .i64)) (.pair (.sl (.int .i64)) .bool)))) (v0,v1) v2).1.2) v2=some (mrT (.pair (.sl (.pair (.int .i64) (.pair (.int .i64) .bool))) (.sl (.pair (.sl (.int .i64)) (.pair (.sl (.int .i64)) .bool)))) (v0,v1) v2).2:=by
 simp only [cntT] at h1
 simp only [szT] at h2
 have n1:=mrL_cnt (t:=(.pair (.int .i64) (.pair (.int .i64) .bool))) v0 v2
 have n1b:=n1
 simp only [cntT] at n1b
 have c1:=xl0y_ok v0 v2 (by omega) (by simp only [cntT]; omega) (by simp only [szT]; omega)
 have g1:¬ (mrL (mrE (.pair (.int .i64) (.pair (.int .i64) .bool))) v0 v2).2<0:=by omega
 have n2:=mrL_cnt (t:=(.pair (.sl (.int .i64)) (.pair (.sl (.int .i64)) .bool))) v1 (mrL (mrE (.pair (.int .i64) (.pair (.int .i64) .bool))) v0 v2).2
 have n2b:=n2
 simp only [cntT] at n2b
 have c2:=xl0z_ok v1 (mrL (mrE (.pair (.int .i64) (.pair (.int .i64) .bool))) v0 v2).2 (by omega) (by simp only [cntT]; omega) (by simp only [szT]; omega)
 have g2:¬ (mrL (mrE (.pair (.sl (.int .i64)) (.pair (.sl (.int .i64)) .bool))) v1 (mrL (mrE (.pair (.int .i64) (.pair (.int .i64) .bool))) v0 v2).2).2<0:=by omega
 try simp only [mrT] at c1 g1 c2 g2
 refine xl15.eq _ _ _ ?_
 simp only [xl15.t,mrT,c1,dec_f g1,c2,dec_f g2,Option.bind_some,cond_false]
end GoV

/- Small words of the program and of its specification. -/
namespace GoV
open Go
theorem xi1e_eq (x lo hi:Int):xi1e x lo hi=some (inB lo hi x):=by
 refine xi1e.eq x lo hi ?_
 simp only [xi1e.t,inB]
 by_cases h:lo≤x <;> simp [h]
theorem xs1s_eq (x lo hi:Int):xs1s x lo hi=some (inB lo hi x):=by
 refine xs1s.eq x lo hi ?_
 simp only [xs1s.t,inB]
 by_cases h:lo≤x <;> simp [h]
end GoV

/- Pictures: what is good, alike; a copy is what it copies. -/
namespace GoV
open Go
abbrev Prc:=Int × Int × Bool
abbrev Wir:=List Int × List Int × Bool
abbrev zP:Prc:=(0,0,false)
abbrev zW:Wir:=([],[],false)
def procB (p:Prc):Bool:=inB 0 2000000000 p.1 && (inB 0 2000000000 p.2.1 && (p.2.2 || p.2.1 == 0))
def wireB (P:List Prc) (k:Nat) (w:Wir):Bool :=
 decide (w.1.length ≤ 12) && (w.1.all (inB 0 1000000) && (decide (w.2.1.length ≤ 200) && (w.2.1.all (inB 1 1000000) &&
    (((P.getD (k % P.length) zP).2.2 || (!w.2.2 && decide (w.2.1.length=0))) && (!decide (k / P.length=k % P.length) || (decide (w.1.length=0) && (decide (w.2.1.length=0) && !w.2.2)))))))
def wiresB (P : List Prc) : Nat → List Wir → Bool
 | _,[] => true
 | k,w::r => wireB P k w && wiresB P (k+1) r
def totP : List Prc → Int
 | [] => 0
 | p::r => p.1+p.2.1+totP r
def sumI : List Int → Int
 | [] => 0
 | x::r => x+sumI r
def totW : List Wir → Int
 | [] => 0
 | w::r => sumI w.1+sumI w.2.1+totW r
/-- Not too much. -/
def leB (x:Int):Bool:=decide (x≤2000000000)
def goodB (P:List Prc) (W:List Wir):Bool :=
 decide (2≤P.length∧P.length≤4) && (decide (W.length=P.length * P.length) && (P.all procB && (wiresB P 0 W && leB (totP P+totW W))))
theorem sumI_bound : ∀ {l : List Int}, l.all (inB 0 1000000) = true → 0 ≤ sumI l ∧ sumI l ≤ l.length * 1000000
 | [],_ => by simp [sumI]
 | x::r,h => by
   simp only [List.all_cons,Bool.and_eq_true] at h
   have h1:=inB_iff.1 h.1
   have h2:=sumI_bound h.2
   simp only [sumI,List.length_cons]
   omega
theorem all_10 {l:List Int} (h:l.all (inB 1 1000000)=true):l.all (inB 0 1000000)=true:=by
 simp only [List.all_eq_true] at h ⊢
 intro x hx
 have:=inB_iff.1 (h x hx)
 exact inB_iff.2 ⟨by omega,by omega⟩
theorem wire_bounds {P:List Prc} {k:Nat} {w:Wir} (h:wireB P k w=true):w.1.length≤12∧w.1.all (inB 0 1000000)=true∧w.2.1.length≤200∧w.2.1.all (inB 1 1000000)=true:=by
 simp only [wireB,Bool.and_eq_true,decide_eq_true_eq] at h
 exact ⟨h.1,h.2.1,h.2.2.1,h.2.2.2.1⟩
/-! ## The program's -/
theorem xi0p_eq (x:Int):xi0p x=some (inB 1 1000000 x):=xi0p.eq x (by simp only [xi0p.t,xi1e_eq,Option.bind_some])
theorem impl_word_eq (x:Int):xi0i x=some (inB 0 1000000 x):=by
 refine xi0i.eq x ?_
 simp only [xi0i.t,xi0p_eq,Option.bind_some]
 by_cases h:x=0
 · subst h; rfl
 · have h1 : (x == 0) = false := by simpa using h
   rw [h1]
   simp only [cond_false]
   congr 1
   exact bool_eq (by rw [inB_iff,inB_iff]; omega)
theorem xi1r_eq {l:List Int} (hl:l.length≤1000) (h:l.all (inB 0 1000000)=true):xi1r l=some (sumI l):=by
 refine xi1r.eq l ?_
 simp only [xi1r.t]
 have key:∀ i,i≤l.length→∀ a:Int,0≤a→a≤i * 1000000→xi1r.l3 a l (l.length:Int) (i:Int)=some (a+sumI (l.drop i)):=by
  refine upto ?_ ?_
  · intro a _ _
    refine xi1r.eq3 _ _ _ _ ?_
    rw [List.drop_length]
    simp only [xi1r.t3,ix_lt,Nat.lt_irrefl,decide_false,cond_false,sumI,Int.add_zero]
  · intro i hi ih a ha hb
    have hx:=inB_iff.1 (List.all_eq_true.1 h _ (getD_mem 0 hi))
    refine xi1r.eq3 _ _ _ _ ?_
    simp only [xi1r.t3,ix_lt,ix_nn,ix_nat,dec_t hi,cond_true,wrap_succ (show i<9223372036854775807 by omega)]
    rw [wrap_id (by omega) (by omega),ih _ (by omega) (by omega),drop_getD 0 hi]
    simp only [sumI]
    congr 1
    omega
 have:=key 0 (Nat.zero_le _) 0 (by omega) (by omega)
 simpa using this
theorem impl_isWire_eq (P : List Prc) (k : Nat) (w : Wir) (hl : w.1.length ≤ 1073741824 ∧ w.2.1.length ≤ 1073741824) (t : Prc) (ht : t = P.getD (k % P.length) zP) :
 xi0t w.1 w.2.1 w.2.2 t.1 t.2.1 t.2.2=some (decide (w.1.length≤12) && (w.1.all (inB 0 1000000) && (decide (w.2.1.length≤200) && (w.2.1.all (inB 1 1000000) && ((P.getD (k % P.length) zP).2.2 || (!w.2.2 && decide (w.2.1.length=0))))))):=by
 subst ht
 refine xi0t.eq _ _ _ _ _ _ ?_
 simp only [xi0t.t,xi09_ok w.1 _ (by omega) (fun x _ => impl_word_eq x),xi0a_ok w.2.1 _ (by omega) (fun x _ => xi0p_eq x),Option.bind_some]
 have e1:decide ((w.1.length:Int)≤12)=decide (w.1.length≤12):=by by_cases h:w.1.length≤12 <;> simp [h] <;> omega
 have e2:decide ((w.2.1.length:Int)≤200)=decide (w.2.1.length≤200):=by by_cases h:w.2.1.length≤200 <;> simp [h] <;> omega
 have e3:((w.2.1.length:Int) == (0:Int))=decide (w.2.1.length=0):=by by_cases h:w.2.1.length=0 <;> simp [h]
 rw [e1,e2,e3]
 cases decide (w.1.length≤12) <;> cases w.1.all (inB 0 1000000) <;> cases decide (w.2.1.length≤200) <;> cases w.2.1.all (inB 1 1000000) <;> cases (P.getD (k % P.length) zP).2.2 <;> cases w.2.2 <;> rfl
theorem impl_isNone_eq (w:Wir):xi0s w.1 w.2.1 w.2.2=some (decide (w.1.length=0) && (decide (w.2.1.length=0) && !w.2.2)):=by
 refine xi0s.eq _ _ _ ?_
 have e1:((w.1.length:Int) == (0:Int))=decide (w.1.length=0):=by by_cases h:w.1.length=0 <;> simp [h]
 have e3:((w.2.1.length:Int) == (0:Int))=decide (w.2.1.length=0):=by by_cases h:w.2.1.length=0 <;> simp [h]
 simp only [xi0s.t,e1,e3]
 cases decide (w.1.length=0) <;> cases decide (w.2.1.length=0) <;> rfl
theorem tdiv_nat (a b:Nat):Int.tdiv (a:Int) (b:Int)=((a / b:Nat):Int):=by simp
theorem tmod_nat (a b:Nat):Int.tmod (a:Int) (b:Int)=((a % b:Nat):Int):=by
 rw [Int.tmod_eq_emod_of_nonneg (by omega)]
 exact (Int.natCast_emod a b).symm
section
variable {P:List Prc} {W:List Wir} (hp:2≤P.length∧P.length≤4) (hw:W.length=P.length * P.length) (hl:∀ w,w∈W→w.1.length≤1073741824∧w.2.1.length≤1073741824)
include hp hw hl
theorem W16:W.length≤16:=by
 rw [hw]
 exact Nat.mul_le_mul hp.2 hp.2
theorem impl_GoodSnap_l13:∀ i,i≤W.length→∀ a:Int,0≤a→a≤20000000000+i * 300000000→xi12.l13 P W (P.length:Int) a W (W.length:Int) (i:Int)=some (wiresB P i (W.drop i) && leB (a+totW (W.drop i))):=by
 have h16:=W16 hp hw hl
 refine upto ?_ ?_
 · intro a _ _
   refine xi12.eq13 _ _ _ _ _ _ _ ?_
   rw [List.drop_length]
   simp only [xi12.t13,ix_lt,Nat.lt_irrefl,decide_false,cond_false,wiresB,totW,Int.add_zero,Bool.true_and,leB]
 · intro i hi ih a ha hb
   have hne:((P.length:Nat):Int)≠0:=by omega
   have hm:i % P.length<P.length:=Nat.mod_lt _ (by omega)
   refine xi12.eq13 _ _ _ _ _ _ _ ?_
   simp only [xi12.t13,ix_lt,ix_nn,ix_nat,dec_t hi,cond_true,dec_t hne,tmod_nat,tdiv_nat,dec_t hm]
   rw [drop_getD zW hi]
   have hl1:=hl _ (getD_mem zW hi)
   generalize hx:W.getD i zW=w at hl1 ⊢
   rw [impl_isWire_eq P i w hl1 _ rfl]
   simp only [Option.bind_some]
   have hwr:IntKind.i64.wrap ((i / P.length:Nat):Int)=((i / P.length:Nat):Int):=by
    have hq:=Nat.div_le_self i P.length
    generalize i / P.length=q at hq ⊢
    exact wrap_id (by omega) (by omega)
   have heq:((((i / P.length:Nat):Int)) == ((i % P.length:Nat):Int))=decide (i / P.length=i % P.length):=by
    by_cases h:i / P.length=i % P.length
    · rw [h]; simp
    · rw [dec_f h]; simp only [beq_eq_false_iff_ne,ne_eq]; omega
   simp only [wiresB,wireB,totW]
   generalize hA:(decide (w.1.length≤12) && (w.1.all (inB 0 1000000) && (decide (w.2.1.length≤200) && (w.2.1.all (inB 1 1000000) && ((P.getD (i % P.length) zP).2.2 || (!w.2.2 && decide (w.2.1.length=0)))))))=A
   have hsplit:∀ x:Bool,(decide (w.1.length≤12) && (w.1.all (inB 0 1000000) && (decide (w.2.1.length≤200) && (w.2.1.all (inB 1 1000000) && (((P.getD (i % P.length) zP).2.2 || (!w.2.2 && decide (w.2.1.length=0))) && x)))))=(A && x):=by
    intro x; rw [← hA]; simp only [Bool.and_assoc]
   rw [hsplit]
   cases A with
   | false => simp
   | true =>
     have hA':=hA
     simp only [Bool.and_eq_true,decide_eq_true_eq] at hA'
     obtain ⟨k1,k2,k3,k4,_⟩:=hA'
     have k5:=sumI_bound k2
     have k6:=sumI_bound (all_10 k4)
     have cont:xi12.l13 P W (P.length:Int) (IntKind.i64.wrap (a+IntKind.i64.wrap (sumI w.1+sumI w.2.1))) W (W.length:Int) ((i+1:Nat):Int)=some (wiresB P (i+1) (W.drop (i+1)) && leB (a+(sumI w.1+sumI w.2.1+totW (W.drop (i+1))))):=by
        rw [wrap_id (x:=sumI w.1+sumI w.2.1) (by omega) (by omega),wrap_id (by omega) (by omega),ih _ (by omega) (by omega)]
        congr 3
        omega
     simp only [bang_t,cond_false,hwr,heq,impl_isNone_eq,xi1r_eq (show w.1.length≤1000 by omega) k2,xi1r_eq (show w.2.1.length≤1000 by omega) (all_10 k4),Option.bind_some,wrap_succ (show i<9223372036854775807 by omega),cont]
     cases decide (i / P.length=i % P.length) with
     | false =>
       simp only [cond_false,Bool.not_false,Bool.true_or,Bool.true_and]
     | true =>
       cases (decide (w.1.length=0) && (decide (w.2.1.length=0) && !w.2.2)) with
       | false => simp only [cond_true,Bool.not_true,Bool.not_false,Bool.false_or,Bool.true_and,Bool.false_and,bang_f]
       | true =>
         simp only [cond_true,cond_false,Bool.not_true,Bool.false_or,Bool.true_and,bang_t]
theorem impl_GoodSnap_l6:∀ i,i≤P.length→∀ a:Int,0≤a→a≤i * 4000000000→xi12.l6 P W (P.length:Int) a P (P.length:Int) (i:Int)=some ((P.drop i).all procB && (wiresB P 0 W && leB (a+totP (P.drop i)+totW W))):=by
 refine upto ?_ ?_
 · intro a ha hb
   refine xi12.eq6 _ _ _ _ _ _ _ ?_
   have:=impl_GoodSnap_l13 hp hw hl 0 (Nat.zero_le _) a ha (by omega)
   rw [List.drop_length]
   simp only [xi12.t6,ix_lt,Nat.lt_irrefl,decide_false,cond_false]
   simpa [totP] using this
 · intro i hi ih a ha hb
   refine xi12.eq6 _ _ _ _ _ _ _ ?_
   simp only [xi12.t6,ix_lt,ix_nn,ix_nat,dec_t hi,cond_true,xi1e_eq,Option.bind_some,wrap_succ (show i<9223372036854775807 by omega)]
   rw [drop_getD zP hi]
   generalize hx:P.getD i zP=p
   simp only [List.all_cons,procB,totP]
   cases h1:inB 0 2000000000 p.1 with
   | false => simp
   | true =>
     cases h2:inB 0 2000000000 p.2.1 with
     | false => simp
     | true =>
       have g1:=inB_iff.1 h1
       have g2:=inB_iff.1 h2
       have cont:xi12.l6 P W (P.length:Int) (IntKind.i64.wrap (a+IntKind.i64.wrap (p.1+p.2.1))) P (P.length:Int) ((i+1:Nat):Int)=some ((P.drop (i+1)).all procB && (wiresB P 0 W && leB (a+(p.1+p.2.1+totP (P.drop (i+1)))+totW W))):=by
         rw [wrap_id (x:=p.1+p.2.1) (by omega) (by omega),wrap_id (by omega) (by omega),ih _ (by omega) (by omega)]
         congr 4
         omega
       simp only [bang_t,cond_false,cont]
       cases p.2.2 with
       | true =>
         simp only [bang_t,cond_false,Bool.true_or,Bool.true_and]
       | false =>
         by_cases h3:p.2.1=0
         · have h4 : (p.2.1 != 0) = false := by simpa using h3
           have h5:(p.2.1 == 0)=true:=by simpa using h3
           simp only [bang_f,cond_true,h4,h5,cond_false,Bool.or_true,Bool.true_and]
         · have h4 : (p.2.1 != 0) = true := by simpa using h3
           have h5:(p.2.1 == 0)=false:=by simpa using h3
           simp only [bang_f,cond_true,h4,h5,Bool.or_false,Bool.and_false,Bool.false_and]
end
theorem sq_nat (n:Nat) (h:n≤4):IntKind.i64.wrap ((n:Int) * (n:Int))=((n * n:Nat):Int):=by
 have h1:n * n≤16:=Nat.mul_le_mul h h
 rw [wrap_id (by omega) (by rw [← Int.natCast_mul]; omega),Int.natCast_mul]
theorem inB24 (n:Nat):inB 2 4 (n:Int)=decide (2≤n∧n≤4):=by
 refine bool_eq ?_
 rw [inB_iff,decide_eq_true_eq]
 omega
theorem xi12_eq (P:List Prc) (W:List Wir) (hl:∀ w,w∈W→w.1.length≤1073741824∧w.2.1.length≤1073741824):xi12 P W=some (goodB P W):=by
 refine xi12.eq P W ?_
 simp only [xi12.t,xi1e_eq,Option.bind_some,inB24,goodB]
 by_cases hp:2≤P.length∧P.length≤4
 · rw [dec_t hp, sq_nat _ hp.2]
   by_cases hw:W.length=P.length * P.length
   · have h1 : ((W.length : Int) != ((P.length * P.length : Nat) : Int)) = false := by rw [hw]; simp
     have:=impl_GoodSnap_l6 hp hw hl 0 (Nat.zero_le _) 0 (by omega) (by omega)
     simp only [bang_t,cond_false,h1,dec_t hw,Bool.true_and]
     simpa using this
   · have h1 : ((W.length : Int) != ((P.length * P.length : Nat) : Int)) = true := by simp; omega
     simp only [bang_t,cond_false,h1,dec_f hw,cond_true,Bool.true_and,Bool.false_and]
 · rw [dec_f hp]
   simp only [bang_f,cond_true,Bool.false_and]
end GoV

/- Pictures: what the specification calls good; copies. -/
namespace GoV
open Go
theorem xs11_eq (x:Int):xs11 x=some (inB 0 1000000 x):=xs11.eq x (by simp only [xs11.t,xs1s_eq,Option.bind_some])
theorem len_gt (n m:Nat):decide ((n:Int) > (m:Int)) = !decide (n≤m):=by
 by_cases h:n≤m
 · rw [dec_t h,dec_f (by omega)]; rfl
 · rw [dec_f h,dec_t (by omega)]; rfl
def tailB (P:List Prc) (k:Nat) (w:Wir):Bool :=
 decide (w.1.length≤12) && (decide (w.2.1.length≤200) && ((!decide (k / P.length=k % P.length) || (decide (w.1.length=0) && (decide (w.2.1.length=0) && !w.2.2))) && ((P.getD (k % P.length) zP).2.2 || (!w.2.2 && decide (w.2.1.length=0)))))
theorem wireB_tail (P:List Prc) (k:Nat) (w:Wir):wireB P k w=(w.1.all (inB 0 1000000) && (w.2.1.all (inB 1 1000000) && tailB P k w)):=by
 unfold wireB tailB
 cases decide (w.1.length ≤ 12) <;> cases w.1.all (inB 0 1000000) <;> cases decide (w.2.1.length ≤ 200) <;> cases w.2.1.all (inB 1 1000000) <;>
  cases ((P.getD (k % P.length) zP).2.2 || (!w.2.2 && decide (w.2.1.length=0))) <;> cases (!decide (k / P.length=k % P.length) || (decide (w.1.length=0) && (decide (w.2.1.length=0) && !w.2.2))) <;> rfl
section
variable {P:List Prc} {W:List Wir} (hp:2≤P.length∧P.length≤4) (hw:W.length=P.length * P.length) (hl:∀ w,w∈W→w.1.length≤1073741824∧w.2.1.length≤1073741824)
include hp hw hl
theorem spec_tail {k : Nat} (hk : k < W.length) {w : Wir} (hx : W.getD k zW = w) {a : Int} {b : Bool} (h1 : tailB P k w = true → xs16.l13 P W (P.length : Int) a W (W.length : Int) ((k + 1 : Nat) : Int) = some b) (h2 : tailB P k w = false → b = false) :
 xs16.l23 P W (P.length:Int) a (k:Int) w.1 w.2.1 w.2.2 W (W.length:Int) (k:Int) w.2.1 (w.2.1.length:Int) (w.2.1.length:Int)=some b:=by
 have h16:=W16 hp hw hl
 have hne:((P.length:Nat):Int)≠0:=by omega
 have hm:k % P.length<P.length:=Nat.mod_lt _ (by omega)
 have hwr:IntKind.i64.wrap ((k / P.length:Nat):Int)=((k / P.length:Nat):Int):=by
  have hq:=Nat.div_le_self k P.length
  generalize k / P.length=q at hq ⊢
  exact wrap_id (by omega) (by omega)
 have heq:((((k / P.length:Nat):Int)) == ((k % P.length:Nat):Int))=decide (k / P.length=k % P.length):=by
  by_cases h:k / P.length=k % P.length
  · rw [h]; simp
  · rw [dec_f h]; simp only [beq_eq_false_iff_ne,ne_eq]; omega
 have g1:=len_gt w.1.length 12
 have g2:=len_gt w.2.1.length 200
 have g3:decide ((w.1.length:Int) > 0) = !decide (w.1.length=0):=by by_cases h:w.1.length=0 <;> simp [h]; omega
 have g4:decide ((w.2.1.length:Int) > 0) = !decide (w.2.1.length=0):=by by_cases h:w.2.1.length=0 <;> simp [h]; omega
 refine xs16.eq23 _ _ _ _ _ _ _ _ _ _ _ _ _ _ ?_
 simp only [xs16.t23,ix_lt,Nat.lt_irrefl,decide_false,cond_false,dec_t hne,cond_true,tmod_nat,tdiv_nat,hwr,heq,ix_nn,ix_nat,dec_t hm,wrap_succ (show k<9223372036854775807 by omega)]
 rw [show decide ((w.1.length:Int) > 12) = !decide (w.1.length≤12) from g1,show decide ((w.2.1.length:Int) > 200) = !decide (w.2.1.length≤200) from g2]
 simp only [g3,g4]
 unfold tailB at h1 h2
 revert h1 h2
 generalize xs16.l13 P W (P.length:Int) a W (W.length:Int) ((k+1:Nat):Int)=c
 cases decide (w.1.length ≤ 12) <;> cases decide (w.2.1.length ≤ 200) <;> cases decide (k / P.length = k % P.length) <;> cases decide (w.1.length = 0) <;> cases decide (w.2.1.length = 0) <;> cases w.2.2 <;> cases (P.getD (k % P.length) zP).2.2 <;>
  intro h1 h2 <;> first | exact h1 rfl | (rw [h2 rfl]; rfl)
theorem spec_recs {k : Nat} (hk : k < W.length) {w : Wir} (hx : W.getD k zW = w) : ∀ j, j ≤ w.2.1.length → ∀ (a : Int) (b : Bool), 0 ≤ a → a ≤ 4000000000000000000 + j * 1000000 →
 ((w.2.1.drop j).all (inB 1 1000000)=true→tailB P k w=true→xs16.l13 P W (P.length:Int) (a+sumI (w.2.1.drop j)) W (W.length:Int) ((k+1:Nat):Int)=some b)→(((w.2.1.drop j).all (inB 1 1000000) && tailB P k w)=false→b=false) →
 xs16.l23 P W (P.length:Int) a (k:Int) w.1 w.2.1 w.2.2 W (W.length:Int) (k:Int) w.2.1 (w.2.1.length:Int) (j:Int)=some b:=by
 have hl1:=hl w (by rw [← hx]; exact getD_mem zW hk)
 refine upto ?_ ?_
 · intro a b _ _ h1 h2
   rw [List.drop_length] at h1 h2
   refine spec_tail hp hw hl hk hx (fun h => ?_) fun h => h2 (by rw [h]; rfl)
   have:=h1 rfl h
   simpa [sumI] using this
 · intro j hj ih a b ha hb h1 h2
   rw [drop_getD 0 hj] at h1 h2
   simp only [List.all_cons,sumI] at h1 h2
   refine xs16.eq23 _ _ _ _ _ _ _ _ _ _ _ _ _ _ ?_
   simp only [xs16.t23,ix_lt,ix_nn,ix_nat,dec_t hj,cond_true,xs11_eq,Option.bind_some,wrap_succ (show j<9223372036854775807 by omega)]
   generalize w.2.1.getD j 0=x at h1 h2 ⊢
   by_cases h0:x=0
   · have : (x == 0) = true := by simpa using h0
     have h3:inB 1 1000000 x=false:=by rw [h0]; rfl
     rw [this,h2 (by rw [h3]; rfl)]
     rfl
   · have h3 : (x == 0) = false := by simpa using h0
     have h4:inB 1 1000000 x=inB 0 1000000 x:=bool_eq (by rw [inB_iff,inB_iff]; omega)
     rw [h4] at h1 h2
     cases h5:inB 0 1000000 x with
     | false => rw [h3,h2 (by rw [h5]; rfl)]; rfl
     | true =>
       have h6:=inB_iff.1 h5
       rw [h5,Bool.true_and] at h1 h2
       simp only [h3,cond_false,bang_t]
       rw [wrap_id (by omega) (by omega)]
       refine ih _ _ (by omega) (by omega) (fun g1 g2 => ?_) h2
       rw [show a+x+sumI (w.2.1.drop (j+1))=a+(x+sumI (w.2.1.drop (j+1))) by omega]
       exact h1 g1 g2
theorem spec_words {k : Nat} (hk : k < W.length) {w : Wir} (hx : W.getD k zW = w) : ∀ j, j ≤ w.1.length → ∀ (a : Int) (b : Bool), 0 ≤ a → a ≤ 2000000000000000000 + j * 1000000 →
 ((w.1.drop j).all (inB 0 1000000)=true→w.2.1.all (inB 1 1000000)=true→tailB P k w=true→xs16.l13 P W (P.length:Int) (a+(sumI (w.1.drop j)+sumI w.2.1)) W (W.length:Int) ((k+1:Nat):Int)=some b) →
 (((w.1.drop j).all (inB 0 1000000) && (w.2.1.all (inB 1 1000000) && tailB P k w))=false→b=false) →
 xs16.l16 P W (P.length:Int) a (k:Int) w.1 w.2.1 w.2.2 W (W.length:Int) (k:Int) w.1 (w.1.length:Int) (j:Int)=some b:=by
 have hl1:=hl w (by rw [← hx]; exact getD_mem zW hk)
 refine upto ?_ ?_
 · intro a b ha hb h1 h2
   rw [List.drop_length] at h1 h2
   refine xs16.eq16 _ _ _ _ _ _ _ _ _ _ _ _ _ _ ?_
   simp only [xs16.t16,ix_lt,Nat.lt_irrefl,decide_false,cond_false]
   refine spec_recs hp hw hl hk hx 0 (Nat.zero_le _) a b ha (by omega) (fun g1 g2 => ?_) fun g => h2 (by simpa using g)
   have:=h1 rfl (by simpa using g1) g2
   simpa [sumI] using this
 · intro j hj ih a b ha hb h1 h2
   rw [drop_getD 0 hj] at h1 h2
   simp only [List.all_cons,sumI] at h1 h2
   refine xs16.eq16 _ _ _ _ _ _ _ _ _ _ _ _ _ _ ?_
   simp only [xs16.t16,ix_lt,ix_nn,ix_nat,dec_t hj,cond_true,xs11_eq,Option.bind_some,wrap_succ (show j<9223372036854775807 by omega)]
   generalize w.1.getD j 0=x at h1 h2 ⊢
   cases h5:inB 0 1000000 x with
   | false => rw [h2 (by rw [h5]; rfl)]; rfl
   | true =>
     have h6:=inB_iff.1 h5
     rw [h5,Bool.true_and] at h1 h2
     simp only [cond_false,bang_t]
     rw [wrap_id (by omega) (by omega)]
     refine ih _ _ (by omega) (by omega) (fun g1 g2 g3 => ?_) h2
     rw [show a+x+(sumI (w.1.drop (j+1))+sumI w.2.1)=a+(x+sumI (w.1.drop (j+1))+sumI w.2.1) by omega]
     exact h1 g1 g2 g3
theorem spec_GoodSnap_l13:∀ i,i≤W.length→∀ a:Int,0≤a→a≤20000000000+i * 3000000000000000→xs16.l13 P W (P.length:Int) a W (W.length:Int) (i:Int)=some (wiresB P i (W.drop i) && leB (a+totW (W.drop i))):=by
 have h16:=W16 hp hw hl
 refine upto ?_ ?_
 · intro a _ _
   refine xs16.eq13 _ _ _ _ _ _ _ ?_
   rw [List.drop_length]
   simp only [xs16.t13,ix_lt,Nat.lt_irrefl,decide_false,cond_false,wiresB,totW,Int.add_zero,Bool.true_and,leB]
 · intro i hi ih a ha hb
   refine xs16.eq13 _ _ _ _ _ _ _ ?_
   simp only [xs16.t13,ix_lt,ix_nn,ix_nat,dec_t hi,cond_true]
   rw [drop_getD zW hi]
   have hl1:=hl _ (getD_mem zW hi)
   generalize hx:W.getD i zW=w at hl1 ⊢
   simp only [wiresB,totW,wireB_tail]
   refine spec_words hp hw hl hi hx 0 (Nat.zero_le _) a _ ha (by omega) (fun g1 g2 g3 => ?_) fun g => ?_
   · rw [List.drop_zero] at g1 ⊢
     have k1:=sumI_bound g1
     have k2:=sumI_bound (all_10 g2)
     rw [ih _ (by omega) (by omega),g1,g2,g3]
     simp only [Bool.true_and]
     congr 3
     omega
   · rw [List.drop_zero] at g
     rw [g]; rfl
theorem spec_GoodSnap_l6:∀ i,i≤P.length→∀ a:Int,0≤a→a≤i * 4000000000→xs16.l6 P W (P.length:Int) a P (P.length:Int) (i:Int)=some ((P.drop i).all procB && (wiresB P 0 W && leB (a+totP (P.drop i)+totW W))):=by
 refine upto ?_ ?_
 · intro a ha hb
   refine xs16.eq6 _ _ _ _ _ _ _ ?_
   have:=spec_GoodSnap_l13 hp hw hl 0 (Nat.zero_le _) a ha (by omega)
   rw [List.drop_length]
   simp only [xs16.t6,ix_lt,Nat.lt_irrefl,decide_false,cond_false]
   simpa [totP] using this
 · intro i hi ih a ha hb
   refine xs16.eq6 _ _ _ _ _ _ _ ?_
   simp only [xs16.t6,ix_lt,ix_nn,ix_nat,dec_t hi,cond_true,xs1s_eq,Option.bind_some,wrap_succ (show i<9223372036854775807 by omega)]
   rw [drop_getD zP hi]
   generalize hx:P.getD i zP=p
   simp only [List.all_cons,procB,totP]
   cases h1:inB 0 2000000000 p.1 with
   | false => simp
   | true =>
     cases h2:inB 0 2000000000 p.2.1 with
     | false => simp
     | true =>
       have g1:=inB_iff.1 h1
       have g2:=inB_iff.1 h2
       have cont:xs16.l6 P W (P.length:Int) (IntKind.i64.wrap (a+IntKind.i64.wrap (p.1+p.2.1))) P (P.length:Int) ((i+1:Nat):Int)=some ((P.drop (i+1)).all procB && (wiresB P 0 W && leB (a+(p.1+p.2.1+totP (P.drop (i+1)))+totW W))):=by
         rw [wrap_id (x:=p.1+p.2.1) (by omega) (by omega),wrap_id (by omega) (by omega),ih _ (by omega) (by omega)]
         congr 4
         omega
       simp only [bang_t,cond_false,cont]
       cases p.2.2 with
       | true =>
         simp only [bang_t,cond_false,Bool.true_or,Bool.true_and]
       | false =>
         by_cases h3:p.2.1=0
         · have h4 : (p.2.1 != 0) = false := by simpa using h3
           have h5:(p.2.1 == 0)=true:=by simpa using h3
           simp only [bang_f,cond_true,h4,h5,cond_false,Bool.or_true,Bool.true_and]
         · have h4 : (p.2.1 != 0) = true := by simpa using h3
           have h5:(p.2.1 == 0)=false:=by simpa using h3
           simp only [bang_f,cond_true,h4,h5,Bool.or_false,Bool.and_false,Bool.false_and]
end
theorem xs16_eq (P:List Prc) (W:List Wir) (hl:∀ w,w∈W→w.1.length≤1073741824∧w.2.1.length≤1073741824):xs16 P W=some (goodB P W):=by
 refine xs16.eq P W ?_
 simp only [xs16.t,xs1s_eq,Option.bind_some,inB24,goodB]
 by_cases hp:2≤P.length∧P.length≤4
 · rw [dec_t hp, sq_nat _ hp.2]
   by_cases hw:W.length=P.length * P.length
   · have h1 : ((W.length : Int) != ((P.length * P.length : Nat) : Int)) = false := by rw [hw]; simp
     have:=spec_GoodSnap_l6 hp hw hl 0 (Nat.zero_le _) 0 (by omega) (by omega)
     simp only [bang_t,cond_false,h1,dec_t hw,Bool.true_and]
     simpa using this
   · have h1 : ((W.length : Int) != ((P.length * P.length : Nat) : Int)) = true := by simp; omega
     simp only [bang_t,cond_false,h1,dec_f hw,cond_true,Bool.true_and,Bool.false_and]
 · rw [dec_f hp]
   simp only [bang_f,cond_true,Bool.false_and]
/-! ## Copies -/
theorem xs1q_eq (P:List Prc) (W:List Wir) (hP:P.length≤1073741824) (hW:W.length≤1073741824) (hl:∀ w,w∈W→w.1.length≤1073741824∧w.2.1.length≤1073741824):xs1q P W=some (P,W):=by
 refine xs1q.eq P W ?_
 have h0:([]:List Int).length+P.length≤4294967296:=by simp; omega
 simp only [xs1q.t,dec_t h0,cond_true,List.nil_append]
 have key:∀ i,i≤W.length→∀ acc:List Wir,acc.length=i→xs1q.l3 [] [] P acc W (W.length:Int) (i:Int)=some (P,acc ++ W.drop i):=by
  refine upto ?_ ?_
  · intro acc _
    refine xs1q.eq3 _ _ _ _ _ _ _ ?_
    rw [List.drop_length]
    simp only [xs1q.t3,ix_lt,Nat.lt_irrefl,decide_false,cond_false,List.append_nil]
  · intro i hi ih acc hacc
    have hl1:=hl _ (getD_mem zW hi)
    have h1:([]:List Int).length+(W.getD i zW).1.length≤4294967296:=by simp only [List.length_nil,Nat.zero_add]; omega
    have h2:([]:List Int).length+(W.getD i zW).2.1.length≤4294967296:=by simp only [List.length_nil,Nat.zero_add]; omega
    have h3:acc.length+[((W.getD i zW).1,(W.getD i zW).2.1,(W.getD i zW).2.2)].length≤4294967296:=by simp only [List.length_cons,List.length_nil]; omega
    refine xs1q.eq3 _ _ _ _ _ _ _ ?_
    simp only [xs1q.t3,ix_lt,ix_nn,ix_nat,dec_t hi,cond_true,dec_t h1,dec_t h2,dec_t h3,wrap_succ (show i<9223372036854775807 by omega),List.nil_append]
    rw [ih _ (by simp [hacc]),drop_getD zW hi,List.append_assoc]
    rfl
 have:=key 0 (Nat.zero_le _) [] rfl
 simpa using this
theorem clone_procs (l:List Prc) (h:l.length≤1073741824):xs0b l=some l:=by
 refine xs0b.eq l ?_
 have h1:l.length≤4294967296:=by omega
 simp only [xs0b.t,dec_t h1,cond_true]
theorem clone_ints (l:List Int) (h:l.length≤1073741824):xs0d l=some l:=by
 refine xs0d.eq l ?_
 have h1:l.length≤4294967296:=by omega
 simp only [xs0d.t,dec_t h1,cond_true]
theorem xi13_eq (P:List Prc) (W:List Wir) (hP:P.length≤1073741824) (hW:W.length≤1073741824) (hl:∀ w,w∈W→w.1.length≤1073741824∧w.2.1.length≤1073741824):xi13 P W=some (P,W):=by
 refine xi13.eq P W ?_
 simp only [xi13.t,clone_procs P hP,Option.bind_some]
 have key:∀ i,i≤W.length→∀ acc:List Wir,acc.length=i→xi13.l3 [] [] P acc W (W.length:Int) (i:Int)=some (P,acc ++ W.drop i):=by
  refine upto ?_ ?_
  · intro acc _
    refine xi13.eq3 _ _ _ _ _ _ _ ?_
    rw [List.drop_length]
    simp only [xi13.t3,ix_lt,Nat.lt_irrefl,decide_false,cond_false,List.append_nil]
  · intro i hi ih acc hacc
    have hl1:=hl _ (getD_mem zW hi)
    have h3:acc.length+[((W.getD i zW).1,(W.getD i zW).2.1,(W.getD i zW).2.2)].length≤4294967296:=by simp only [List.length_cons,List.length_nil]; omega
    refine xi13.eq3 _ _ _ _ _ _ _ ?_
    simp only [xi13.t3,ix_lt,ix_nn,ix_nat,dec_t hi,cond_true,clone_ints _ hl1.1,clone_ints _ hl1.2,Option.bind_some,dec_t h3,wrap_succ (show i<9223372036854775807 by omega)]
    rw [ih _ (by simp [hacc]),drop_getD zW hi,List.append_assoc]
    rfl
 have:=key 0 (Nat.zero_le _) [] rfl
 simpa using this
end GoV

/- Pictures: a step, alike. -/
namespace GoV
open Go
/-- What lies on the way is not too long. -/
def SnI (P:List Prc) (W:List Wir):Prop:=(2≤P.length∧P.length≤4)∧W.length=P.length * P.length∧∀ w,w∈W→w.1.length≤12∧w.2.1.length≤200∧∀ x,x∈w.1→0≤x
theorem wires_inv {P : List Prc} : ∀ {W : List Wir} {k : Nat}, wiresB P k W = true → ∀ w, w ∈ W → w.1.length ≤ 12 ∧ w.2.1.length ≤ 200 ∧ ∀ x, x ∈ w.1 → 0 ≤ x
 | [],_,_,w,hw => by simp at hw
 | v::W,k,h,w,hw => by
   simp only [wiresB,Bool.and_eq_true] at h
   rcases List.mem_cons.1 hw with rfl | hw
   · obtain ⟨h1, h2, h3, _⟩ := wire_bounds h.1
     exact ⟨h1,h3,fun x hx => (inB_iff.1 (List.all_eq_true.1 h2 x hx)).1⟩
   · exact wires_inv h.2 w hw
theorem good_inv {P:List Prc} {W:List Wir} (h:goodB P W=true):SnI P W:=by
 simp only [goodB,Bool.and_eq_true,decide_eq_true_eq] at h
 exact ⟨h.1,h.2.1,wires_inv h.2.2.2.1⟩
def setOpen (W:List Wir) (k:Nat) (b:Bool):List Wir:=W.set k ((W.getD k zW).1,(W.getD k zW).2.1,b)
def addWord (W:List Wir) (k:Nat) (x:Int):List Wir:=W.set k ((W.getD k zW).1 ++ [x],(W.getD k zW).2)
def saveF (n who : Nat) (shut : Int) : List Nat → List Wir → Bool × List Wir
 | [],W => (true,W)
 | o :: r, W => if o = who then saveF n who shut r W else
   let W1:=setOpen W (o * n+who) ((o:Int) != shut)
   if (W1.getD (who * n+o) zW).1.length=12 then (false,W1) else saveF n who shut r (addWord W1 (who * n+o) 0)
def doneAt (P:List Prc) (i:Nat):List Prc:=P.set i ((P.getD i zP).1,(P.getD i zP).1,true)
def saveR (P:List Prc) (W:List Wir) (who:Nat) (shut:Int):Bool × List Wir:=saveF P.length who shut (List.range P.length) W
theorem len12 {n:Nat} (h:n≠12):((n:Int) == 12)=false:=by
 simp only [beq_eq_false_iff_ne,ne_eq]; omega
theorem getD_set_self {α:Type} {l:List α} {i:Nat} {x z:α} (h:i<l.length):(l.set i x).getD i z=x:=by
 simp [List.getD_eq_getElem?_getD,h]
theorem idx_nat {n f t:Nat} (hn:n≤4) (hf:f<n) (ht:t<n):IntKind.i64.wrap (IntKind.i64.wrap ((f:Int) * (n:Int))+(t:Int))=((f * n+t:Nat):Int):=by
 have h1:f * n≤4 * 4:=Nat.mul_le_mul (by omega) hn
 rw [← Int.natCast_mul,wrap_id (x:=((f * n:Nat):Int)) (by omega) (by omega),wrap_id (by omega) (by omega)]
 omega
theorem idx_lt {n f t:Nat} (hf:f<n) (ht:t<n):f * n+t<n * n:=by
 have h1:(f+1) * n≤n * n:=Nat.mul_le_mul_right n hf
 have h2:(f+1) * n=f * n+n:=Nat.succ_mul f n
 omega
theorem SnI.setOpen {P:List Prc} {W:List Wir} (h:SnI P W) {k:Nat} (hk:k<W.length) (b:Bool):SnI P (GoV.setOpen W k b):=by
 refine ⟨h.1,by simp [GoV.setOpen,h.2.1],fun w hw => ?_⟩
 rcases List.mem_or_eq_of_mem_set hw with hw | rfl
 · exact h.2.2 w hw
 · have h1 := h.2.2 _ (getD_mem zW hk)
   exact h1
theorem SnI.addWord {P:List Prc} {W:List Wir} (h:SnI P W) {k:Nat} (hk:k<W.length) {x:Int} (hx:0≤x) (hl:(W.getD k zW).1.length≠12):SnI P (GoV.addWord W k x):=by
 have h1:=h.2.2 _ (getD_mem zW hk)
 refine ⟨h.1,by simp [GoV.addWord,h.2.1],fun w hw => ?_⟩
 rcases List.mem_or_eq_of_mem_set hw with hw | rfl
 · exact h.2.2 w hw
 · refine ⟨by simp only [List.length_append, List.length_singleton]; omega, h1.2.1, fun y hy => ?_⟩
   rcases List.mem_append.1 hy with hy | hy
   · exact h1.2.2 y hy
   · rw [List.mem_singleton.1 hy]; exact hx
section
variable {P:List Prc} {i:Nat} (hi:i<P.length)
include hi
theorem impl_save_l4 (thr : Int) : ∀ o, o ≤ P.length → ∀ W : List Wir, SnI P W → xi0e.l4 P W (i : Int) thr (P.length : Int) (o : Int) =
 some ((saveF P.length i thr ((List.range P.length).drop o) W).1,P,(saveF P.length i thr ((List.range P.length).drop o) W).2):=by
 refine upto ?_ ?_
 · intro W _
   refine xi0e.eq4 _ _ _ _ _ _ ?_
   rw [List.drop_eq_nil_of_le (by simp)]
   simp only [xi0e.t4,ix_lt,Nat.lt_irrefl,decide_false,cond_false,saveF]
 · intro o ho ih W hI
   have hn:=hI.1
   have hdrop:(List.range P.length).drop o=o::(List.range P.length).drop (o+1):=by
    rw [drop_getD 0 (by simpa using ho)]
    congr 1
    simp [List.getD_eq_getElem?_getD,ho]
   rw [hdrop]
   refine xi0e.eq4 _ _ _ _ _ _ ?_
   have k1:o * P.length+i<W.length:=by rw [hI.2.1]; exact idx_lt ho hi
   have k2:i * P.length+o<W.length:=by rw [hI.2.1]; exact idx_lt hi ho
   simp only [xi0e.t4,ix_lt,dec_t ho,cond_true,wrap_succ (show o<9223372036854775807 by omega),idx_nat hn.2 ho hi,idx_nat hn.2 hi ho,ix_nn,ix_nat,dec_t k1,List.length_set,dec_t k2]
   by_cases e:o=i
   · have : ((o : Int) == (i : Int)) = true := by simp [e]
     rw [this]
     simp only [cond_true,saveF,if_pos e]
     exact ih W hI
   · have : ((o : Int) == (i : Int)) = false := by simp; omega
     rw [this]
     simp only [cond_false,saveF,if_neg e]
     have hI1:=hI.setOpen k1 ((o:Int) != thr)
     have k3:i * P.length+o<(setOpen W (o * P.length+i) ((o:Int) != thr)).length:=by simpa [setOpen] using k2
     have hS:W.set (o * P.length+i) ((W.getD (o * P.length+i) zW).1,(W.getD (o * P.length+i) zW).2.1,(o:Int) != thr)=setOpen W (o * P.length+i) ((o:Int) != thr):=rfl
     simp only [hS]
     by_cases h12:((setOpen W (o * P.length+i) ((o:Int) != thr)).getD (i * P.length+o) zW).1.length=12
     · have h13 : ((((setOpen W (o * P.length + i) ((o : Int) != thr)).getD (i * P.length + o) zW).1.length : Int) == 12) = true := by rw [h12]; rfl
       simp only [if_pos h12,h13,cond_true]
     · have h13 : ((((setOpen W (o * P.length + i) ((o : Int) != thr)).getD (i * P.length + o) zW).1.length : Int) == 12) = false := len12 h12
       have hle:=(hI1.2.2 _ (getD_mem zW k3)).1
       have h14:((setOpen W (o * P.length+i) ((o:Int) != thr)).getD (i * P.length+o) zW).1.length+[(0:Int)].length≤4294967296:=by simp only [List.length_singleton]; omega
       simp only [if_neg h12,h13,cond_false,dec_t h14,cond_true,decide_true]
       exact ih _ (hI1.addWord k3 (Int.le_refl 0) h12)
theorem impl_save_eq {W:List Wir} (hI:SnI P W) (thr:Int):xi0e P W (i:Int) thr=some ((saveR P W i thr).1,doneAt P i,(saveR P W i thr).2):=by
 refine xi0e.eq _ _ _ _ ?_
 have e1:(P.set i ((P.getD i zP).1,(P.getD i zP).1,(P.getD i zP).2.2)).getD i zP=((P.getD i zP).1,(P.getD i zP).1,(P.getD i zP).2.2):=getD_set_self hi
 have hd:i<(doneAt P i).length:=by simpa [doneAt] using hi
 have hI':SnI (doneAt P i) W:=by simpa [SnI,doneAt] using hI
 have:=impl_save_l4 hd thr 0 (Nat.zero_le _) W hI'
 have hlen:(doneAt P i).length=P.length:=by simp [doneAt]
 simp only [xi0e.t,ix_nn,ix_nat,dec_t hi,List.length_set,cond_true,e1,List.set_set]
 rw [List.drop_zero,hlen] at this
 exact this
end
/-- Whom the marker came from is no matter at a start. -/
theorem saveF_start {n who : Nat} : ∀ {l : List Nat} {W : List Wir}, saveF n who (-1) l W = saveF n who (who : Int) l W
 | [],W => rfl
 | o::l,W => by
   simp only [saveF]
   by_cases e:o=who
   · rw [if_pos e,if_pos e]; exact saveF_start
   · have h1 : ((o : Int) != -1) = true := by simp only [bne_iff_ne, ne_eq]; omega
     have h2:((o:Int) != (who:Int))=true:=by simp only [bne_iff_ne,ne_eq]; omega
     rw [if_neg e,if_neg e,h1,h2,saveF_start]
end GoV

/- Pictures: a step of the program's. -/
namespace GoV
open Go
/-- A word is taken. -/
def takeR (P:List Prc) (W:List Wir) (f t:Nat):Bool × List Prc × List Wir :=
 let k:=f * P.length+t
 let w:=W.getD k zW
 if w.1.length=0∨200≤w.2.1.length then (false,P,W) else
 if w.1.getD 0 0 = 0 then
    if (P.getD t zP).2.2=true then (true,P,W.set k (w.1.drop 1,w.2.1,false))
    else ((saveR P (W.set k (w.1.drop 1,w.2)) t f).1,doneAt P t,(saveR P (W.set k (w.1.drop 1,w.2)) t f).2)
 else (true, P.set t (IntKind.i64.wrap ((P.getD t zP).1 + w.1.getD 0 0), (P.getD t zP).2),
    if w.2.2=true then W.set k (w.1.drop 1,w.2.1 ++ [w.1.getD 0 0],w.2.2) else W.set k (w.1.drop 1,w.2))
/-- A word is sent. -/
def sendR (P:List Prc) (W:List Wir) (f t:Nat) (by_:Int):Bool × List Prc × List Wir :=
 let k:=f * P.length+t
 if (inB 1 (P.getD f zP).1 by_ && inB 0 1000000 by_) = true ∧ (W.getD k zW).1.length ≠ 12 then
    (true,P.set f (IntKind.i64.wrap ((P.getD f zP).1 - by_),(P.getD f zP).2),addWord W k by_)
 else (false,P,W)
def stepR (P:List Prc) (W:List Wir) (kind f t by_:Int):Bool × List Prc × List Wir :=
 if ¬(0≤f∧f<P.length) then (false,P,W) else
 if kind=3 then (if (P.getD f.toNat zP).2.2=true then (false,P,W) else ((saveR P W f.toNat f).1,doneAt P f.toNat,(saveR P W f.toNat f).2)) else
 if ¬(0≤t∧t<P.length) then (false,P,W) else
 if f=t then (false,P,W) else
 if kind=1 then sendR P W f.toNat t.toNat by_ else
 if kind=2 then takeR P W f.toNat t.toNat else (false,P,W)
theorem toNat1:(1:Int).toNat=1:=rfl
theorem inB_min (b a:Int):inB 1 (if (1000000:Int)<a then 1000000 else a) b=(inB 1 a b && inB 0 1000000 b):=by
 refine bool_eq ?_
 rw [Bool.and_eq_true,inB_iff,inB_iff,inB_iff]
 split <;> omega
theorem SnI.dropW {P:List Prc} {W:List Wir} (h:SnI P W) {k:Nat} (hk:k<W.length):SnI P (W.set k ((W.getD k zW).1.drop 1,(W.getD k zW).2)):=by
 have h1:=h.2.2 _ (getD_mem zW hk)
 refine ⟨h.1,by simp [h.2.1],fun w hw => ?_⟩
 rcases List.mem_or_eq_of_mem_set hw with hw | rfl
 · exact h.2.2 w hw
 · refine ⟨by simp only [List.length_drop]; omega,h1.2.1,fun y hy => h1.2.2 y (List.mem_of_mem_drop hy)⟩
section
variable {P:List Prc} {W:List Wir} (hI:SnI P W) {f t:Nat} (hf:f<P.length) (ht:t<P.length)
include hI hf ht
theorem impl_send_eq (kind by_:Int):xi0f P W kind (f:Int) (t:Int) by_=some (sendR P W f t by_):=by
 have hn:=hI.1
 have hk:f * P.length+t<W.length:=by rw [hI.2.1]; exact idx_lt hf ht
 refine xi0f.eq _ _ _ _ _ _ ?_
 simp only [xi0f.t,idx_nat hn.2 hf ht,ix_nn,ix_nat,dec_t hk,dec_t hf,cond_true,if_true,xi1e_eq,Option.bind_some,inB_min,sendR]
 cases (inB 1 (P.getD f zP).1 by_ && inB 0 1000000 by_) with
 | false => simp only [Bool.not_false,cond_true,Bool.false_eq_true,false_and,if_false]
 | true =>
   by_cases h12:(W.getD (f * P.length+t) zW).1.length=12
   · have h13 : (((W.getD (f * P.length + t) zW).1.length : Int) == 12) = true := by rw [h12]; rfl
     simp only [Bool.not_true,cond_false,h13,cond_true]
     rw [if_neg (fun h => h.2 h12)]
   · have h13 : (((W.getD (f * P.length + t) zW).1.length : Int) == 12) = false := len12 h12
     have hle:=(hI.2.2 _ (getD_mem zW hk)).1
     have h14:(W.getD (f * P.length+t) zW).1.length+[by_].length≤4294967296:=by simp only [List.length_singleton]; omega
     simp only [Bool.not_true,cond_false,h13,dec_t h14,cond_true,decide_true,addWord,h12,ne_eq,not_false_eq_true,and_self,if_true]
theorem impl_take_eq:xi0h P W (f:Int) (t:Int)=some (takeR P W f t):=by
 have hn:=hI.1
 have hk:f * P.length+t<W.length:=by rw [hI.2.1]; exact idx_lt hf ht
 have hI1:=hI.dropW hk
 refine xi0h.eq _ _ _ _ ?_
 have hg:∀ x:Wir,(W.set (f * P.length+t) x).getD (f * P.length+t) zW=x:=fun x => getD_set_self hk
 have hb:=hI.2.2 _ (getD_mem zW hk)
 simp only [xi0h.t,idx_nat hn.2 hf ht,ix_nn,ix_nat,dec_t hk,dec_t ht,cond_true,takeR,List.length_set,hg,List.set_set,Option.getD_some,decide_true,impl_save_eq ht hI1,Option.bind_some]
 generalize hw:W.getD (f * P.length+t) zW=w at hb ⊢
 by_cases h0:w.1.length=0
 · have h1 : ((w.1.length : Int) == 0) = true := by rw [h0]; rfl
   simp only [h1,cond_true]
   rw [if_pos (Or.inl h0)]
 · have h1 : ((w.1.length : Int) == 0) = false := by simp only [beq_eq_false_iff_ne, ne_eq]; omega
   by_cases h2:200≤w.2.1.length
   · have h3 : decide ((w.2.1.length : Int) ≥ 200) = true := dec_t (by omega)
     simp only [h1,h3,cond_true,cond_false]
     rw [if_pos (Or.inr h2)]
   · have h3 : decide ((w.2.1.length : Int) ≥ 200) = false := dec_f (by omega)
     have h4:0<w.1.length:=by omega
     have h5:(1:Int)≤(w.1.length:Int):=by omega
     have h6:w.2.1.length+[w.1.getD (0:Nat) (0:Int)].length≤4294967296:=by simp only [List.length_singleton]; omega
     simp only [h1,h3,cond_false,Int.toNat_zero,dec_t h4,dec_t h5,dec_t h6,cond_true]
     rw [if_neg (by omega)]
     by_cases h7:w.1.getD 0 0=0
     · have h8 : (w.1.getD 0 0 != 0) = false := by simpa using h7
       rw [h8,if_pos h7,cond_false]
       cases hd:(P.getD t zP).2.2 with
       | false =>
         rw [if_neg (by simp)]
         have e:=impl_save_eq ht (W:=W.set (f * P.length+t) (w.1.drop 1,w.2)) (by rw [← hw]; exact hI1) (f:Int)
         simp only [toNat1,e,Option.bind_some,Bool.not_false,cond_true]
       | true => rw [if_pos rfl]; rfl
     · have h8 : (w.1.getD 0 0 != 0) = true := by simpa using h7
       rw [h8,if_neg h7,cond_true]
       cases w.2.2 with
       | false => rfl
       | true => rfl
end
theorem lt_of_in {f:Int} {n:Nat} (h:0≤f∧f<n):f.toNat<n:=by omega
theorem in_last (n:Nat) (hn:2≤n∧n≤4) (f:Int):inB 0 (IntKind.i64.wrap ((n:Int) - 1)) f=decide (0≤f∧f<n):=by
 rw [wrap_id (by omega) (by omega)]
 refine bool_eq ?_
 rw [inB_iff,decide_eq_true_eq]
 omega
theorem impl_step_eq {P:List Prc} {W:List Wir} (hI:SnI P W) (kind f t by_:Int):xi0g P W kind f t by_=some (stepR P W kind f t by_):=by
 have hn:=hI.1
 refine xi0g.eq _ _ _ _ _ _ ?_
 simp only [xi0g.t,xi1e_eq,Option.bind_some,in_last _ hn,stepR]
 by_cases hf:0≤f∧f<P.length
 · have hf' := lt_of_in hf
   have ef:((f.toNat:Nat):Int)=f:=by omega
   rw [dec_t hf,if_neg (fun h => h hf),Bool.not_true,cond_false]
   by_cases h3:kind=3
   · have h3' : (kind == 3) = true := by simpa using h3
     rw [h3',if_pos h3,cond_true,dec_t hf.1,cond_true,dec_t hf',cond_true,cond_true]
     cases hd:(P.getD f.toNat zP).2.2 with
     | true => rfl
     | false =>
       have e:=impl_save_eq hf' hI f
       rw [ef] at e
       simp only [e,Option.bind_some,Bool.not_false,cond_true]
       rfl
   · have h3' : (kind == 3) = false := by simpa using h3
     rw [h3',if_neg h3,cond_false]
     by_cases ht:0≤t∧t<P.length
     · have ht' := lt_of_in ht
       have et:((t.toNat:Nat):Int)=t:=by omega
       rw [dec_t ht,if_neg (fun h => h ht),Bool.not_true,cond_false]
       by_cases hft:f=t
       · have h4 : (t == f) = true := by simpa using hft.symm
         rw [h4,if_pos hft,cond_true]
       · have h4 : (t == f) = false := by simpa using fun h => hft h.symm
         rw [h4,if_neg hft,cond_false]
         have e1:=impl_send_eq hI hf' ht' kind by_
         have e2:=impl_take_eq hI hf' ht'
         rw [ef,et] at e1 e2
         rw [e1,e2]
         by_cases h1:kind=1
         · subst h1; rfl
         · have h1' : (kind == 1) = false := by simpa using h1
           rw [h1',if_neg h1,cond_false]
           by_cases h2:kind=2
           · subst h2; rfl
           · have h2' : (kind == 2) = false := by simpa using h2
             rw [h2',if_neg h2,cond_false]
     · rw [dec_f ht,if_pos ht,Bool.not_false,cond_true]
 · rw [dec_f hf,if_pos hf,Bool.not_false,cond_true]
end GoV

/- Pictures: a step of the specification's. -/
namespace GoV
open Go
section
variable {P:List Prc} {i:Nat} (hi:i<P.length)
include hi
theorem spec_save_l5 (thr : Int) (W0 : List Wir) (P0 : List Prc) : ∀ o, o ≤ P.length → ∀ W : List Wir, SnI P W → xs0u.l5 (i : Int) thr P W P0 W0 (P.length : Int) (o : Int) =
 some (P,(saveF P.length i thr ((List.range P.length).drop o) W).2,(saveF P.length i thr ((List.range P.length).drop o) W).1):=by
 refine upto ?_ ?_
 · intro W _
   refine xs0u.eq5 _ _ _ _ _ _ _ _ ?_
   rw [List.drop_eq_nil_of_le (by simp)]
   simp only [xs0u.t5,ix_lt,Nat.lt_irrefl,decide_false,cond_false,saveF]
 · intro o ho ih W hI
   have hn:=hI.1
   have hdrop:(List.range P.length).drop o=o::(List.range P.length).drop (o+1):=by
    rw [drop_getD 0 (by simpa using ho)]
    congr 1
    simp [List.getD_eq_getElem?_getD,ho]
   rw [hdrop]
   refine xs0u.eq5 _ _ _ _ _ _ _ _ ?_
   have k1:o * P.length+i<W.length:=by rw [hI.2.1]; exact idx_lt ho hi
   have k2:i * P.length+o<W.length:=by rw [hI.2.1]; exact idx_lt hi ho
   simp only [xs0u.t5,ix_lt,dec_t ho,cond_true,wrap_succ (show o<9223372036854775807 by omega),idx_nat hn.2 ho hi,idx_nat hn.2 hi ho,ix_nn,ix_nat,dec_t k1,List.length_set,dec_t k2]
   by_cases e:o=i
   · have : ((o : Int) == (i : Int)) = true := by simp [e]
     rw [this]
     simp only [cond_true,saveF,if_pos e]
     exact ih W hI
   · have : ((o : Int) == (i : Int)) = false := by simp; omega
     rw [this]
     simp only [cond_false,saveF,if_neg e]
     have hI1:=hI.setOpen k1 ((o:Int) != thr)
     have k3:i * P.length+o<(setOpen W (o * P.length+i) ((o:Int) != thr)).length:=by simpa [setOpen] using k2
     have hS:W.set (o * P.length+i) ((W.getD (o * P.length+i) zW).1,(W.getD (o * P.length+i) zW).2.1,(o:Int) != thr)=setOpen W (o * P.length+i) ((o:Int) != thr):=rfl
     simp only [hS]
     by_cases h12:((setOpen W (o * P.length+i) ((o:Int) != thr)).getD (i * P.length+o) zW).1.length=12
     · have h13 : ((((setOpen W (o * P.length + i) ((o : Int) != thr)).getD (i * P.length + o) zW).1.length : Int) == 12) = true := by rw [h12]; rfl
       simp only [if_pos h12,h13,cond_true]
     · have h13 : ((((setOpen W (o * P.length + i) ((o : Int) != thr)).getD (i * P.length + o) zW).1.length : Int) == 12) = false := len12 h12
       have hle:=(hI1.2.2 _ (getD_mem zW k3)).1
       have h14:((setOpen W (o * P.length+i) ((o:Int) != thr)).getD (i * P.length+o) zW).1.length+[(0:Int)].length≤4294967296:=by simp only [List.length_singleton]; omega
       simp only [if_neg h12,h13,cond_false,dec_t h14,cond_true,decide_true]
       exact ih _ (hI1.addWord k3 (Int.le_refl 0) h12)
theorem spec_save_eq {W:List Wir} (hI:SnI P W) (thr:Int):xs0u P W (i:Int) thr=some (doneAt P i,(saveR P W i thr).2,(saveR P W i thr).1):=by
 refine xs0u.eq _ _ _ _ ?_
 have e1:(P.set i ((P.getD i zP).1,(P.getD i zP).1,(P.getD i zP).2.2)).getD i zP=((P.getD i zP).1,(P.getD i zP).1,(P.getD i zP).2.2):=getD_set_self hi
 have hd:i<(doneAt P i).length:=by simpa [doneAt] using hi
 have hI':SnI (doneAt P i) W:=by simpa [SnI,doneAt] using hI
 have:=spec_save_l5 hd thr [] [] 0 (Nat.zero_le _) W hI'
 have hlen:(doneAt P i).length=P.length:=by simp [doneAt]
 simp only [xs0u.t,ix_nn,ix_nat,dec_t hi,List.length_set,cond_true,e1,List.set_set]
 rw [List.drop_zero,hlen] at this
 exact this
end
theorem len200 {n:Nat} (h:n≤200):((n:Int) == 200)=decide (200≤n):=by
 by_cases h2:200≤n
 · rw [dec_t h2]; simp only [beq_iff_eq]; omega
 · rw [dec_f h2]; simp only [beq_eq_false_iff_ne,ne_eq]; omega
theorem spec_step_eq {P:List Prc} {W:List Wir} (hI:SnI P W) (kind f t by_:Int):xs0v P W kind f t by_=some ((stepR P W kind f t by_).2.1,(stepR P W kind f t by_).2.2,(stepR P W kind f t by_).1):=by
 have hn:=hI.1
 refine xs0v.eq _ _ _ _ _ _ ?_
 by_cases hf:0≤f∧f<P.length
 · obtain ⟨i, rfl⟩ := Int.eq_ofNat_of_zero_le hf.1
   have hi:i<P.length:=by omega
   have nf:¬¬(0≤(i:Int)∧(i:Int)<(P.length:Int)):=fun h => h hf
   have a1:decide ((i:Int)<0)=false:=dec_f (by omega)
   have a2:decide ((i:Int) ≥ (P.length:Int))=false:=dec_f (by omega)
   by_cases h3:kind=3
   · subst h3
     have e:=spec_save_eq hi hI (-1)
     have e0:saveR P W i (-1)=saveR P W i (i:Int):=by unfold saveR; exact saveF_start
     rw [e0] at e
     simp only [xs0v.t,a1,a2,cond_false,ix_nn,ix_nat,dec_t hi,cond_true,e,Option.bind_some,stepR,if_neg nf,if_true,beq_self_eq_true]
     cases hd:(P.getD i zP).2.2 with
     | true => rfl
     | false => rfl
   · have h3' : (kind == 3) = false := by simpa using h3
     by_cases ht:0≤t∧t<P.length
     · obtain ⟨j, rfl⟩ := Int.eq_ofNat_of_zero_le ht.1
       have hj:j<P.length:=by omega
       have nt:¬¬(0≤(j:Int)∧(j:Int)<(P.length:Int)):=fun h => h ht
       have b1:decide ((j:Int)<0)=false:=dec_f (by omega)
       have b2:decide ((j:Int) ≥ (P.length:Int))=false:=dec_f (by omega)
       by_cases hft:i=j
       · have h4 : ((i : Int) == (j : Int)) = true := by simp only [beq_iff_eq]; omega
         have h5:(i:Int)=(j:Int):=by omega
         simp only [xs0v.t,a1,a2,b1,b2,h3',h4,cond_false,cond_true,stepR,if_neg nf,if_neg h3,if_neg nt,if_pos h5]
       · have h4 : ((i : Int) == (j : Int)) = false := by simp only [beq_eq_false_iff_ne, ne_eq]; omega
         have h5:¬(i:Int)=(j:Int):=by omega
         have hk:i * P.length+j<W.length:=by rw [hI.2.1]; exact idx_lt hi hj
         have hI1:=hI.dropW hk
         have hg:∀ x:Wir,(W.set (i * P.length+j) x).getD (i * P.length+j) zW=x:=fun x => getD_set_self hk
         have hb:=hI.2.2 _ (getD_mem zW hk)
         simp only [xs0v.t,a1,a2,b1,b2,h3',h4,cond_false,idx_nat hn.2 hi hj,ix_nn,ix_nat,dec_t hi,dec_t hj,dec_t hk,cond_true,stepR,if_neg nf,if_neg h3,if_neg nt,if_neg h5,Int.toNat_natCast,List.length_set,hg,List.set_set,Option.getD_some,decide_true,List.nil_append,toNat1,xs1s_eq,xs11_eq,Option.bind_some]
         by_cases h1:kind=1
         · subst h1
           simp only [beq_self_eq_true,cond_true,if_true,sendR]
           cases c1:inB 1 (P.getD i zP).1 by_ with
           | false => simp
           | true =>
             cases c2:inB 0 1000000 by_ with
             | false => simp
             | true =>
               by_cases h12:(W.getD (i * P.length+j) zW).1.length=12
               · have h13 : (((W.getD (i * P.length + j) zW).1.length : Int) == 12) = true := by rw [h12]; rfl
                 rw [if_neg (fun h => h.2 h12)]
                 simp only [Bool.not_true,cond_false,h13,cond_true]
               · have h13 : (((W.getD (i * P.length + j) zW).1.length : Int) == 12) = false := len12 h12
                 have h14:(W.getD (i * P.length+j) zW).1.length+[by_].length≤4294967296:=by simp only [List.length_singleton]; omega
                 rw [if_pos ⟨rfl,h12⟩]
                 simp only [Bool.not_true,cond_false,h13,dec_t h14,cond_true,addWord]
         · have h1' : (kind == 1) = false := by simpa using h1
           rw [h1',if_neg h1,cond_false]
           by_cases h2:kind=2
           · subst h2
             have e:=spec_save_eq hj hI1 (i:Int)
             simp only [beq_self_eq_true,cond_true,if_true,takeR,e,Option.bind_some]
             generalize hw:W.getD (i * P.length+j) zW=w at hb ⊢
             by_cases h0:w.1.length=0
             · have c1 : ((w.1.length : Int) == 0) = true := by rw [h0]; rfl
               simp only [c1,cond_true]
               rw [if_pos (Or.inl h0)]
             · have c1 : ((w.1.length : Int) == 0) = false := by simp only [beq_eq_false_iff_ne, ne_eq]; omega
               rw [len200 hb.2.1]
               by_cases c2:200≤w.2.1.length
               · simp only [c1, dec_t c2, cond_true, cond_false]
                 rw [if_pos (Or.inr c2)]
               · have c4 : 0 < w.1.length := by omega
                 have c5:(1:Int)≤(w.1.length:Int):=by omega
                 have c6:w.2.1.length+[w.1.getD (0:Nat) (0:Int)].length≤4294967296:=by simp only [List.length_singleton]; omega
                 have c7:([]:List Int).length+(List.drop 1 w.1).length≤4294967296:=by simp only [List.length_nil,List.length_drop]; omega
                 have c8:=hb.2.2 _ (getD_mem 0 c4)
                 simp only [c1,dec_f c2,cond_false,Int.toNat_zero,dec_t c4,dec_t c5,dec_t c6,dec_t c7,cond_true]
                 rw [if_neg (by omega)]
                 by_cases c9:w.1.getD 0 0=0
                 · have d1 : decide (w.1.getD 0 0 > 0) = false := dec_f (by omega)
                   rw [d1,if_pos c9,cond_false]
                   cases hd:(P.getD j zP).2.2 with
                   | false => rfl
                   | true => rfl
                 · have d1 : decide (w.1.getD 0 0 > 0) = true := dec_t (by omega)
                   rw [d1,if_neg c9,cond_true]
                   cases w.2.2 with
                   | false => rfl
                   | true => rfl
           · have h2' : (kind == 2) = false := by simpa using h2
             rw [h2',if_neg h2,cond_false]
     · by_cases b1 : t < 0
       · simp only [xs0v.t,a1,a2,h3',dec_t b1,cond_false,cond_true,stepR,if_neg nf,if_neg h3,if_pos ht]
       · have b2 : t ≥ (P.length : Int) := by omega
         simp only [xs0v.t,a1,a2,h3',dec_f b1,dec_t b2,cond_false,cond_true,stepR,if_neg nf,if_neg h3,if_pos ht]
 · by_cases b1 : f < 0
   · simp only [xs0v.t,dec_t b1,cond_true,stepR,if_pos hf]
   · have b2 : f ≥ (P.length : Int) := by omega
     simp only [xs0v.t,dec_f b1,dec_t b2,cond_false,cond_true,stepR,if_pos hf]
end GoV

/- Pictures: what a step leaves is as it should be; good ones are small. -/
namespace GoV
open Go
theorem saveF_inv {P : List Prc} {i : Nat} (hi : i < P.length) (thr : Int) : ∀ (l : List Nat) (W : List Wir), (∀ o, o ∈ l → o < P.length) → SnI P W → SnI P (saveF P.length i thr l W).2
 | [],W,_,h => h
 | o::l,W,hl,h => by
   have ho:=hl o (List.mem_cons_self ..)
   have hl':∀ q,q∈l→q<P.length:=fun q hq => hl q (List.mem_cons_of_mem _ hq)
   have k1:o * P.length+i<W.length:=by rw [h.2.1]; exact idx_lt ho hi
   have h1:=h.setOpen k1 ((o:Int) != thr)
   have k2:i * P.length+o<(setOpen W (o * P.length+i) ((o:Int) != thr)).length:=by rw [h1.2.1]; exact idx_lt hi ho
   simp only [saveF]
   by_cases e:o=i
   · rw [if_pos e]; exact saveF_inv hi thr l W hl' h
   · rw [if_neg e]
     by_cases e2:((setOpen W (o * P.length+i) ((o:Int) != thr)).getD (i * P.length+o) zW).1.length=12
     · rw [if_pos e2]; exact h1
     · rw [if_neg e2]; exact saveF_inv hi thr l _ hl' (h1.addWord k2 (Int.le_refl 0) e2)
theorem saveR_inv {P:List Prc} {W:List Wir} (h:SnI P W) {i:Nat} (hi:i<P.length) (thr:Int):SnI (doneAt P i) (saveR P W i thr).2:=by
 have:=saveF_inv hi thr (List.range P.length) W (fun o ho => List.mem_range.1 ho) h
 simpa [SnI,doneAt,saveR] using this
theorem SnI.proc {P:List Prc} {W:List Wir} (h:SnI P W) (i:Nat) (p:Prc):SnI (P.set i p) W:=by simpa [SnI] using h
theorem SnI.wire {P:List Prc} {W:List Wir} (h:SnI P W) (k:Nat) {w:Wir} (hw:w.1.length≤12∧w.2.1.length≤200∧∀ x,x∈w.1→0≤x):SnI P (W.set k w):=by
 refine ⟨h.1,by simp [h.2.1],fun v hv => ?_⟩
 rcases List.mem_or_eq_of_mem_set hv with hv | rfl
 · exact h.2.2 v hv
 · exact hw
theorem step_inv {P:List Prc} {W:List Wir} (h:SnI P W) (kind f t by_:Int):SnI (stepR P W kind f t by_).2.1 (stepR P W kind f t by_).2.2:=by
 unfold stepR
 split
 · exact h
 rename_i hf
 have hf:0≤f∧f<P.length:=Decidable.not_not.1 hf
 have hf':=lt_of_in hf
 split
 · split
   · exact h
   · exact saveR_inv h hf' f
 split
 · exact h
 rename_i ht
 have ht:0≤t∧t<P.length:=Decidable.not_not.1 ht
 have ht':=lt_of_in ht
 have hk:f.toNat * P.length+t.toNat<W.length:=by rw [h.2.1]; exact idx_lt hf' ht'
 split
 · exact h
 split
 · unfold sendR
   simp only
   split
   · rename_i h1
     have h2:=inB_iff.1 (Bool.and_eq_true_iff.1 h1.1).2
     exact (h.addWord hk h2.1 h1.2).proc _ _
   · exact h
 split
 · unfold takeR
   have hb:=h.2.2 _ (getD_mem zW hk)
   have hd:∀ y,y∈(W.getD (f.toNat * P.length+t.toNat) zW).1.drop 1→0≤y:=fun y hy => hb.2.2 y (List.mem_of_mem_drop hy)
   have hl:((W.getD (f.toNat * P.length+t.toNat) zW).1.drop 1).length≤12:=by simp only [List.length_drop]; omega
   simp only
   split
   · exact h
   rename_i h1
   split
   · split
     · exact h.wire _ ⟨hl,hb.2.1,hd⟩
     · exact saveR_inv (h.dropW hk) ht' _
   · refine SnI.proc ?_ _ _
     split
     · refine h.wire _ ⟨hl, ?_, hd⟩
       simp only [List.length_append,List.length_singleton]; omega
     · exact h.wire _ ⟨hl,hb.2.1,hd⟩
 · exact h
theorem SnI.hl {P:List Prc} {W:List Wir} (h:SnI P W):∀ w,w∈W→w.1.length≤1073741824∧w.2.1.length≤1073741824:=fun w hw => by have:=h.2.2 w hw; omega
theorem SnI.w16 {P:List Prc} {W:List Wir} (h:SnI P W):W.length≤16:=by
 rw [h.2.1]
 exact Nat.mul_le_mul h.1.2 h.1.2
abbrev TSn:Ty:=.pair (.sl (.pair (.int .i64) (.pair (.int .i64) .bool))) (.sl (.pair (.sl (.int .i64)) (.pair (.sl (.int .i64)) .bool)))
theorem SnI.size {P:List Prc} {W:List Wir} (h:SnI P W):szT TSn (P,W)≤1073741824:=by
 have h1:szT (.sl (.pair (.int .i64) (.pair (.int .i64) .bool))) P=P.length:=szT_sl_flat (t:=.pair (.int .i64) (.pair (.int .i64) .bool)) P rfl
 have h2:∀ (V:List Wir),(∀ w,w∈V→w.1.length≤12∧w.2.1.length≤200∧∀ x,x∈w.1→0≤x)→szT (.sl (.pair (.sl (.int .i64)) (.pair (.sl (.int .i64)) .bool))) V≤V.length * 1000:=by
  intro V
  induction V with
  | nil => intro _; simp [szT]
  | cons w V ih =>
    intro hV
    have h3:=ih fun v hv => hV v (List.mem_cons_of_mem _ hv)
    have h4:=hV w (List.mem_cons_self ..)
    have h5:szT (.sl (.int .i64)) w.1=w.1.length:=szT_sl_flat (t:=.int .i64) w.1 rfl
    have h6:szT (.sl (.int .i64)) w.2.1=w.2.1.length:=szT_sl_flat (t:=.int .i64) w.2.1 rfl
    simp only [szT,List.map_cons,List.length_cons,List.sum_cons] at h3 h5 h6 ⊢
    omega
 have h3:=h2 W h.2.2
 have h4:=h.w16
 have h5:=h.1
 simp only [szT] at h1 h3 ⊢
 omega
/-- A step, from a good picture into a good one. -/
def stepS (P:List Prc) (W:List Wir) (kind f t by_:Int):List Prc × List Wir × Bool :=
 bif (stepR P W kind f t by_).1 && goodB (stepR P W kind f t by_).2.1 (stepR P W kind f t by_).2.2 then ((stepR P W kind f t by_).2.1,(stepR P W kind f t by_).2.2,true) else ([],[],false)
theorem impl_stepped_eq {P:List Prc} {W:List Wir} (h:SnI P W) (kind f t by_:Int):xi0o P W kind f t by_=some (stepS P W kind f t by_):=by
 have h':=step_inv h kind f t by_
 have b1:=h.w16
 have b2:=h'.w16
 have b3:=h.1
 have b4:=h'.1
 refine xi0o.eq _ _ _ _ _ _ ?_
 simp only [xi0o.t,xi13_eq P W (by omega) (by omega) h.hl,impl_step_eq h,xi12_eq _ _ h'.hl,xi13_eq _ _ (show (stepR P W kind f t by_).2.1.length≤1073741824 by omega) (by omega) h'.hl,Option.bind_some,stepS]
 cases (stepR P W kind f t by_).1 with
 | false => rfl
 | true =>
   cases goodB (stepR P W kind f t by_).2.1 (stepR P W kind f t by_).2.2 with
   | false => rfl
   | true => rfl
end GoV

/- Pictures: steps, told of whole pictures. -/
namespace GoV
open Go
theorem SnI.hp {P:List Prc} {W:List Wir} (hz:szT TSn (P,W)≤1048576):P.length≤1073741824∧W.length≤1073741824∧∀ w,w∈W→w.1.length≤1073741824∧w.2.1.length≤1073741824:=by
 have h1:szT (.sl (.pair (.int .i64) (.pair (.int .i64) .bool))) P=P.length:=szT_sl_flat (t:=.pair (.int .i64) (.pair (.int .i64) .bool)) P rfl
 have h2:szT TSn (P,W)=szT (.sl (.pair (.int .i64) (.pair (.int .i64) .bool))) P+szT (.sl (.pair (.sl (.int .i64)) (.pair (.sl (.int .i64)) .bool))) W:=rfl
 have h3:=szT_len (t:=(.pair (.sl (.int .i64)) (.pair (.sl (.int .i64)) .bool))) (l:=W)
 refine ⟨by omega,by omega,fun w hw => ?_⟩
 have h4:=szT_mem (t:=(.pair (.sl (.int .i64)) (.pair (.sl (.int .i64)) .bool))) (l:=W) hw
 have h5:szT (.sl (.int .i64)) w.1=w.1.length:=szT_sl_flat (t:=.int .i64) w.1 rfl
 have h6:szT (.sl (.int .i64)) w.2.1=w.2.1.length:=szT_sl_flat (t:=.int .i64) w.2.1 rfl
 have h7:szT (.pair (.sl (.int .i64)) (.pair (.sl (.int .i64)) .bool)) w=szT (.sl (.int .i64)) w.1+(szT (.sl (.int .i64)) w.2.1+0):=rfl
 omega
theorem doneAt_len (P:List Prc) (i:Nat):(doneAt P i).length=P.length:=by simp [doneAt]
theorem step_len (P:List Prc) (W:List Wir) (kind f t by_:Int):(stepR P W kind f t by_).2.1.length=P.length:=by
 unfold stepR sendR takeR
 split
 · rfl
 split
 · split
   · rfl
   · exact doneAt_len _ _
 split
 · rfl
 split
 · rfl
 split
 · simp only
   split
   · simp
   · rfl
 split
 · simp only
   split
   · rfl
   split
   · split
     · rfl
     · exact doneAt_len _ _
   · simp
 · rfl
theorem stepS_good {P:List Prc} {W:List Wir} {kind f t by_:Int} (h:(stepS P W kind f t by_).2.2=true):goodB (stepS P W kind f t by_).1 (stepS P W kind f t by_).2.1=true∧(stepS P W kind f t by_).1.length=P.length:=by
 unfold stepS at *
 cases hc:((stepR P W kind f t by_).1 && goodB (stepR P W kind f t by_).2.1 (stepR P W kind f t by_).2.2) with
 | false => rw [hc] at h; simp at h
 | true => exact ⟨(Bool.and_eq_true_iff.1 hc).2,step_len P W kind f t by_⟩
theorem xs17_eq {P:List Prc} {W:List Wir} (h1:goodB P W=true) (kind f t by_:Int):xs17 P W kind f t by_=some (stepS P W kind f t by_):=by
 have hI:=good_inv h1
 have h':=step_inv hI kind f t by_
 have b1:=hI.w16
 have b2:=hI.1
 have e4:=spec_step_eq hI kind f t by_
 refine xs17.eq _ _ _ _ _ _ ?_
 simp only [xs17.t,xs16_eq P W hI.hl,h1,Option.bind_some,bang_t,cond_false,xs1q_eq P W (by omega) (by omega) hI.hl,e4,xs16_eq _ _ h'.hl,stepS]
 cases (stepR P W kind f t by_).1 with
 | false => rfl
 | true =>
   cases goodB (stepR P W kind f t by_).2.1 (stepR P W kind f t by_).2.2 with
   | false => rfl
   | true => rfl
end GoV

/- Pictures: taking all words; what is saved and recorded. -/
namespace GoV
open Go
def picB (P:List Prc) (W:List Wir):Bool:=P.all (fun p => p.2.2) && W.all (fun w => !w.2.2)
def savP : List Prc → Int
 | [] => 0
 | p::r => p.2.1+savP r
def recW : List Wir → Int
 | [] => 0
 | w::r => sumI w.2.1+recW r
def picR (P:List Prc) (W:List Wir):Int × Bool:=bif picB P W then (savP P+recW W,true) else (0,false)
theorem picR_snd (P:List Prc) (W:List Wir):(picR P W).2=picB P W:=by
 unfold picR
 cases picB P W <;> rfl
theorem good_recs {P : List Prc} : ∀ {W : List Wir} {k : Nat}, wiresB P k W = true → ∀ w, w ∈ W → w.2.1.length ≤ 1000 ∧ w.2.1.all (inB 0 1000000) = true
 | [],_,_,w,hw => by simp at hw
 | v::W,k,h,w,hw => by
   simp only [wiresB,Bool.and_eq_true] at h
   rcases List.mem_cons.1 hw with rfl | hw
   · obtain ⟨h1, h2, h3, h4⟩ := wire_bounds h.1
     exact ⟨by omega,all_10 h4⟩
   · exact good_recs h.2 w hw
theorem good_savs {P:List Prc} (h:P.all procB=true):∀ p,p∈P→0≤p.2.1∧p.2.1≤2000000000:=fun p hp => by
 have:=List.all_eq_true.1 h p hp
 simp only [procB,Bool.and_eq_true] at this
 exact inB_iff.1 this.2.1
section
variable {P:List Prc} {W:List Wir} (hP:P.length≤1000) (hW:W.length≤1000) (hp:∀ p,p∈P→0≤p.2.1∧p.2.1≤2000000000) (hr:∀ w,w∈W→w.2.1.length≤1000∧w.2.1.all (inB 0 1000000)=true)
include hW hr
theorem impl_picture_l10:∀ i,i≤W.length→∀ a:Int,0≤a→a≤2000000000000+i * 1000000000→xi0n.l10 a W (W.length:Int) (i:Int)=some (bif (W.drop i).all (fun w => !w.2.2) then (a+recW (W.drop i),true) else (0,false)):=by
 refine upto ?_ ?_
 · intro a _ _
   refine xi0n.eq10 _ _ _ _ ?_
   rw [List.drop_length]
   simp only [xi0n.t10,ix_lt,Nat.lt_irrefl,decide_false,cond_false,List.all_nil,cond_true,recW,Int.add_zero]
 · intro i hi ih a ha hb
   have h1:=hr _ (getD_mem zW hi)
   have h3:=sumI_bound h1.2
   rw [drop_getD zW hi]
   refine xi0n.eq10 _ _ _ _ ?_
   simp only [xi0n.t10,ix_lt,ix_nn,ix_nat,dec_t hi,cond_true,xi1r_eq h1.1 h1.2,Option.bind_some,wrap_succ (show i<9223372036854775807 by omega),List.all_cons,recW]
   cases (W.getD i zW).2.2 with
   | true => rfl
   | false =>
     simp only [cond_false,Bool.not_false,Bool.true_and]
     rw [wrap_id (by omega) (by omega),ih _ (by omega) (by omega),Int.add_assoc]
omit hW hr in
theorem spec_picture_l17 {k : Nat} {l : List Int} (hl : l.length ≤ 1000) (hall : l.all (inB 0 1000000) = true) {b : List Wir} {a0 : Int} (h0 : 0 ≤ a0) (h1 : a0 ≤ 3000000000000)
 (hn:xs10.l12 (a0+sumI l) W (W.length:Int) (IntKind.i64.wrap ((k:Int)+1))=some (bif b.all (fun w => !w.2.2) then (a0+sumI l+recW b,true) else (0,false))):∀ j,j≤l.length→∀ a:Int,0≤a→a≤3000000000000+j * 1000000→a+sumI (l.drop j)=a0+sumI l→xs10.l17 a W (W.length:Int) (k:Int) l (l.length:Int) (j:Int)=some (bif b.all (fun w => !w.2.2) then (a0+sumI l+recW b,true) else (0,false)):=by
 refine upto ?_ ?_
 · intro a _ _ he
   rw [List.drop_length,sumI,Int.add_zero] at he
   subst he
   refine xs10.eq17 _ _ _ _ _ _ _ ?_
   simp only [xs10.t17,ix_lt,Nat.lt_irrefl,decide_false,cond_false]
   exact hn
 · intro j hj ih a ha hb he
   have hx:=inB_iff.1 (List.all_eq_true.1 hall _ (getD_mem 0 hj))
   rw [drop_getD 0 hj,sumI] at he
   refine xs10.eq17 _ _ _ _ _ _ _ ?_
   simp only [xs10.t17,ix_lt,ix_nn,ix_nat,dec_t hj,cond_true,wrap_succ (show j<9223372036854775807 by omega)]
   rw [wrap_id (by omega) (by omega)]
   exact ih _ (by omega) (by omega) (by omega)
theorem spec_picture_l12:∀ i,i≤W.length→∀ a:Int,0≤a→a≤2000000000000+i * 1000000000→xs10.l12 a W (W.length:Int) (i:Int)=some (bif (W.drop i).all (fun w => !w.2.2) then (a+recW (W.drop i),true) else (0,false)):=by
 refine upto ?_ ?_
 · intro a _ _
   refine xs10.eq12 _ _ _ _ ?_
   rw [List.drop_length]
   simp only [xs10.t12,ix_lt,Nat.lt_irrefl,decide_false,cond_false,List.all_nil,cond_true,recW,Int.add_zero]
 · intro i hi ih a ha hb
   have h1:=hr _ (getD_mem zW hi)
   have h3:=sumI_bound h1.2
   have hn:=ih (a+sumI (W.getD i zW).2.1) (by omega) (by omega)
   have hn':xs10.l12 (a+sumI (W.getD i zW).2.1) W (W.length:Int) (IntKind.i64.wrap ((i:Int)+1))=some (bif (W.drop (i+1)).all (fun w => !w.2.2) then (a+sumI (W.getD i zW).2.1+recW (W.drop (i+1)),true) else (0,false)):=by
    rw [wrap_succ (show i<9223372036854775807 by omega)]; exact hn
   have h4:=spec_picture_l17 (k:=i) h1.1 h1.2 ha (by omega) hn' 0 (Nat.zero_le _) a ha (by omega) (by rw [List.drop_zero])
   rw [drop_getD zW hi]
   refine xs10.eq12 _ _ _ _ ?_
   simp only [xs10.t12,ix_lt,ix_nn,ix_nat,dec_t hi,cond_true,List.all_cons,recW]
   cases h2:(W.getD i zW).2.2 with
   | true => rfl
   | false =>
     simp only [cond_false,Bool.not_false,Bool.true_and]
     rw [← Int.add_assoc]
     exact h4
include hP hp
theorem impl_picture_eq:xi0n P W=some (picR P W):=by
 have main:∀ i,i≤P.length→∀ a:Int,0≤a→a≤i * 2000000000→xi0n.l3 P W a P (P.length:Int) (i:Int)=some (bif (P.drop i).all (fun p => p.2.2) && W.all (fun w => !w.2.2) then (a+savP (P.drop i)+recW W,true) else (0,false)):=by
  refine upto ?_ ?_
  · intro a ha hb
    have hx:=impl_picture_l10 hW hr 0 (Nat.zero_le _) a ha (by omega)
    refine xi0n.eq3 _ _ _ _ _ _ ?_
    rw [List.drop_length]
    simp only [xi0n.t3,ix_lt,Nat.lt_irrefl,decide_false,cond_false,List.all_nil,Bool.true_and,savP,Int.add_zero]
    exact hx
  · intro i hi ih a ha hb
    have h1:=hp _ (getD_mem zP hi)
    rw [drop_getD zP hi]
    refine xi0n.eq3 _ _ _ _ _ _ ?_
    simp only [xi0n.t3,ix_lt,ix_nn,ix_nat,dec_t hi,cond_true,wrap_succ (show i<9223372036854775807 by omega),List.all_cons,savP]
    generalize P.getD i zP=p at h1 ⊢
    cases p.2.2 with
    | false => rfl
    | true =>
      simp only [Bool.not_true,cond_false,Bool.true_and]
      rw [wrap_id (by omega) (by omega),ih _ (by omega) (by omega),← Int.add_assoc]
 have:=main 0 (Nat.zero_le _) 0 (by omega) (by omega)
 refine xi0n.eq _ _ ?_
 simp only [xi0n.t]
 rw [List.drop_zero,Int.zero_add] at this
 exact this
theorem spec_picture_l5:∀ i,i≤P.length→∀ a:Int,0≤a→a≤i * 2000000000→xs10.l5 P W a P (P.length:Int) (i:Int)=some (bif (P.drop i).all (fun p => p.2.2) && W.all (fun w => !w.2.2) then (a+savP (P.drop i)+recW W,true) else (0,false)):=by
 refine upto ?_ ?_
 · intro a ha hb
   have hx:=spec_picture_l12 hW hr 0 (Nat.zero_le _) a ha (by omega)
   refine xs10.eq5 _ _ _ _ _ _ ?_
   rw [List.drop_length]
   simp only [xs10.t5,ix_lt,Nat.lt_irrefl,decide_false,cond_false,List.all_nil,Bool.true_and,savP,Int.add_zero]
   exact hx
 · intro i hi ih a ha hb
   have h1:=hp _ (getD_mem zP hi)
   rw [drop_getD zP hi]
   refine xs10.eq5 _ _ _ _ _ _ ?_
   simp only [xs10.t5,ix_lt,ix_nn,ix_nat,dec_t hi,cond_true,wrap_succ (show i<9223372036854775807 by omega),List.all_cons,savP]
   generalize P.getD i zP=p at h1 ⊢
   cases p.2.2 with
   | false => rfl
   | true =>
     simp only [Bool.not_true,cond_false,Bool.true_and]
     rw [wrap_id (by omega) (by omega),ih _ (by omega) (by omega),← Int.add_assoc]
end
theorem good_pic {P:List Prc} {W:List Wir} (hg:goodB P W=true):P.length≤1000∧W.length≤1000∧(∀ p,p∈P→0≤p.2.1∧p.2.1≤2000000000)∧∀ w,w∈W→w.2.1.length≤1000∧w.2.1.all (inB 0 1000000)=true:=by
 have hI:=good_inv hg
 have h1:=hI.1
 have h2:=hI.w16
 simp only [goodB,Bool.and_eq_true] at hg
 exact ⟨by omega,by omega,good_savs hg.2.2.1,good_recs hg.2.2.2.1⟩
theorem xs10_eq {P:List Prc} {W:List Wir} (hg:goodB P W=true):xs10 P W=some (picR P W):=by
 obtain ⟨h1,h2,h3,h4⟩:=good_pic hg
 have:=spec_picture_l5 h1 h2 h3 h4 0 (Nat.zero_le _) 0 (by omega) (by omega)
 refine xs10.eq _ _ ?_
 simp only [xs10.t,xs16_eq _ _ (good_inv hg).hl,hg,Option.bind_some,bang_t,cond_false]
 rw [List.drop_zero,Int.zero_add] at this
 exact this
/-- Is a wire not empty. -/
def fullB (w:Wir):Bool:=decide (0<w.1.length)
def endF (P:List Prc) (W:List Wir) (m:Nat):List Prc × List Wir × Int × Bool:=bif picB P W then (P,W,(m:Int),true) else ([],[],0,false)
def finF : Nat → List Prc → List Wir → Nat → List Prc × List Wir × Int × Bool
 | 0,P,W,m => endF P W m
 | r + 1, P, W, m => if W.findIdx fullB = W.length then endF P W m else
   bif (stepS P W 2 ((W.findIdx fullB / P.length : Nat) : Int) ((W.findIdx fullB % P.length : Nat) : Int) 0).2.2 then
     finF r (stepS P W 2 ((W.findIdx fullB / P.length:Nat):Int) ((W.findIdx fullB % P.length:Nat):Int) 0).1 (stepS P W 2 ((W.findIdx fullB / P.length:Nat):Int) ((W.findIdx fullB % P.length:Nat):Int) 0).2.1 (m+1)
   else ([],[],0,false)
theorem finF_small : ∀ (r : Nat) (P : List Prc) (W : List Wir) (m : Nat), goodB P W = true → szT TSn ((finF r P W m).1, (finF r P W m).2.1) ≤ 1073741824
 | 0,P,W,m,hg => by
   simp only [finF,endF]
   cases picB P W with
   | false => simp [szT]
   | true => exact (good_inv hg).size
 | r+1,P,W,m,hg => by
   simp only [finF]
   split
   · simp only [endF]
     cases picB P W with
     | false => simp [szT]
     | true => exact (good_inv hg).size
   · cases hc : (stepS P W 2 ((W.findIdx fullB / P.length : Nat) : Int) ((W.findIdx fullB % P.length : Nat) : Int) 0).2.2 with
     | false => simp [szT]
     | true => exact finF_small r _ _ _ (stepS_good hc).1
/-! ## The program's -/
theorem impl_find_eq (W:List Wir) (hW:W.length≤1073741824):xs06 W=some (if W.findIdx fullB=W.length then -1 else ((W.findIdx fullB:Nat):Int)):=by
 have h2:∀ w:Wir,xi0m w.1 w.2.1 w.2.2=some (fullB w):=fun w => xi0m.eq _ _ _ (by
  simp only [xi0m.t,fullB]
  congr 1
  exact bool_eq (by rw [decide_eq_true_eq,decide_eq_true_eq]; omega))
 have main:∀ i,i≤W.findIdx fullB→xs06.l2 W (W.length:Int) (i:Int)=some (if W.findIdx fullB=W.length then -1 else ((W.findIdx fullB:Nat):Int)):=by
  have hle:W.findIdx fullB≤W.length:=List.findIdx_le_length
  refine upto ?_ ?_
  · refine xs06.eq2 _ _ _ ?_
    by_cases he:W.findIdx fullB=W.length
    · rw [if_pos he]
      simp only [xs06.t2,ix_lt,he,Nat.lt_irrefl,decide_false,cond_false]
    · have hi : W.findIdx fullB < W.length := by omega
      have hf:fullB (W.getD (W.findIdx fullB) zW)=true:=by
       have:=List.findIdx_getElem (p:=fullB) (xs:=W) (w:=hi)
       rw [List.getD_eq_getElem?_getD,List.getElem?_eq_getElem hi]
       exact this
      rw [if_neg he]
      simp only [xs06.t2,ix_lt,ix_nn,ix_nat,dec_t hi,cond_true,h2,hf,Option.bind_some]
  · intro i hi ih
    have hi':i<W.length:=by omega
    have hf:fullB (W.getD i zW)=false:=by
        have:=List.not_of_lt_findIdx hi
        rw [List.getD_eq_getElem?_getD,List.getElem?_eq_getElem hi']
        simpa using this
    refine xs06.eq2 _ _ _ ?_
    simp only [xs06.t2,ix_lt,ix_nn,ix_nat,dec_t hi',cond_true,cond_false,h2,hf,Option.bind_some,wrap_succ (show i<9223372036854775807 by omega)]
    exact ih
 refine xs06.eq _ ?_
 simp only [xs06.t]
 exact main 0 (Nat.zero_le _)
theorem impl_any_eq (P:List Prc) (hP:P.length≤1073741824):xs04 P=some (P.any (fun p => p.2.2)) :=
 xs04_ok P _ (by omega) (fun p _ => xi0l.eq _ _ _ (by simp only [xi0l.t]))
theorem wrap_div (a b:Nat) (ha:a≤1000):IntKind.i64.wrap (((a / b:Nat):Int))=((a / b:Nat):Int):=by
 have hq:=Nat.div_le_self a b
 generalize a / b=q at hq ⊢
 exact wrap_id (by omega) (by omega)
theorem impl_fin_l4 {P0:List Prc} {W0:List Wir}:∀ (r m:Nat) (P:List Prc) (W:List Wir),m+r=2000→goodB P W=true→P0.length=P.length→xi0w.l4 P0 W0 [] [] P W (m:Int)=some (finF r P W m):=by
 intro r
 induction r with
 | zero =>
   intro m P W hm hg hl
   have hI:=good_inv hg
   obtain ⟨p1,p2,p3,p4⟩:=good_pic hg
   have hx:=impl_picture_eq p1 p2 p3 p4
   refine xi0w.eq4 _ _ _ _ _ _ _ ?_
   have h1:decide ((m:Int)<2000)=false:=dec_f (by omega)
   simp only [xi0w.t4,h1,cond_false,hx,Option.bind_some,finF,endF,picR_snd]
   cases picB P W <;> rfl
 | succ r ih =>
   intro m P W hm hg hl
   have hI:=good_inv hg
   have hn:=hI.1
   have h16:=hI.w16
   obtain ⟨p1,p2,p3,p4⟩:=good_pic hg
   have hx:=impl_picture_eq p1 p2 p3 p4
   have h1:decide ((m:Int)<2000)=true:=dec_t (by omega)
   have hle:W.findIdx fullB≤W.length:=List.findIdx_le_length
   refine xi0w.eq4 _ _ _ _ _ _ _ ?_
   simp only [xi0w.t4,h1,cond_true,impl_find_eq W (by omega),Option.bind_some,finF]
   by_cases he:W.findIdx fullB=W.length
   · rw [if_pos he, if_pos he]
     have h2:decide ((-1:Int)<0)=true:=rfl
     simp only [h2,cond_true,hx,Option.bind_some,endF,picR_snd]
     cases picB P W <;> rfl
   · rw [if_neg he, if_neg he]
     have h2:decide (((W.findIdx fullB:Nat):Int)<0)=false:=dec_f (by omega)
     have h3:((P.length:Nat):Int)≠0:=by omega
     simp only [h2,cond_false,dec_t h3,cond_true,hl,tdiv_nat,tmod_nat,wrap_div _ _ (show W.findIdx fullB≤1000 by omega),impl_stepped_eq hI,Option.bind_some]
     cases hc:(stepS P W 2 ((W.findIdx fullB / P.length:Nat):Int) ((W.findIdx fullB % P.length:Nat):Int) 0).2.2 with
     | false => rfl
     | true =>
       have h4:=stepS_good hc
       simp only [Bool.not_true,cond_false,cond_true,wrap_succ (show m<9223372036854775807 by omega)]
       exact ih (m+1) _ _ (by omega) h4.1 (by rw [h4.2]; exact hl)
theorem xi0w_eq {P : List Prc} {W : List Wir} (hP : P.length ≤ 1073741824) (hW : W.length ≤ 1073741824) (hl : ∀ w, w ∈ W → w.1.length ≤ 1073741824 ∧ w.2.1.length ≤ 1073741824) :
 xi0w P W=some (bif goodB P W && P.any (fun p => p.2.2) then finF 2000 P W 0 else ([],[],0,false)):=by
 refine xi0w.eq _ _ ?_
 simp only [xi0w.t,xi12_eq _ _ hl,impl_any_eq P hP,xi13_eq P W hP hW hl,Option.bind_some]
 cases hg:goodB P W with
 | false => rfl
 | true =>
   cases P.any (fun p => p.2.2) with
   | false => rfl
   | true =>
     have:=impl_fin_l4 (P0:=P) (W0:=W) 2000 0 P W rfl hg rfl
     simpa using this
end GoV

/- FinishSnap: the specification and the program answer alike. -/
namespace GoV
open Go
theorem spec_fin_end {P:List Prc} {W:List Wir} (hg:goodB P W=true) (m:Nat):((xs10 P W).bind fun (r:Int × Bool) => bif !r.snd then some (([],[],(0:Int),false):List Prc × List Wir × Int × Bool) else some (P,W,(m:Int),true))=some (endF P W m):=by
 rw [xs10_eq hg]
 simp only [Option.bind_some,endF,picR_snd]
 cases picB P W <;> rfl
theorem spec_fin_l14 {P : List Prc} {W : List Wir} {P0 : List Prc} {W0 : List Wir} {m : Nat} {v : List Prc × List Wir × Int × Bool} (hg : goodB P W = true) (hv1 : W.findIdx fullB = W.length → v = endF P W m)
 (hv2 : W.findIdx fullB ≠ W.length → (bif (stepS P W 2 ((W.findIdx fullB / P.length : Nat) : Int) ((W.findIdx fullB % P.length : Nat) : Int) 0).2.2 then
  xs0x.l12 (stepS P W 2 ((W.findIdx fullB / P.length:Nat):Int) ((W.findIdx fullB % P.length:Nat):Int) 0).1 (stepS P W 2 ((W.findIdx fullB / P.length:Nat):Int) ((W.findIdx fullB % P.length:Nat):Int) 0).2.1 P0 W0 true (IntKind.i64.wrap ((m:Int)+1)) (P.length:Int)
  else some ([],[],0,false))=some v) :
 ∀ i,i≤W.findIdx fullB→xs0x.l14 P W P0 W0 true (m:Int) (P.length:Int) (i:Int)=some v:=by
 have hle:W.findIdx fullB≤W.length:=List.findIdx_le_length
 have hI:=good_inv hg
 have hn:=hI.1
 have h16:=hI.w16
 have h3:((P.length:Nat):Int)≠0:=by omega
 have hend:=spec_fin_end hg m
 refine upto ?_ ?_
 · refine xs0x.eq14 _ _ _ _ _ _ _ _ ?_
   by_cases he:W.findIdx fullB=W.length
   · rw [hv1 he, he]
     have h5:((W.length:Int) == (W.length:Int))=true:=by simp
     simp only [xs0x.t14,ix_lt,Nat.lt_irrefl,decide_false,cond_false,h5,cond_true]
     exact hend
   · have hi : W.findIdx fullB < W.length := by omega
     have hf:((((W.getD (W.findIdx fullB) zW).1.length:Nat):Int) == 0)=false:=by
        have h6:=List.findIdx_getElem (p:=fullB) (xs:=W) (w:=hi)
        rw [List.getD_eq_getElem?_getD,List.getElem?_eq_getElem hi]
        simp only [fullB,decide_eq_true_eq] at h6
        simp only [Option.getD_some,beq_eq_false_iff_ne,ne_eq]
        omega
     have h5:(((W.findIdx fullB:Nat):Int) == (W.length:Int))=false:=by
        simp only [beq_eq_false_iff_ne,ne_eq]; omega
     simp only [xs0x.t14,ix_lt,ix_nn,ix_nat,dec_t hi,cond_true,hf,cond_false,h5,dec_t h3,tdiv_nat,tmod_nat,wrap_div _ _ (show W.findIdx fullB≤1000 by omega),xs17_eq hg,Option.bind_some]
     have h7:=hv2 he
     cases hc:(stepS P W 2 ((W.findIdx fullB / P.length:Nat):Int) ((W.findIdx fullB % P.length:Nat):Int) 0).2.2 with
     | false => rw [hc] at h7; exact h7
     | true => rw [hc] at h7; exact h7
 · intro i hi ih
   have hi':i<W.length:=by omega
   have hf:((((W.getD i zW).1.length:Nat):Int) == 0)=true:=by
    have h6:=List.not_of_lt_findIdx hi
    rw [List.getD_eq_getElem?_getD,List.getElem?_eq_getElem hi']
    simp only [fullB,decide_eq_false_iff_not] at h6
    simp only [Option.getD_some,beq_iff_eq]
    omega
   refine xs0x.eq14 _ _ _ _ _ _ _ _ ?_
   simp only [xs0x.t14,ix_lt,ix_nn,ix_nat,dec_t hi',cond_true,hf,wrap_succ (show i<9223372036854775807 by omega)]
   exact ih
theorem spec_fin_l12 {P0:List Prc} {W0:List Wir} {n:Nat}:∀ (r m:Nat) (P:List Prc) (W:List Wir),m+r=2000→goodB P W=true→P.length=n→xs0x.l12 P W P0 W0 true (m:Int) (n:Int)=some (finF r P W m):=by
 intro r
 induction r with
 | zero =>
   intro m P W hm hg hl
   have hend:=spec_fin_end hg m
   have h1:decide ((m:Int)<2000)=false:=dec_f (by omega)
   refine xs0x.eq12 _ _ _ _ _ _ _ ?_
   simp only [xs0x.t12,h1,cond_false,finF]
   exact hend
 | succ r ih =>
   intro m P W hm hg hl
   subst hl
   have h1:decide ((m:Int)<2000)=true:=dec_t (by omega)
   refine xs0x.eq12 _ _ _ _ _ _ _ ?_
   simp only [xs0x.t12,h1,cond_true]
   refine spec_fin_l14 hg (fun he => by rw [finF,if_pos he]) (fun he => ?_) 0 (Nat.zero_le _)
   rw [finF,if_neg he]
   cases hc:(stepS P W 2 ((W.findIdx fullB / P.length:Nat):Int) ((W.findIdx fullB % P.length:Nat):Int) 0).2.2 with
   | false => rfl
   | true =>
     have h4:=stepS_good hc
     rw [cond_true,cond_true,wrap_succ (show m<9223372036854775807 by omega)]
     exact ih (m+1) _ _ (by omega) h4.1 h4.2
theorem spec_fin_not {P:List Prc} {W:List Wir} {P0:List Prc} {W0:List Wir} (hg:goodB P W=true) (ha:P.any (fun p => p.2.2)=false):xs0x.l12 P W P0 W0 false ((0:Nat):Int) (P.length:Int)=some ([],[],0,false):=by
 have hn:=(good_inv hg).1
 have hp:picB P W=false:=by
  cases P with
  | nil => simp at hn
  | cons p P =>
    simp only [List.any_cons,Bool.or_eq_false_iff] at ha
    simp [picB,ha.1]
 have hend:=spec_fin_end hg 0
 rw [endF,hp] at hend
 refine xs0x.eq12 _ _ _ _ _ _ _ ?_
 have h1:decide (((0:Nat):Int)<2000)=true:=rfl
 simp only [xs0x.t12,h1,cond_true,cond_false]
 exact hend
theorem spec_fin_l6 {P:List Prc} {W:List Wir} {P0:List Prc} {W0:List Wir} (hg:goodB P W=true):∀ i,i≤P.length→∀ b:Bool,b=(P.take i).any (fun p => p.2.2)→xs0x.l6 P W P0 W0 b (P.length:Int) (i:Int)=some (bif P.any (fun p => p.2.2) then finF 2000 P W 0 else ([],[],0,false)):=by
 have hn:=(good_inv hg).1
 refine upto ?_ ?_
 · intro b hb
   rw [List.take_length] at hb
   refine xs0x.eq6 _ _ _ _ _ _ _ ?_
   simp only [xs0x.t6,ix_lt,Nat.lt_irrefl,decide_false,cond_false]
   rw [← hb]
   cases b with
   | true => exact spec_fin_l12 2000 0 P W rfl hg rfl
   | false => exact spec_fin_not hg hb.symm
 · intro i hi ih b hb
   have ht:(P.take (i+1)).any (fun p => p.2.2)=(b || (P.getD i zP).2.2):=by
    rw [List.take_succ_eq_append_getElem hi,List.any_append,← hb,List.getD_eq_getElem?_getD,List.getElem?_eq_getElem hi]
    simp
   have h1:=ih (b || (P.getD i zP).2.2) ht.symm
   refine xs0x.eq6 _ _ _ _ _ _ _ ?_
   simp only [xs0x.t6,ix_lt,ix_nn,ix_nat,dec_t hi,cond_true,wrap_succ (show i<9223372036854775807 by omega)]
   cases b with
   | true => exact h1
   | false => exact h1
theorem FnExactFinishSnap_same (v0 : List (Int × Int × Bool)) (v1 : List (List Int × List Int × Bool)) (w0 : WfT (.pair (.sl (.pair (.int .i64) (.pair (.int .i64) .bool))) (.sl (.pair (.sl (.int .i64)) (.pair (.sl (.int .i64)) .bool)))) (v0, v1)) (hz0 : szT (.pair (.sl (.pair (.int .i64) (.pair (.int .i64) .bool))) (.sl (.pair (.sl (.int .i64)) (.pair (.sl (.int .i64)) .bool)))) (v0, v1) ≤ 1048576) :
 ∃ (a:List (Int × Int × Bool)) (b:List (List Int × List Int × Bool)) (c:Int) (d:Bool),xs0x v0 v1=some (a,b,c,d)∧xi0w v0 v1=some (a,b,c,d)∧szT (.pair (.sl (.pair (.int .i64) (.pair (.int .i64) .bool))) (.sl (.pair (.sl (.int .i64)) (.pair (.sl (.int .i64)) .bool)))) (a,b)≤1073741824:=by
 obtain ⟨hP,hW,hl⟩:=SnI.hp hz0
 have e2:=xi0w_eq hP hW hl
 have e1:=xs16_eq v0 v1 hl
 cases h1:goodB v0 v1 with
 | false =>
   rw [h1] at e2
   exact ⟨[],[],0,false,xs0x.eq _ _ (by simp only [xs0x.t,e1,h1,Option.bind_some,bang_f,cond_true]),e2,by simp [szT]⟩
 | true =>
   rw [h1,Bool.true_and] at e2
   refine ⟨_,_,_,_,xs0x.eq _ _ ?_,e2, ?_⟩
   · simp only [xs0x.t, e1, h1, Option.bind_some, bang_t, cond_false, xs1q_eq v0 v1 hP hW hl]
     exact spec_fin_l6 h1 0 (Nat.zero_le _) false rfl
   · cases v0.any (fun p => p.2.2) with
     | false => simp [szT]
     | true => exact finF_small 2000 _ _ _ h1
end GoV

/- FnExactFinishSnap: the law out of its core. -/
namespace GoV
open Go
theorem FnExactFinishSnap_true (v0:List (Int × Int × Bool)) (v1:List (List Int × List Int × Bool)) (w0:WfT (.pair (.sl (.pair (.int .i64) (.pair (.int .i64) .bool))) (.sl (.pair (.sl (.int .i64)) (.pair (.sl (.int .i64)) .bool)))) (v0,v1)):xl0c v0 v1=some true:=by
 obtain ⟨left1,e1,a1,b1z⟩:=xl1k_ok (v0) (v1) ((1048576:Int)) w0 (by omega) (by omega)
 by_cases n1:left1<0
 · exact xl0c.eq v0 v1 (by simp only [xl0c.t,e1,dec_t n1,cond_true,cond_false,Option.bind_some])
 have z1a:=b1z (by omega)
 have hz0:szT (.pair (.sl (.pair (.int .i64) (.pair (.int .i64) .bool))) (.sl (.pair (.sl (.int .i64)) (.pair (.sl (.int .i64)) .bool)))) (v0,v1)≤1048576:=by omega
 obtain ⟨ga,gb,gc,gd,hspec,himpl,hsm⟩:=FnExactFinishSnap_same v0 v1 w0 hz0
 -- the answer is small
 have e2:=xl1o_id (v0) (v1) (by omega)
 have e4:=xl1o_id (v0) (v1) (by omega)
 have e6:=xl1h_rf (ga) (gb) (by first | omega | (simp only [szT] at *; omega))
 have e7:=xl1o_id (v0) (v1) (by omega)
 have e8:=xl1h_rf (v0) (v1) (by first | omega | (simp only [szT] at *; omega))
 have q9:=cntT_le (T:=(.pair (.sl (.pair (.int .i64) (.pair (.int .i64) .bool))) (.sl (.pair (.sl (.int .i64)) (.pair (.sl (.int .i64)) .bool))))) (v0,v1) rfl
 simp only [Ty.size] at q9
 have e9:=xl0r_ok (v0) (v1) ((1:Int)) (by omega) (by omega) (by omega)
 have p9:=mrT_cnt (.pair (.sl (.pair (.int .i64) (.pair (.int .i64) .bool))) (.sl (.pair (.sl (.int .i64)) (.pair (.sl (.int .i64)) .bool)))) (v0,v1) (1:Int)
 have g9:¬ (mrT (.pair (.sl (.pair (.int .i64) (.pair (.int .i64) .bool))) (.sl (.pair (.sl (.int .i64)) (.pair (.sl (.int .i64)) .bool)))) (v0,v1) (1:Int)).2<0:=by omega
 have e10:=xl1h_rf (ga) (gb) (by first | omega | (simp only [szT] at *; omega))
 have q11:=cntT_le (T:=(.pair (.sl (.pair (.int .i64) (.pair (.int .i64) .bool))) (.sl (.pair (.sl (.int .i64)) (.pair (.sl (.int .i64)) .bool))))) (ga,gb) rfl
 simp only [Ty.size] at q11
 have e11:=xl0r_ok (ga) (gb) ((1:Int)) (by omega) (by omega) (by omega)
 have p11:=mrT_cnt (.pair (.sl (.pair (.int .i64) (.pair (.int .i64) .bool))) (.sl (.pair (.sl (.int .i64)) (.pair (.sl (.int .i64)) .bool)))) (ga,gb) (1:Int)
 have g11:¬ (mrT (.pair (.sl (.pair (.int .i64) (.pair (.int .i64) .bool))) (.sl (.pair (.sl (.int .i64)) (.pair (.sl (.int .i64)) .bool)))) (ga,gb) (1:Int)).2<0:=by omega
 have e12:xl15 ((mrT (.pair (.sl (.pair (.int .i64) (.pair (.int .i64) .bool))) (.sl (.pair (.sl (.int .i64)) (.pair (.sl (.int .i64)) .bool)))) (ga,gb) (1:Int)).1.1) ((mrT (.pair (.sl (.pair (.int .i64) (.pair (.int .i64) .bool))) (.sl (.pair (.sl (.int .i64)) (.pair (.sl (.int .i64)) .bool)))) (ga,gb) (1:Int)).1.2) ((1:Int))=some (mrT (.pair (.sl (.pair (.int .i64) (.pair (.int .i64) .bool))) (.sl (.pair (.sl (.int .i64)) (.pair (.sl (.int .i64)) .bool)))) (ga,gb) (1:Int)).2:=xl15_ok (ga) (gb) (1:Int) (by omega) (by omega) (by omega)
 have e13:=xl1o_id (v0) (v1) (by omega)
 have e15:=xl1h_rf (ga) (gb) (by first | omega | (simp only [szT] at *; omega))
 have e16:xl15 ((mrT (.pair (.sl (.pair (.int .i64) (.pair (.int .i64) .bool))) (.sl (.pair (.sl (.int .i64)) (.pair (.sl (.int .i64)) .bool)))) (ga,gb) (1:Int)).1.1) ((mrT (.pair (.sl (.pair (.int .i64) (.pair (.int .i64) .bool))) (.sl (.pair (.sl (.int .i64)) (.pair (.sl (.int .i64)) .bool)))) (ga,gb) (1:Int)).1.2) ((1:Int))=some (mrT (.pair (.sl (.pair (.int .i64) (.pair (.int .i64) .bool))) (.sl (.pair (.sl (.int .i64)) (.pair (.sl (.int .i64)) .bool)))) (ga,gb) (1:Int)).2:=xl15_ok (ga) (gb) (1:Int) (by omega) (by omega) (by omega)
 refine xl0c.eq v0 v1 ?_
 simp only [xl0c.t,e1,dec_f n1,e2,e4,e6,e7,e8,e9,dec_f g9,e10,e11,dec_f g11,e12,e13,e15,e16,hspec,himpl,cond_true,cond_false,Option.bind_some,bne_ref,beq_ref,bang_t]
end GoV
