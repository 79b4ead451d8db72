/- A part of the proof of FnExactJoinParts: an interpreter of the model over plain data, its soundness, and what it makes of the functions that the statement reaches. Conditions: none beyond what the given statement itself says. -/
import Derived.Test.YtkndmlepfblabaaGreatTK
set_option linter.unusedVariables false
set_option linter.unusedSimpArgs false
set_option linter.unnecessarySimpa false
set_option linter.unusedSectionVars false
/- What the statements' own helpers answer (printed by wip/tools/lawgen.py). -/
namespace GoV
open Go
theorem xl2i_ok (v0:List Int) (v1:Int) (hw:WfT (.sl (.int .i64)) v0) (h1:0≤v1) (h2:v1≤1048576):∃ r,xl2i v0 v1=some r∧r≤v1∧(0≤r→(szT (.sl (.int .i64)) v0:Int)+r=v1):=by
 have hl:=hw.1
 have e0:IntKind.i64.wrap (v1 - (v0.length:Int))=v1 - (v0.length:Int):=wrap_id (by omega) (by omega)
 by_cases hn:v1 - (v0.length:Int)<0
 · exact ⟨-1,xl2i.eq v0 v1 (by simp only [xl2i.t,e0,dec_t hn,cond_true]),by omega,fun h => by omega⟩
 · exact ⟨v1 - (v0.length:Int),xl2i.eq v0 v1 (by simp only [xl2i.t,e0,dec_f hn,cond_false]),by omega,fun _ => by rw [szT_sl_flat (t:=(.int .i64)) v0 rfl]; omega⟩
theorem xl2q_ok (v0:List Int) (v1:Int) (hw:WfT (.sl (.int .i64)) v0) (h1:0≤v1) (h2:v1≤1048576):∃ r,xl2q v0 v1=some r∧r≤v1∧(0≤r→(szT (.sl (.int .i64)) v0:Int)+r=v1):=by
 obtain ⟨r1,e1,a1,b1⟩:=xl2i_ok v0 v1 hw h1 h2
 by_cases n1:r1<0
 · exact ⟨-1,xl2q.eq v0 v1 (by simp only [xl2q.t,dec_t n1,e1,cond_true,cond_false,Option.bind_some]),by omega,fun h => by omega⟩
 refine ⟨r1,xl2q.eq v0 v1 (by simp only [xl2q.t,e1,dec_f n1,cond_true,cond_false,Option.bind_some]),by omega,fun h => ?_⟩
 have k1:=b1 (by omega)
 simp only [szT] at k1 ⊢
 omega
theorem xl1a_ok (v0:List Int) (v1:Int) (v2:Int) (hw:WfT (.pair (.sl (.int .i64)) (.int .i64)) (v0,v1)) (h1:0≤v2) (h2:v2≤1048576):∃ r,xl1a v0 v1 v2=some r∧r≤v2∧(0≤r→(szT (.pair (.sl (.int .i64)) (.int .i64)) (v0,v1):Int)+r=v2):=by
 obtain ⟨r1,e1,a1,b1⟩:=xl2q_ok v0 v2 hw.1 h1 h2
 by_cases n1:r1<0
 · exact ⟨-1,xl1a.eq v0 v1 v2 (by simp only [xl1a.t,dec_t n1,e1,cond_true,cond_false,Option.bind_some]),by omega,fun h => by omega⟩
 refine ⟨r1,xl1a.eq v0 v1 v2 (by simp only [xl1a.t,e1,dec_f n1,cond_true,cond_false,Option.bind_some]),by omega,fun h => ?_⟩
 have k1:=b1 (by omega)
 simp only [szT] at k1 ⊢
 omega
theorem xl13_ok (v0:Zd) (v1:Int) (hw:WfT (.sl (.pair (.sl (.int .i64)) (.int .i64))) v0) (h1:0≤v1) (h2:v1≤1048576):∃ r,xl13 v0 v1=some r∧r≤v1∧(0≤r→(szT (.sl (.pair (.sl (.int .i64)) (.int .i64))) v0:Int)+r=v1):=by
 have hl:=hw.1
 have e0:IntKind.i64.wrap (v1 - (v0.length:Int))=v1 - (v0.length:Int):=wrap_id (by omega) (by omega)
 by_cases hn:v1 - (v0.length:Int)<0
 · exact ⟨-1,xl13.eq v0 v1 (by simp only [xl13.t,e0,dec_t hn,cond_true]),by omega,fun h => by omega⟩
 · have key:∀ i,i≤v0.length→∀ m:Int,0≤m→m≤1048576→∃ r,xl13.l5 v0 m (i:Int)=some r∧r≤m∧(0≤r→((((v0.drop i).map (szT (.pair (.sl (.int .i64)) (.int .i64)))).sum:Nat):Int)+r=m):=by
    refine upto ?_ ?_
    · intro m h1 h2
      exact ⟨m,xl13.eq5 v0 m (v0.length:Int) (by simp only [xl13.t5,ix_lt,Nat.lt_irrefl,decide_false,cond_false]),Int.le_refl _,fun _ => by simp⟩
    · intro i hi ih m h1 h2
      obtain ⟨r,hr,hr1,hr2⟩:=xl1a_ok ((v0.getD i ([],(0:Int))).fst) ((v0.getD i ([],(0:Int))).snd) m (hw.2 _ (getD_mem ([],(0:Int)) hi)) h1 h2
      by_cases hneg:r<0
      · exact ⟨-1,xl13.eq5 v0 m (i:Int) (by simp only [xl13.t5,ix_lt,ix_nn,ix_nat,dec_t hi,cond_true,hr,Option.bind_some,dec_t hneg]),by omega,fun h => by omega⟩
      · obtain ⟨r2, g0, g1, g2⟩ := ih r (by omega) (by omega)
        refine ⟨r2,xl13.eq5 v0 m (i:Int) (by simp only [xl13.t5,ix_lt,ix_nn,ix_nat,dec_t hi,cond_true,hr,Option.bind_some,dec_f hneg,cond_false,wrap_succ (show i<9223372036854775807 by omega),g0]),by omega,fun h => ?_⟩
        have k1:=hr2 (by omega)
        have k2:=g2 h
        rw [drop_getD ([],(0:Int)) hi]
        simp only [List.map_cons,List.sum_cons]
        simp only [szT] at k1 k2 ⊢
        omega
   obtain ⟨r,g0,g1,g2⟩:=key 0 (Nat.zero_le _) (v1 - (v0.length:Int)) (by omega) (by omega)
   refine ⟨r,xl13.eq v0 v1 (by simp only [xl13.t,e0,dec_f hn,cond_false]; exact g0),by omega,fun h => ?_⟩
   have:=g2 h
   simp only [List.drop_zero] at this
   simp only [szT] at this ⊢
   omega
theorem xl26_ok (v0:Int) (v1:Zd) (v2:Int) (hw:WfT (.pair (.int .i64) (.sl (.pair (.sl (.int .i64)) (.int .i64)))) (v0,v1)) (h1:0≤v2) (h2:v2≤1048576):∃ r,xl26 v0 v1 v2=some r∧r≤v2∧(0≤r→(szT (.pair (.int .i64) (.sl (.pair (.sl (.int .i64)) (.int .i64)))) (v0,v1):Int)+r=v2):=by
 obtain ⟨r1,e1,a1,b1⟩:=xl13_ok v1 v2 hw.2 h1 h2
 by_cases n1:r1<0
 · exact ⟨-1,xl26.eq v0 v1 v2 (by simp only [xl26.t,dec_t n1,e1,cond_true,cond_false,Option.bind_some]),by omega,fun h => by omega⟩
 refine ⟨r1,xl26.eq v0 v1 v2 (by simp only [xl26.t,e1,dec_f n1,cond_true,cond_false,Option.bind_some]),by omega,fun h => ?_⟩
 have k1:=b1 (by omega)
 simp only [szT] at k1 ⊢
 omega
theorem xl1u_ok (v0:Zb) (v1:Int) (hw:WfT (.sl (.pair (.int .i64) (.sl (.pair (.sl (.int .i64)) (.int .i64))))) v0) (h1:0≤v1) (h2:v1≤1048576):∃ r,xl1u v0 v1=some r∧r≤v1∧(0≤r→(szT (.sl (.pair (.int .i64) (.sl (.pair (.sl (.int .i64)) (.int .i64))))) v0:Int)+r=v1):=by
 have hl:=hw.1
 have e0:IntKind.i64.wrap (v1 - (v0.length:Int))=v1 - (v0.length:Int):=wrap_id (by omega) (by omega)
 by_cases hn:v1 - (v0.length:Int)<0
 · exact ⟨-1,xl1u.eq v0 v1 (by simp only [xl1u.t,e0,dec_t hn,cond_true]),by omega,fun h => by omega⟩
 · have key:∀ i,i≤v0.length→∀ m:Int,0≤m→m≤1048576→∃ r,xl1u.l5 v0 m (i:Int)=some r∧r≤m∧(0≤r→((((v0.drop i).map (szT (.pair (.int .i64) (.sl (.pair (.sl (.int .i64)) (.int .i64)))))).sum:Nat):Int)+r=m):=by
    refine upto ?_ ?_
    · intro m h1 h2
      exact ⟨m,xl1u.eq5 v0 m (v0.length:Int) (by simp only [xl1u.t5,ix_lt,Nat.lt_irrefl,decide_false,cond_false]),Int.le_refl _,fun _ => by simp⟩
    · intro i hi ih m h1 h2
      obtain ⟨r,hr,hr1,hr2⟩:=xl26_ok ((v0.getD i ((0:Int),[])).fst) ((v0.getD i ((0:Int),[])).snd) m (hw.2 _ (getD_mem ((0:Int),[]) hi)) h1 h2
      by_cases hneg:r<0
      · exact ⟨-1,xl1u.eq5 v0 m (i:Int) (by simp only [xl1u.t5,ix_lt,ix_nn,ix_nat,dec_t hi,cond_true,hr,Option.bind_some,dec_t hneg]),by omega,fun h => by omega⟩
      · obtain ⟨r2, g0, g1, g2⟩ := ih r (by omega) (by omega)
        refine ⟨r2,xl1u.eq5 v0 m (i:Int) (by simp only [xl1u.t5,ix_lt,ix_nn,ix_nat,dec_t hi,cond_true,hr,Option.bind_some,dec_f hneg,cond_false,wrap_succ (show i<9223372036854775807 by omega),g0]),by omega,fun h => ?_⟩
        have k1:=hr2 (by omega)
        have k2:=g2 h
        rw [drop_getD ((0:Int),[]) hi]
        simp only [List.map_cons,List.sum_cons]
        simp only [szT] at k1 k2 ⊢
        omega
   obtain ⟨r,g0,g1,g2⟩:=key 0 (Nat.zero_le _) (v1 - (v0.length:Int)) (by omega) (by omega)
   refine ⟨r,xl1u.eq v0 v1 (by simp only [xl1u.t,e0,dec_f hn,cond_false]; exact g0),by omega,fun h => ?_⟩
   have:=g2 h
   simp only [List.drop_zero] at this
   simp only [szT] at this ⊢
   omega
theorem xl25_ok (v0:Zg) (v1:Int) (hw:WfT (.sl (.sl (.int .i64))) v0) (h1:0≤v1) (h2:v1≤1048576):∃ r,xl25 v0 v1=some r∧r≤v1∧(0≤r→(szT (.sl (.sl (.int .i64))) v0:Int)+r=v1):=by
 have hl:=hw.1
 have e0:IntKind.i64.wrap (v1 - (v0.length:Int))=v1 - (v0.length:Int):=wrap_id (by omega) (by omega)
 by_cases hn:v1 - (v0.length:Int)<0
 · exact ⟨-1,xl25.eq v0 v1 (by simp only [xl25.t,e0,dec_t hn,cond_true]),by omega,fun h => by omega⟩
 · have key:∀ i,i≤v0.length→∀ m:Int,0≤m→m≤1048576→∃ r,xl25.l5 v0 m (i:Int)=some r∧r≤m∧(0≤r→((((v0.drop i).map (szT (.sl (.int .i64)))).sum:Nat):Int)+r=m):=by
    refine upto ?_ ?_
    · intro m h1 h2
      exact ⟨m,xl25.eq5 v0 m (v0.length:Int) (by simp only [xl25.t5,ix_lt,Nat.lt_irrefl,decide_false,cond_false]),Int.le_refl _,fun _ => by simp⟩
    · intro i hi ih m h1 h2
      obtain ⟨r,hr,hr1,hr2⟩:=xl2i_ok (v0.getD i []) m (hw.2 _ (getD_mem [] hi)) h1 h2
      by_cases hneg:r<0
      · exact ⟨-1,xl25.eq5 v0 m (i:Int) (by simp only [xl25.t5,ix_lt,ix_nn,ix_nat,dec_t hi,cond_true,hr,Option.bind_some,dec_t hneg]),by omega,fun h => by omega⟩
      · obtain ⟨r2, g0, g1, g2⟩ := ih r (by omega) (by omega)
        refine ⟨r2,xl25.eq5 v0 m (i:Int) (by simp only [xl25.t5,ix_lt,ix_nn,ix_nat,dec_t hi,cond_true,hr,Option.bind_some,dec_f hneg,cond_false,wrap_succ (show i<9223372036854775807 by omega),g0]),by omega,fun h => ?_⟩
        have k1:=hr2 (by omega)
        have k2:=g2 h
        rw [drop_getD [] hi]
        simp only [List.map_cons,List.sum_cons]
        simp only [szT] at k1 k2 ⊢
        omega
   obtain ⟨r,g0,g1,g2⟩:=key 0 (Nat.zero_le _) (v1 - (v0.length:Int)) (by omega) (by omega)
   refine ⟨r,xl25.eq v0 v1 (by simp only [xl25.t,e0,dec_f hn,cond_false]; exact g0),by omega,fun h => ?_⟩
   have:=g2 h
   simp only [List.drop_zero] at this
   simp only [szT] at this ⊢
   omega
theorem xl2j_id (v0:List Int) (h:szT (.sl (.int .i64)) v0≤1073741824):xl2j v0=some v0:=by
 have hlen:v0.length≤1073741824:=Nat.le_trans (szT_len (t:=(.int .i64))) h
 have key:∀ i,i≤v0.length→∀ a:List Int,a.length=v0.length→a.take i=v0.take i→xl2j.l3 v0 a (i:Int)=some v0:=by
  refine upto ?_ ?_
  · intro a ha hh
    have ea:=take_all_eq ha hh
    subst ea
    exact xl2j.eq3 a a (a.length:Int) (by simp only [xl2j.t3,ix_lt,Nat.lt_irrefl,decide_false,cond_false])
  · intro i hi ih a ha hh
    have g:=ih (a.set i (v0.getD i (0:Int))) (by simp [ha]) (set_step hi ha hh)
    have hia:i<a.length:=by omega
    refine xl2j.eq3 v0 a (i:Int) ?_
    simp only [xl2j.t3,ix_lt,ix_nn,ix_nat,dec_t hi,dec_t hia,cond_true,wrap_succ (show i<9223372036854775807 by omega)]
    exact g
 refine xl2j.eq v0 ?_
 have h3:((v0.length:Int)≤((4294967296:Nat):Int)):=by omega
 simp only [xl2j.t,decide_true,dec_t h3,cond_true,ix_nat]
 exact key 0 (Nat.zero_le _) _ (by simp) (by simp)
theorem xl2r_id (v0:List Int) (h:szT (.sl (.int .i64)) v0≤1073741824):xl2r v0=some v0:=by
 have e1:=xl2j_id v0 (by simp only [szT] at h ⊢; omega)
 exact xl2r.eq v0 (by simp only [xl2r.t,e1,Option.bind_some])
theorem xl1b_id (v0:List Int) (v1:Int) (h:szT (.pair (.sl (.int .i64)) (.int .i64)) (v0,v1)≤1073741824):xl1b v0 v1=some (v0,v1):=by
 have e1:=xl2r_id v0 (by simp only [szT] at h ⊢; omega)
 exact xl1b.eq v0 v1 (by simp only [xl1b.t,e1,Option.bind_some])
theorem xl14_id (v0:Zd) (h:szT (.sl (.pair (.sl (.int .i64)) (.int .i64))) v0≤1073741824):xl14 v0=some v0:=by
 have hlen:v0.length≤1073741824:=Nat.le_trans (szT_len (t:=(.pair (.sl (.int .i64)) (.int .i64)))) h
 have key:∀ i,i≤v0.length→∀ a:Zd,a.length=v0.length→a.take i=v0.take i→xl14.l3 v0 a (i:Int)=some v0:=by
  refine upto ?_ ?_
  · intro a ha hh
    have ea:=take_all_eq ha hh
    subst ea
    exact xl14.eq3 a a (a.length:Int) (by simp only [xl14.t3,ix_lt,Nat.lt_irrefl,decide_false,cond_false])
  · intro i hi ih a ha hh
    have hc:=xl1b_id ((v0.getD i ([],(0:Int))).fst) ((v0.getD i ([],(0:Int))).snd) (Nat.le_trans (szT_mem (t:=(.pair (.sl (.int .i64)) (.int .i64))) (getD_mem ([],(0:Int)) hi)) h)
    have g:=ih (a.set i (v0.getD i ([],(0:Int)))) (by simp [ha]) (set_step hi ha hh)
    have hia:i<a.length:=by omega
    refine xl14.eq3 v0 a (i:Int) ?_
    simp only [xl14.t3,ix_lt,ix_nn,ix_nat,dec_t hi,dec_t hia,cond_true,hc,Option.bind_some,wrap_succ (show i<9223372036854775807 by omega)]
    exact g
 refine xl14.eq v0 ?_
 have h3:((v0.length:Int)≤((4294967296:Nat):Int)):=by omega
 simp only [xl14.t,decide_true,dec_t h3,cond_true,ix_nat]
 exact key 0 (Nat.zero_le _) _ (by simp) (by simp)
theorem xl28_id (v0:Int) (v1:Zd) (h:szT (.pair (.int .i64) (.sl (.pair (.sl (.int .i64)) (.int .i64)))) (v0,v1)≤1073741824):xl28 v0 v1=some (v0,v1):=by
 have e1:=xl14_id v1 (by simp only [szT] at h ⊢; omega)
 exact xl28.eq v0 v1 (by simp only [xl28.t,e1,Option.bind_some])
theorem xl1v_id (v0:Zb) (h:szT (.sl (.pair (.int .i64) (.sl (.pair (.sl (.int .i64)) (.int .i64))))) v0≤1073741824):xl1v v0=some v0:=by
 have hlen:v0.length≤1073741824:=Nat.le_trans (szT_len (t:=(.pair (.int .i64) (.sl (.pair (.sl (.int .i64)) (.int .i64)))))) h
 have key:∀ i,i≤v0.length→∀ a:Zb,a.length=v0.length→a.take i=v0.take i→xl1v.l3 v0 a (i:Int)=some v0:=by
  refine upto ?_ ?_
  · intro a ha hh
    have ea:=take_all_eq ha hh
    subst ea
    exact xl1v.eq3 a a (a.length:Int) (by simp only [xl1v.t3,ix_lt,Nat.lt_irrefl,decide_false,cond_false])
  · intro i hi ih a ha hh
    have hc:=xl28_id ((v0.getD i ((0:Int),[])).fst) ((v0.getD i ((0:Int),[])).snd) (Nat.le_trans (szT_mem (t:=(.pair (.int .i64) (.sl (.pair (.sl (.int .i64)) (.int .i64))))) (getD_mem ((0:Int),[]) hi)) h)
    have g:=ih (a.set i (v0.getD i ((0:Int),[]))) (by simp [ha]) (set_step hi ha hh)
    have hia:i<a.length:=by omega
    refine xl1v.eq3 v0 a (i:Int) ?_
    simp only [xl1v.t3,ix_lt,ix_nn,ix_nat,dec_t hi,dec_t hia,cond_true,hc,Option.bind_some,wrap_succ (show i<9223372036854775807 by omega)]
    exact g
 refine xl1v.eq v0 ?_
 have h3:((v0.length:Int)≤((4294967296:Nat):Int)):=by omega
 simp only [xl1v.t,decide_true,dec_t h3,cond_true,ix_nat]
 exact key 0 (Nat.zero_le _) _ (by simp) (by simp)
theorem xl27_id (v0:Zg) (h:szT (.sl (.sl (.int .i64))) v0≤1073741824):xl27 v0=some v0:=by
 have hlen:v0.length≤1073741824:=Nat.le_trans (szT_len (t:=(.sl (.int .i64)))) h
 have key:∀ i,i≤v0.length→∀ a:Zg,a.length=v0.length→a.take i=v0.take i→xl27.l3 v0 a (i:Int)=some v0:=by
  refine upto ?_ ?_
  · intro a ha hh
    have ea:=take_all_eq ha hh
    subst ea
    exact xl27.eq3 a a (a.length:Int) (by simp only [xl27.t3,ix_lt,Nat.lt_irrefl,decide_false,cond_false])
  · intro i hi ih a ha hh
    have hc:=xl2j_id (v0.getD i []) (Nat.le_trans (szT_mem (t:=(.sl (.int .i64))) (getD_mem [] hi)) h)
    have g:=ih (a.set i (v0.getD i [])) (by simp [ha]) (set_step hi ha hh)
    have hia:i<a.length:=by omega
    refine xl27.eq3 v0 a (i:Int) ?_
    simp only [xl27.t3,ix_lt,ix_nn,ix_nat,dec_t hi,dec_t hia,cond_true,hc,Option.bind_some,wrap_succ (show i<9223372036854775807 by omega)]
    exact g
 refine xl27.eq v0 ?_
 have h3:((v0.length:Int)≤((4294967296:Nat):Int)):=by omega
 simp only [xl27.t,decide_true,dec_t h3,cond_true,ix_nat]
 exact key 0 (Nat.zero_le _) _ (by simp) (by simp)
theorem xs08_ok (v0:List Int) (p:Int→Bool) (hl:v0.length≤4611686018427387904) (hp:∀ x,x∈v0→xi0j (x)=some (p x)):∃ r:Int,xs08 v0=some r∧decide (r ≥ 0)=v0.any p:=by
 have key:∀ i,i≤v0.length→∃ r:Int,xs08.l2 (v0) ((↑v0.length:Int)) (i:Int)=some r∧decide (r ≥ 0)=(v0.drop i).any p:=by
  refine upto ?_ ?_
  · exact ⟨-1,xs08.eq2 (v0) ((↑v0.length:Int)) (v0.length:Int) (by simp only [xs08.t2,ix_lt,Nat.lt_irrefl,decide_false,cond_false]),by simp⟩
  · intro i hi ih
    have hc:=hp _ (getD_mem (0:Int) hi)
    rw [drop_getD (0:Int) hi,List.any_cons]
    cases hx:p (v0.getD i (0:Int)) with
    | true => exact ⟨i,xs08.eq2 (v0) ((↑v0.length:Int)) (i:Int) (by simp only [xs08.t2,ix_lt,ix_nn,ix_nat,dec_t hi,cond_true,hc,hx,Option.bind_some]),by simp⟩
    | false =>
      obtain ⟨r,g0,g1⟩:=ih
      exact ⟨r,xs08.eq2 (v0) ((↑v0.length:Int)) (i:Int) (by simp only [xs08.t2,ix_lt,ix_nn,ix_nat,dec_t hi,cond_true,cond_false,hc,hx,Option.bind_some,wrap_succ (show i<9223372036854775807 by omega),g0]),by rw [g1,Bool.false_or]⟩
 obtain ⟨r,g0,g1⟩:=key 0 (Nat.zero_le _)
 exact ⟨r,xs08.eq v0 (by simp only [xs08.t]; exact g0),by simpa using g1⟩
theorem xs05_ok (v0:List Int) (p:Int→Bool) (hl:v0.length≤4611686018427387904) (hp:∀ x,x∈v0→xi0j (x)=some (p x)):xs05 v0=some (v0.any p):=by
 obtain ⟨r,g0,g1⟩:=xs08_ok (v0) p hl hp
 exact xs05.eq v0 (by simp only [xs05.t,g0,Option.bind_some,g1])
theorem xi0l_ok (v0:List Int) (p:Int→Bool) (hl:v0.length≤4611686018427387904) (hp:∀ x,x∈v0→xi2b ((x))=some (p x)):xi0l v0=some (v0.all p):=by
 have g:=xs05_ok (v0) (fun x => !p x) hl (fun x hx => xi0j.eq (x) (by simp only [xi0j.t,hp x hx,Option.bind_some]))
 exact xi0l.eq v0 (by simp only [xi0l.t,g,Option.bind_some,List.all_eq_not_any_not])
theorem xs01_ok (v0:Zd) (p:(List Int) × (Int)→Bool) (hl:v0.length≤4611686018427387904) (hp:∀ x,x∈v0→xi0e ((x).fst) ((x).snd)=some (p x)):∃ r:Int,xs01 v0=some r∧decide (r ≥ 0)=v0.any p:=by
 have key:∀ i,i≤v0.length→∃ r:Int,xs01.l2 (v0) ((↑v0.length:Int)) (i:Int)=some r∧decide (r ≥ 0)=(v0.drop i).any p:=by
  refine upto ?_ ?_
  · exact ⟨-1,xs01.eq2 (v0) ((↑v0.length:Int)) (v0.length:Int) (by simp only [xs01.t2,ix_lt,Nat.lt_irrefl,decide_false,cond_false]),by simp⟩
  · intro i hi ih
    have hc:=hp _ (getD_mem ([],(0:Int)) hi)
    rw [drop_getD ([],(0:Int)) hi,List.any_cons]
    cases hx:p (v0.getD i ([],(0:Int))) with
    | true => exact ⟨i,xs01.eq2 (v0) ((↑v0.length:Int)) (i:Int) (by simp only [xs01.t2,ix_lt,ix_nn,ix_nat,dec_t hi,cond_true,hc,hx,Option.bind_some]),by simp⟩
    | false =>
      obtain ⟨r,g0,g1⟩:=ih
      exact ⟨r,xs01.eq2 (v0) ((↑v0.length:Int)) (i:Int) (by simp only [xs01.t2,ix_lt,ix_nn,ix_nat,dec_t hi,cond_true,cond_false,hc,hx,Option.bind_some,wrap_succ (show i<9223372036854775807 by omega),g0]),by rw [g1,Bool.false_or]⟩
 obtain ⟨r,g0,g1⟩:=key 0 (Nat.zero_le _)
 exact ⟨r,xs01.eq v0 (by simp only [xs01.t]; exact g0),by simpa using g1⟩
theorem xs00_ok (v0:Zd) (p:(List Int) × (Int)→Bool) (hl:v0.length≤4611686018427387904) (hp:∀ x,x∈v0→xi0e ((x).fst) ((x).snd)=some (p x)):xs00 v0=some (v0.any p):=by
 obtain ⟨r,g0,g1⟩:=xs01_ok (v0) p hl hp
 exact xs00.eq v0 (by simp only [xs00.t,g0,Option.bind_some,g1])
theorem xi0h_ok (v0:Zd) (p:(List Int) × (Int)→Bool) (hl:v0.length≤4611686018427387904) (hp:∀ x,x∈v0→xi1n (((x).fst)) (((x).snd))=some (p x)):xi0h v0=some (v0.all p):=by
 have g:=xs00_ok (v0) (fun x => !p x) hl (fun x hx => xi0e.eq ((x).fst) ((x).snd) (by simp only [xi0e.t,hp x hx,Option.bind_some]))
 exact xi0h.eq v0 (by simp only [xi0h.t,g,Option.bind_some,List.all_eq_not_any_not])
theorem xs06_ok (v0:Zg) (v1:List Int) (v2:List Int) (p:List Int→Bool) (hl:v0.length≤4611686018427387904) (hp:∀ x,x∈v0→xi0i (x) (v1) (v2)=some (p x)):∃ r:Int,xs06 v0 v1 v2=some r∧decide (r ≥ 0)=v0.any p:=by
 have key:∀ i,i≤v0.length→∃ r:Int,xs06.l2 (v0) (v1) (v2) ((↑v0.length:Int)) (i:Int)=some r∧decide (r ≥ 0)=(v0.drop i).any p:=by
  refine upto ?_ ?_
  · exact ⟨-1,xs06.eq2 (v0) (v1) (v2) ((↑v0.length:Int)) (v0.length:Int) (by simp only [xs06.t2,ix_lt,Nat.lt_irrefl,decide_false,cond_false]),by simp⟩
  · intro i hi ih
    have hc:=hp _ (getD_mem [] hi)
    rw [drop_getD [] hi,List.any_cons]
    cases hx:p (v0.getD i []) with
    | true => exact ⟨i,xs06.eq2 (v0) (v1) (v2) ((↑v0.length:Int)) (i:Int) (by simp only [xs06.t2,ix_lt,ix_nn,ix_nat,dec_t hi,cond_true,hc,hx,Option.bind_some]),by simp⟩
    | false =>
      obtain ⟨r,g0,g1⟩:=ih
      exact ⟨r,xs06.eq2 (v0) (v1) (v2) ((↑v0.length:Int)) (i:Int) (by simp only [xs06.t2,ix_lt,ix_nn,ix_nat,dec_t hi,cond_true,cond_false,hc,hx,Option.bind_some,wrap_succ (show i<9223372036854775807 by omega),g0]),by rw [g1,Bool.false_or]⟩
 obtain ⟨r,g0,g1⟩:=key 0 (Nat.zero_le _)
 exact ⟨r,xs06.eq v0 v1 v2 (by simp only [xs06.t]; exact g0),by simpa using g1⟩
theorem xs03_ok (v0:Zg) (v1:List Int) (v2:List Int) (p:List Int→Bool) (hl:v0.length≤4611686018427387904) (hp:∀ x,x∈v0→xi0i (x) (v1) (v2)=some (p x)):xs03 v0 v1 v2=some (v0.any p):=by
 obtain ⟨r,g0,g1⟩:=xs06_ok (v0) (v1) (v2) p hl hp
 exact xs03.eq v0 v1 v2 (by simp only [xs03.t,g0,Option.bind_some,g1])
theorem xi0k_ok (v0:Zg) (v1:List Int) (v2:List Int) (p:List Int→Bool) (hl:v0.length≤4611686018427387904) (hp:∀ x,x∈v0→xi1p ((x)) ((v1)) ((v2))=some (p x)):xi0k v0 v1 v2=some (v0.all p):=by
 have g:=xs03_ok (v0) (v1) (v2) (fun x => !p x) hl (fun x hx => xi0i.eq (x) (v1) (v2) (by simp only [xi0i.t,hp x hx,Option.bind_some]))
 exact xi0k.eq v0 v1 v2 (by simp only [xi0k.t,g,Option.bind_some,List.all_eq_not_any_not])
theorem xs0g_ok (v0:Zg) (v1:Int) (p:List Int→Bool) (hl:v0.length≤4611686018427387904) (hp:∀ x,x∈v0→xi18 (x) (v1)=some (p x)):∃ r:Int,xs0g v0 v1=some r∧decide (r ≥ 0)=v0.any p:=by
 have key:∀ i,i≤v0.length→∃ r:Int,xs0g.l2 (v0) (v1) ((↑v0.length:Int)) (i:Int)=some r∧decide (r ≥ 0)=(v0.drop i).any p:=by
  refine upto ?_ ?_
  · exact ⟨-1,xs0g.eq2 (v0) (v1) ((↑v0.length:Int)) (v0.length:Int) (by simp only [xs0g.t2,ix_lt,Nat.lt_irrefl,decide_false,cond_false]),by simp⟩
  · intro i hi ih
    have hc:=hp _ (getD_mem [] hi)
    rw [drop_getD [] hi,List.any_cons]
    cases hx:p (v0.getD i []) with
    | true => exact ⟨i,xs0g.eq2 (v0) (v1) ((↑v0.length:Int)) (i:Int) (by simp only [xs0g.t2,ix_lt,ix_nn,ix_nat,dec_t hi,cond_true,hc,hx,Option.bind_some]),by simp⟩
    | false =>
      obtain ⟨r,g0,g1⟩:=ih
      exact ⟨r,xs0g.eq2 (v0) (v1) ((↑v0.length:Int)) (i:Int) (by simp only [xs0g.t2,ix_lt,ix_nn,ix_nat,dec_t hi,cond_true,cond_false,hc,hx,Option.bind_some,wrap_succ (show i<9223372036854775807 by omega),g0]),by rw [g1,Bool.false_or]⟩
 obtain ⟨r,g0,g1⟩:=key 0 (Nat.zero_le _)
 exact ⟨r,xs0g.eq v0 v1 (by simp only [xs0g.t]; exact g0),by simpa using g1⟩
theorem xs0c_ok (v0:Zg) (v1:Int) (p:List Int→Bool) (hl:v0.length≤4611686018427387904) (hp:∀ x,x∈v0→xi18 (x) (v1)=some (p x)):xs0c v0 v1=some (v0.any p):=by
 obtain ⟨r,g0,g1⟩:=xs0g_ok (v0) (v1) p hl hp
 exact xs0c.eq v0 v1 (by simp only [xs0c.t,g0,Option.bind_some,g1])
theorem xl2h_rf (v0:List Int) (h:szT (.sl (.int .i64)) v0≤1073741824):xl2h v0 v0=some true:=by
 have hlen:v0.length≤1073741824:=Nat.le_trans (szT_len (t:=(.int .i64))) h
 have key:∀ i,i≤v0.length→xl2h.l4 v0 v0 (i:Int)=some true:=by
  refine upto ?_ ?_
  · exact xl2h.eq4 v0 v0 (v0.length:Int) (by simp only [xl2h.t4,ix_lt,Nat.lt_irrefl,decide_false,cond_false])
  · intro i hi ih
    exact xl2h.eq4 v0 v0 (i:Int) (by simp only [xl2h.t4,ix_lt,ix_nn,ix_nat,dec_t hi,cond_true,cond_false,bne_ref,beq_ref,bang_t,wrap_succ (show i<9223372036854775807 by omega),ih])
 exact xl2h.eq v0 v0 (by simp only [xl2h.t,bne_ref,cond_false]; exact key 0 (Nat.zero_le _))
theorem xl2p_rf (v0:List Int) (h:szT (.sl (.int .i64)) v0≤1073741824):xl2p v0 v0=some true:=by
 have e1:=xl2h_rf v0 (by simp only [szT] at h ⊢; omega)
 exact xl2p.eq v0 v0 (by simp only [xl2p.t,e1,Option.bind_some,bne_ref,beq_ref,bang_t,cond_false])
theorem xl19_rf (v0:List Int) (v1:Int) (h:szT (.pair (.sl (.int .i64)) (.int .i64)) (v0,v1)≤1073741824):xl19 v0 v1 v0 v1=some true:=by
 have e1:=xl2p_rf v0 (by simp only [szT] at h ⊢; omega)
 exact xl19.eq v0 v1 v0 v1 (by simp only [xl19.t,e1,Option.bind_some,bne_ref,beq_ref,bang_t,cond_false])
theorem xl12_rf (v0:Zd) (h:szT (.sl (.pair (.sl (.int .i64)) (.int .i64))) v0≤1073741824):xl12 v0 v0=some true:=by
 have hlen:v0.length≤1073741824:=Nat.le_trans (szT_len (t:=(.pair (.sl (.int .i64)) (.int .i64)))) h
 have key:∀ i,i≤v0.length→xl12.l4 v0 v0 (i:Int)=some true:=by
  refine upto ?_ ?_
  · exact xl12.eq4 v0 v0 (v0.length:Int) (by simp only [xl12.t4,ix_lt,Nat.lt_irrefl,decide_false,cond_false])
  · intro i hi ih
    have hc:=xl19_rf ((v0.getD i ([],(0:Int))).fst) ((v0.getD i ([],(0:Int))).snd) (Nat.le_trans (szT_mem (t:=(.pair (.sl (.int .i64)) (.int .i64))) (getD_mem ([],(0:Int)) hi)) h)
    exact xl12.eq4 v0 v0 (i:Int) (by simp only [xl12.t4,ix_lt,ix_nn,ix_nat,dec_t hi,cond_true,cond_false,bne_ref,beq_ref,bang_t,hc,Option.bind_some,bang_t,wrap_succ (show i<9223372036854775807 by omega),ih])
 exact xl12.eq v0 v0 (by simp only [xl12.t,bne_ref,cond_false]; exact key 0 (Nat.zero_le _))
theorem xl24_rf (v0:Int) (v1:Zd) (h:szT (.pair (.int .i64) (.sl (.pair (.sl (.int .i64)) (.int .i64)))) (v0,v1)≤1073741824):xl24 v0 v1 v0 v1=some true:=by
 have e1:=xl12_rf v1 (by simp only [szT] at h ⊢; omega)
 exact xl24.eq v0 v1 v0 v1 (by simp only [xl24.t,e1,Option.bind_some,bne_ref,beq_ref,bang_t,cond_false])
theorem xl1s_rf (v0:Zb) (h:szT (.sl (.pair (.int .i64) (.sl (.pair (.sl (.int .i64)) (.int .i64))))) v0≤1073741824):xl1s v0 v0=some true:=by
 have hlen:v0.length≤1073741824:=Nat.le_trans (szT_len (t:=(.pair (.int .i64) (.sl (.pair (.sl (.int .i64)) (.int .i64)))))) h
 have key:∀ i,i≤v0.length→xl1s.l4 v0 v0 (i:Int)=some true:=by
  refine upto ?_ ?_
  · exact xl1s.eq4 v0 v0 (v0.length:Int) (by simp only [xl1s.t4,ix_lt,Nat.lt_irrefl,decide_false,cond_false])
  · intro i hi ih
    have hc:=xl24_rf ((v0.getD i ((0:Int),[])).fst) ((v0.getD i ((0:Int),[])).snd) (Nat.le_trans (szT_mem (t:=(.pair (.int .i64) (.sl (.pair (.sl (.int .i64)) (.int .i64))))) (getD_mem ((0:Int),[]) hi)) h)
    exact xl1s.eq4 v0 v0 (i:Int) (by simp only [xl1s.t4,ix_lt,ix_nn,ix_nat,dec_t hi,cond_true,cond_false,bne_ref,beq_ref,bang_t,hc,Option.bind_some,bang_t,wrap_succ (show i<9223372036854775807 by omega),ih])
 exact xl1s.eq v0 v0 (by simp only [xl1s.t,bne_ref,cond_false]; exact key 0 (Nat.zero_le _))
theorem xl23_rf (v0:Zg) (h:szT (.sl (.sl (.int .i64))) v0≤1073741824):xl23 v0 v0=some true:=by
 have hlen:v0.length≤1073741824:=Nat.le_trans (szT_len (t:=(.sl (.int .i64)))) h
 have key:∀ i,i≤v0.length→xl23.l4 v0 v0 (i:Int)=some true:=by
  refine upto ?_ ?_
  · exact xl23.eq4 v0 v0 (v0.length:Int) (by simp only [xl23.t4,ix_lt,Nat.lt_irrefl,decide_false,cond_false])
  · intro i hi ih
    have hc:=xl2h_rf (v0.getD i []) (Nat.le_trans (szT_mem (t:=(.sl (.int .i64))) (getD_mem [] hi)) h)
    exact xl23.eq4 v0 v0 (i:Int) (by simp only [xl23.t4,ix_lt,ix_nn,ix_nat,dec_t hi,cond_true,cond_false,bne_ref,beq_ref,bang_t,hc,Option.bind_some,bang_t,wrap_succ (show i<9223372036854775807 by omega),ih])
 exact xl23.eq v0 v0 (by simp only [xl23.t,bne_ref,cond_false]; exact key 0 (Nat.zero_le _))
theorem xl10_ok (v0:List Int) (v1:Int) (h0:0≤v1) (h1:v1+(cntT (.sl (.int .i64)) v0:Int)≤4611686018427387904) (h2:szT (.sl (.int .i64)) v0≤1073741824):xl10 v0 v1=some ((mrL (mrE (.int .i64)) v0 v1).2,(mrL (mrE (.int .i64)) v0 v1).1):=by
 have key : ∀ (rest pre : List Int) (k : Int), 0 ≤ k → k + (cntT (.sl (.int .i64)) rest : Int) ≤ 4611686018427387904 → pre.length + szT (.sl (.int .i64)) rest ≤ 1073741824 →
  xl10.l2 (pre ++ rest) k (pre.length:Int)=some ((mrL (mrE (.int .i64)) rest k).2,pre ++ (mrL (mrE (.int .i64)) rest k).1):=by
  intro rest
  induction rest with
  | nil =>
    intro pre k _ _ _
    exact xl10.eq2 _ _ _ (by simp only [xl10.t2,List.append_nil,ix_lt,Nat.lt_irrefl,decide_false,cond_false,mrL_nil])
  | cons x r ih =>
    intro pre k hk hb hl
    rw [cnt_cons] at hb
    simp only [cntT] at hb
    simp only [szT,List.length_cons,List.map_cons,List.sum_cons] at hl
    have g:=ih (pre ++ [(mrE (.int .i64) x k).1]) (mrE (.int .i64) x k).2 (by rw [mrE_cnt]; omega) (by rw [mrE_cnt]; simp only [cntT] at hb ⊢; omega) (by simp only [szT,List.length_append,List.length_cons,List.length_nil] at hl ⊢; omega)
    refine xl10.eq2 _ _ _ ?_
    simp only [mrL_cons,mrE_int,mrE_bool,mrE_sl,mrE_pair]
    simp only [xl10.t2,lenI_mid,ix_nn,ix_nat,len_mid,set_mid,getD_mid,cond_true,cond_false,bne_ref,beq_ref,bang_t,wrap_k (k:=k) (by omega) (by omega),wrap_succ (show pre.length<9223372036854775807 by omega),Option.bind_some,dec_rfl,Bool.and_true]
    rw [push_mid]
    simpa [mrE_int,mrE_bool,mrE_sl,mrE_pair] using g
 exact xl10.eq v0 v1 (by simp only [xl10.t]; exact key v0 [] v1 h0 h1 (by simpa using h2))
theorem xl0n_ok (v0:Zd) (v1:Int) (h0:0≤v1) (h1:v1+(cntT (.sl (.pair (.sl (.int .i64)) (.int .i64))) v0:Int)≤4611686018427387904) (h2:szT (.sl (.pair (.sl (.int .i64)) (.int .i64))) v0≤1073741824):xl0n v0 v1=some ((mrL (mrE (.pair (.sl (.int .i64)) (.int .i64))) v0 v1).2,(mrL (mrE (.pair (.sl (.int .i64)) (.int .i64))) v0 v1).1):=by
 have key : ∀ (rest pre : Zd) (k : Int), 0 ≤ k → k + (cntT (.sl (.pair (.sl (.int .i64)) (.int .i64))) rest : Int) ≤ 4611686018427387904 → pre.length + szT (.sl (.pair (.sl (.int .i64)) (.int .i64))) rest ≤ 1073741824 →
  xl0n.l2 (pre ++ rest) k (pre.length:Int)=some ((mrL (mrE (.pair (.sl (.int .i64)) (.int .i64))) rest k).2,pre ++ (mrL (mrE (.pair (.sl (.int .i64)) (.int .i64))) rest k).1):=by
  intro rest
  induction rest with
  | nil =>
    intro pre k _ _ _
    exact xl0n.eq2 _ _ _ (by simp only [xl0n.t2,List.append_nil,ix_lt,Nat.lt_irrefl,decide_false,cond_false,mrL_nil])
  | cons x r ih =>
    intro pre k hk hb hl
    rw [cnt_cons] at hb
    simp only [cntT] at hb
    simp only [szT,List.length_cons,List.map_cons,List.sum_cons] at hl
    have n1:=mrL_cnt (t:=(.int .i64)) x.1 k
    simp only [cntT] at n1
    have c1:=xl10_ok x.1 k (by omega) (by simp only [cntT]; omega) (by simp only [szT]; omega)
    have g:=ih (pre ++ [(mrE (.pair (.sl (.int .i64)) (.int .i64)) x k).1]) (mrE (.pair (.sl (.int .i64)) (.int .i64)) x k).2 (by rw [mrE_cnt]; omega) (by rw [mrE_cnt]; simp only [cntT] at hb ⊢; omega) (by simp only [szT,List.length_append,List.length_cons,List.length_nil] at hl ⊢; omega)
    refine xl0n.eq2 _ _ _ ?_
    simp only [mrL_cons,mrE_int,mrE_bool,mrE_sl,mrE_pair]
    simp only [xl0n.t2,lenI_mid,ix_nn,ix_nat,len_mid,set_mid,getD_mid,cond_true,cond_false,bne_ref,beq_ref,bang_t,wrap_k (k:=(mrL (mrE (.int .i64)) x.1 k).2) (by omega) (by omega),c1,wrap_succ (show pre.length<9223372036854775807 by omega),Option.bind_some,dec_rfl,Bool.and_true]
    rw [push_mid]
    simpa [mrE_int,mrE_bool,mrE_sl,mrE_pair] using g
 exact xl0n.eq v0 v1 (by simp only [xl0n.t]; exact key v0 [] v1 h0 h1 (by simpa using h2))
theorem xl0v_ok (v0:Zb) (v1:Int) (h0:0≤v1) (h1:v1+(cntT (.sl (.pair (.int .i64) (.sl (.pair (.sl (.int .i64)) (.int .i64))))) v0:Int)≤4611686018427387904) (h2:szT (.sl (.pair (.int .i64) (.sl (.pair (.sl (.int .i64)) (.int .i64))))) v0≤1073741824):xl0v v0 v1=some ((mrL (mrE (.pair (.int .i64) (.sl (.pair (.sl (.int .i64)) (.int .i64))))) v0 v1).2,(mrL (mrE (.pair (.int .i64) (.sl (.pair (.sl (.int .i64)) (.int .i64))))) v0 v1).1):=by
 have key : ∀ (rest pre : Zb) (k : Int), 0 ≤ k → k + (cntT (.sl (.pair (.int .i64) (.sl (.pair (.sl (.int .i64)) (.int .i64))))) rest : Int) ≤ 4611686018427387904 → pre.length + szT (.sl (.pair (.int .i64) (.sl (.pair (.sl (.int .i64)) (.int .i64))))) rest ≤ 1073741824 →
  xl0v.l2 (pre ++ rest) k (pre.length:Int)=some ((mrL (mrE (.pair (.int .i64) (.sl (.pair (.sl (.int .i64)) (.int .i64))))) rest k).2,pre ++ (mrL (mrE (.pair (.int .i64) (.sl (.pair (.sl (.int .i64)) (.int .i64))))) rest k).1):=by
  intro rest
  induction rest with
  | nil =>
    intro pre k _ _ _
    exact xl0v.eq2 _ _ _ (by simp only [xl0v.t2,List.append_nil,ix_lt,Nat.lt_irrefl,decide_false,cond_false,mrL_nil])
  | cons x r ih =>
    intro pre k hk hb hl
    rw [cnt_cons] at hb
    simp only [cntT] at hb
    simp only [szT,List.length_cons,List.map_cons,List.sum_cons] at hl
    have n1:=mrL_cnt (t:=(.pair (.sl (.int .i64)) (.int .i64))) x.2 (k+1)
    simp only [cntT] at n1
    have c1:=xl0n_ok x.2 (k+1) (by omega) (by simp only [cntT]; omega) (by simp only [szT]; omega)
    have g:=ih (pre ++ [(mrE (.pair (.int .i64) (.sl (.pair (.sl (.int .i64)) (.int .i64)))) x k).1]) (mrE (.pair (.int .i64) (.sl (.pair (.sl (.int .i64)) (.int .i64)))) x k).2 (by rw [mrE_cnt]; omega) (by rw [mrE_cnt]; simp only [cntT] at hb ⊢; omega) (by simp only [szT,List.length_append,List.length_cons,List.length_nil] at hl ⊢; omega)
    refine xl0v.eq2 _ _ _ ?_
    simp only [mrL_cons,mrE_int,mrE_bool,mrE_sl,mrE_pair]
    simp only [xl0v.t2,lenI_mid,ix_nn,ix_nat,len_mid,set_mid,getD_mid,cond_true,cond_false,bne_ref,beq_ref,bang_t,wrap_k (k:=k) (by omega) (by omega),c1,wrap_succ (show pre.length<9223372036854775807 by omega),Option.bind_some,dec_rfl,Bool.and_true]
    rw [push_mid]
    simpa [mrE_int,mrE_bool,mrE_sl,mrE_pair] using g
 exact xl0v.eq v0 v1 (by simp only [xl0v.t]; exact key v0 [] v1 h0 h1 (by simpa using h2))
theorem xl0y_ok (v0:Zg) (v1:Int) (h0:0≤v1) (h1:v1+(cntT (.sl (.sl (.int .i64))) v0:Int)≤4611686018427387904) (h2:szT (.sl (.sl (.int .i64))) v0≤1073741824):xl0y v0 v1=some ((mrL (mrE (.sl (.int .i64))) v0 v1).2,(mrL (mrE (.sl (.int .i64))) v0 v1).1):=by
 have key : ∀ (rest pre : Zg) (k : Int), 0 ≤ k → k + (cntT (.sl (.sl (.int .i64))) rest : Int) ≤ 4611686018427387904 → pre.length + szT (.sl (.sl (.int .i64))) rest ≤ 1073741824 →
  xl0y.l2 (pre ++ rest) k (pre.length:Int)=some ((mrL (mrE (.sl (.int .i64))) rest k).2,pre ++ (mrL (mrE (.sl (.int .i64))) rest k).1):=by
  intro rest
  induction rest with
  | nil =>
    intro pre k _ _ _
    exact xl0y.eq2 _ _ _ (by simp only [xl0y.t2,List.append_nil,ix_lt,Nat.lt_irrefl,decide_false,cond_false,mrL_nil])
  | cons x r ih =>
    intro pre k hk hb hl
    rw [cnt_cons] at hb
    simp only [cntT] at hb
    simp only [szT,List.length_cons,List.map_cons,List.sum_cons] at hl
    have n1:=mrL_cnt (t:=(.int .i64)) x k
    simp only [cntT] at n1
    have c1:=xl10_ok x k (by omega) (by simp only [cntT]; omega) (by simp only [szT]; omega)
    have g:=ih (pre ++ [(mrE (.sl (.int .i64)) x k).1]) (mrE (.sl (.int .i64)) x k).2 (by rw [mrE_cnt]; omega) (by rw [mrE_cnt]; simp only [cntT] at hb ⊢; omega) (by simp only [szT,List.length_append,List.length_cons,List.length_nil] at hl ⊢; omega)
    refine xl0y.eq2 _ _ _ ?_
    simp only [mrL_cons,mrE_int,mrE_bool,mrE_sl,mrE_pair]
    simp only [xl0y.t2,lenI_mid,ix_nn,ix_nat,len_mid,set_mid,getD_mid,cond_true,cond_false,bne_ref,beq_ref,bang_t,c1,wrap_succ (show pre.length<9223372036854775807 by omega),Option.bind_some,dec_rfl,Bool.and_true]
    rw [push_mid]
    simpa [mrE_int,mrE_bool,mrE_sl,mrE_pair] using g
 exact xl0y.eq v0 v1 (by simp only [xl0y.t]; exact key v0 [] v1 h0 h1 (by simpa using h2))
theorem xl0z_ok (v0:Int) (v1:Zd) (v2:Int) (h0:0≤v2) (h1:v2+(cntT (.pair (.int .i64) (.sl (.pair (.sl (.int .i64)) (.int .i64)))) (v0,v1):Int)≤4611686018427387904) (h2:szT (.pair (.int .i64) (.sl (.pair (.sl (.int .i64)) (.int .i64)))) (v0,v1)≤1073741824):xl0z v0 v1 v2=some ((mrT (.pair (.int .i64) (.sl (.pair (.sl (.int .i64)) (.int .i64)))) (v0,v1) v2).2,(mrT (.pair (.int .i64) (.sl (.pair (.sl (.int .i64)) (.int .i64)))) (v0,v1) v2).1.1,(mrT (.pair (.int .i64) (.sl (.pair (.sl (.int .i64)) (.int .i64)))) (v0,v1) v2).1.2):=by
 simp only [cntT] at h1
 simp only [szT] at h2
 have n1:=mrL_cnt (t:=(.pair (.sl (.int .i64)) (.int .i64))) v1 v2
 have n1b:=n1
 simp only [cntT] at n1b
 have c1:=xl0n_ok v1 v2 (by omega) (by simp only [cntT]; omega) (by simp only [szT]; omega)
 try simp only [mrT] at c1
 refine xl0z.eq _ _ _ ?_
 simp only [xl0z.t,mrT,c1,Option.bind_some,cond_false]
theorem xl1t_ok (v0:List Int) (v1:Int) (h0:0≤v1) (h1:v1+(cntT (.sl (.int .i64)) v0:Int)≤4611686018427387904) (h2:szT (.sl (.int .i64)) v0≤1073741824):xl1t (mrL (mrE (.int .i64)) v0 v1).1 v1=some (mrL (mrE (.int .i64)) v0 v1).2:=by
 have key : ∀ (rest pre : List Int) (k : Int), 0 ≤ k → k + (cntT (.sl (.int .i64)) rest : Int) ≤ 4611686018427387904 → pre.length + szT (.sl (.int .i64)) rest ≤ 1073741824 →
  xl1t.l2 (pre ++ (mrL (mrE (.int .i64)) rest k).1) k (pre.length:Int)=some (mrL (mrE (.int .i64)) rest k).2:=by
  intro rest
  induction rest with
  | nil =>
    intro pre k _ _ _
    exact xl1t.eq2 _ _ _ (by simp only [xl1t.t2,List.append_nil,ix_lt,Nat.lt_irrefl,decide_false,cond_false,mrL_nil])
  | cons x r ih =>
    intro pre k hk hb hl
    rw [cnt_cons] at hb
    simp only [cntT] at hb
    simp only [szT,List.length_cons,List.map_cons,List.sum_cons] at hl
    have g:=ih (pre ++ [(mrE (.int .i64) x k).1]) (mrE (.int .i64) x k).2 (by rw [mrE_cnt]; omega) (by rw [mrE_cnt]; simp only [cntT] at hb ⊢; omega) (by simp only [szT,List.length_append,List.length_cons,List.length_nil] at hl ⊢; omega)
    refine xl1t.eq2 _ _ _ ?_
    simp only [mrL_cons,mrE_int,mrE_bool,mrE_sl,mrE_pair]
    simp only [xl1t.t2,lenI_mid,ix_nn,ix_nat,len_mid,set_mid,getD_mid,cond_true,cond_false,bne_ref,beq_ref,bang_t,wrap_k (k:=k) (by omega) (by omega),wrap_succ (show pre.length<9223372036854775807 by omega),Option.bind_some,dec_rfl,Bool.and_true]
    rw [push_mid]
    simpa [mrE_int,mrE_bool,mrE_sl,mrE_pair] using g
 exact xl1t.eq _ v1 (by simp only [xl1t.t]; exact key v0 [] v1 h0 h1 (by simpa using h2))
theorem xl0x_ok (v0:Zd) (v1:Int) (h0:0≤v1) (h1:v1+(cntT (.sl (.pair (.sl (.int .i64)) (.int .i64))) v0:Int)≤4611686018427387904) (h2:szT (.sl (.pair (.sl (.int .i64)) (.int .i64))) v0≤1073741824):xl0x (mrL (mrE (.pair (.sl (.int .i64)) (.int .i64))) v0 v1).1 v1=some (mrL (mrE (.pair (.sl (.int .i64)) (.int .i64))) v0 v1).2:=by
 have key : ∀ (rest pre : Zd) (k : Int), 0 ≤ k → k + (cntT (.sl (.pair (.sl (.int .i64)) (.int .i64))) rest : Int) ≤ 4611686018427387904 → pre.length + szT (.sl (.pair (.sl (.int .i64)) (.int .i64))) rest ≤ 1073741824 →
  xl0x.l2 (pre ++ (mrL (mrE (.pair (.sl (.int .i64)) (.int .i64))) rest k).1) k (pre.length:Int)=some (mrL (mrE (.pair (.sl (.int .i64)) (.int .i64))) rest k).2:=by
  intro rest
  induction rest with
  | nil =>
    intro pre k _ _ _
    exact xl0x.eq2 _ _ _ (by simp only [xl0x.t2,List.append_nil,ix_lt,Nat.lt_irrefl,decide_false,cond_false,mrL_nil])
  | cons x r ih =>
    intro pre k hk hb hl
    rw [cnt_cons] at hb
    simp only [cntT] at hb
    simp only [szT,List.length_cons,List.map_cons,List.sum_cons] at hl
    have n1:=mrL_cnt (t:=(.int .i64)) x.1 k
    simp only [cntT] at n1
    have c1:=xl1t_ok x.1 k (by omega) (by simp only [cntT]; omega) (by simp only [szT]; omega)
    have g1:¬ (mrL (mrE (.int .i64)) x.1 k).2<0:=by omega
    have g:=ih (pre ++ [(mrE (.pair (.sl (.int .i64)) (.int .i64)) x k).1]) (mrE (.pair (.sl (.int .i64)) (.int .i64)) x k).2 (by rw [mrE_cnt]; omega) (by rw [mrE_cnt]; simp only [cntT] at hb ⊢; omega) (by simp only [szT,List.length_append,List.length_cons,List.length_nil] at hl ⊢; omega)
    refine xl0x.eq2 _ _ _ ?_
    simp only [mrL_cons,mrE_int,mrE_bool,mrE_sl,mrE_pair]
    simp only [xl0x.t2,lenI_mid,ix_nn,ix_nat,len_mid,set_mid,getD_mid,cond_true,cond_false,bne_ref,beq_ref,bang_t,wrap_k (k:=(mrL (mrE (.int .i64)) x.1 k).2) (by omega) (by omega),c1,dec_f g1,wrap_succ (show pre.length<9223372036854775807 by omega),Option.bind_some,dec_rfl,Bool.and_true]
    rw [push_mid]
    simpa [mrE_int,mrE_bool,mrE_sl,mrE_pair] using g
 exact xl0x.eq _ v1 (by simp only [xl0x.t]; exact key v0 [] v1 h0 h1 (by simpa using h2))
theorem xl1h_ok (v0:Int) (v1:Zd) (v2:Int) (h0:0≤v2) (h1:v2+(cntT (.pair (.int .i64) (.sl (.pair (.sl (.int .i64)) (.int .i64)))) (v0,v1):Int)≤4611686018427387904) (h2:szT (.pair (.int .i64) (.sl (.pair (.sl (.int .i64)) (.int .i64)))) (v0,v1)≤1073741824):xl1h ((mrT (.pair (.int .i64) (.sl (.pair (.sl (.int .i64)) (.int .i64)))) (v0,v1) v2).1.1) ((mrT (.pair (.int .i64) (.sl (.pair (.sl (.int .i64)) (.int .i64)))) (v0,v1) v2).1.2) v2=some (mrT (.pair (.int .i64) (.sl (.pair (.sl (.int .i64)) (.int .i64)))) (v0,v1) v2).2:=by
 simp only [cntT] at h1
 simp only [szT] at h2
 have n1:=mrL_cnt (t:=(.pair (.sl (.int .i64)) (.int .i64))) v1 v2
 have n1b:=n1
 simp only [cntT] at n1b
 have c1:=xl0x_ok v1 v2 (by omega) (by simp only [cntT]; omega) (by simp only [szT]; omega)
 have g1:¬ (mrL (mrE (.pair (.sl (.int .i64)) (.int .i64))) v1 v2).2<0:=by omega
 try simp only [mrT] at c1 g1
 refine xl1h.eq _ _ _ ?_
 simp only [xl1h.t,mrT,c1,dec_f g1,Option.bind_some,cond_false]
end GoV

/- Small words of the program and of its specification. -/
namespace GoV
open Go
theorem xi2g_eq (x lo hi:Int):xi2g x lo hi=some (inB lo hi x):=by
 refine xi2g.eq x lo hi ?_
 simp only [xi2g.t,inB]
 by_cases h:lo≤x <;> simp [h]
theorem xs2v_eq (x lo hi:Int):xs2v x lo hi=some (inB lo hi x):=by
 refine xs2v.eq x lo hi ?_
 simp only [xs2v.t,inB]
 by_cases h:lo≤x <;> simp [h]
end GoV
