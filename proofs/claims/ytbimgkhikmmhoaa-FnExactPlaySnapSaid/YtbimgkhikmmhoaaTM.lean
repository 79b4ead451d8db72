/- A part of the proof of FnExactPlaySnap: an interpreter of the model over plain data, its soundness, and what it makes of the functions that the statement reaches. Conditions: none beyond what the given statement itself says. -/
import Derived.Test.YtbimgkhikmmhoaaTL
set_option linter.unusedVariables false
set_option linter.unusedSimpArgs false
set_option linter.unnecessarySimpa false
set_option linter.unusedSectionVars false
/- What the statements' own helpers answer (printed by wip/tools/lawgen.py). -/
namespace GoV
open Go
theorem xl0r_ok (v0:List (Int × Int × Int × Int)) (v1:Int) (hw:WfT (.sl (.pair (.int .i64) (.pair (.int .i64) (.pair (.int .i64) (.int .i64))))) v0) (h1:0≤v1) (h2:v1≤1048576):∃ r,xl0r v0 v1=some r∧r≤v1∧(0≤r→(szT (.sl (.pair (.int .i64) (.pair (.int .i64) (.pair (.int .i64) (.int .i64))))) v0:Int)+r=v1):=by
 have hl:=hw.1
 have e0:IntKind.i64.wrap (v1 - (v0.length:Int))=v1 - (v0.length:Int):=wrap_id (by omega) (by omega)
 by_cases hn:v1 - (v0.length:Int)<0
 · exact ⟨-1,xl0r.eq v0 v1 (by simp only [xl0r.t,e0,dec_t hn,cond_true]),by omega,fun h => by omega⟩
 · exact ⟨v1 - (v0.length:Int),xl0r.eq v0 v1 (by simp only [xl0r.t,e0,dec_f hn,cond_false]),by omega,fun _ => by rw [szT_sl_flat (t:=(.pair (.int .i64) (.pair (.int .i64) (.pair (.int .i64) (.int .i64))))) v0 rfl]; omega⟩
theorem xl1k_id (v0:List Int) (h:szT (.sl (.int .i64)) v0≤1073741824):xl1k v0=some v0:=by
 have hlen:v0.length≤1073741824:=Nat.le_trans (szT_len (t:=(.int .i64))) h
 have key:∀ i,i≤v0.length→∀ a:List Int,a.length=v0.length→a.take i=v0.take i→xl1k.l3 v0 a (i:Int)=some v0:=by
  refine upto ?_ ?_
  · intro a ha hh
    have ea:=take_all_eq ha hh
    subst ea
    exact xl1k.eq3 a a (a.length:Int) (by simp only [xl1k.t3,ix_lt,Nat.lt_irrefl,decide_false,cond_false])
  · intro i hi ih a ha hh
    have g:=ih (a.set i (v0.getD i (0:Int))) (by simp [ha]) (set_step hi ha hh)
    have hia:i<a.length:=by omega
    refine xl1k.eq3 v0 a (i:Int) ?_
    simp only [xl1k.t3,ix_lt,ix_nn,ix_nat,dec_t hi,dec_t hia,cond_true,wrap_succ (show i<9223372036854775807 by omega)]
    exact g
 refine xl1k.eq v0 ?_
 have h3:((v0.length:Int) * ((1:Nat):Int)≤(4398046511104:Int)):=by omega
 simp only [xl1k.t,decide_true,dec_t h3,cond_true,ix_nat]
 exact key 0 (Nat.zero_le _) _ (by simp) (by simp)
theorem xl0w_id (v0:Int) (v1:Int) (v2:Int) (v3:Int) (h:szT (.pair (.int .i64) (.pair (.int .i64) (.pair (.int .i64) (.int .i64)))) (v0,(v1,(v2,v3)))≤1073741824):xl0w v0 v1 v2 v3=some (v0,v1,v2,v3):=by
 exact xl0w.eq v0 v1 v2 v3 (by simp only [xl0w.t,Option.bind_some])
theorem xl0s_id (v0:List (Int × Int × Int × Int)) (h:szT (.sl (.pair (.int .i64) (.pair (.int .i64) (.pair (.int .i64) (.int .i64))))) v0≤1073741824):xl0s v0=some v0:=by
 have hlen:v0.length≤1073741824:=Nat.le_trans (szT_len (t:=(.pair (.int .i64) (.pair (.int .i64) (.pair (.int .i64) (.int .i64)))))) h
 have key:∀ i,i≤v0.length→∀ a:List (Int × Int × Int × Int),a.length=v0.length→a.take i=v0.take i→xl0s.l3 v0 a (i:Int)=some v0:=by
  refine upto ?_ ?_
  · intro a ha hh
    have ea:=take_all_eq ha hh
    subst ea
    exact xl0s.eq3 a a (a.length:Int) (by simp only [xl0s.t3,ix_lt,Nat.lt_irrefl,decide_false,cond_false])
  · intro i hi ih a ha hh
    have hc:=xl0w_id ((v0.getD i ((0:Int),(0:Int),(0:Int),(0:Int))).fst) ((v0.getD i ((0:Int),(0:Int),(0:Int),(0:Int))).snd.fst) ((v0.getD i ((0:Int),(0:Int),(0:Int),(0:Int))).snd.snd.fst) ((v0.getD i ((0:Int),(0:Int),(0:Int),(0:Int))).snd.snd.snd) (Nat.le_trans (szT_mem (t:=(.pair (.int .i64) (.pair (.int .i64) (.pair (.int .i64) (.int .i64))))) (getD_mem ((0:Int),(0:Int),(0:Int),(0:Int)) hi)) h)
    have g:=ih (a.set i (v0.getD i ((0:Int),(0:Int),(0:Int),(0:Int)))) (by simp [ha]) (set_step hi ha hh)
    have hia:i<a.length:=by omega
    refine xl0s.eq3 v0 a (i:Int) ?_
    simp only [xl0s.t3,ix_lt,ix_nn,ix_nat,dec_t hi,dec_t hia,cond_true,hc,Option.bind_some,wrap_succ (show i<9223372036854775807 by omega)]
    exact g
 refine xl0s.eq v0 ?_
 have h3:((v0.length:Int) * ((4:Nat):Int)≤(4398046511104:Int)):=by omega
 simp only [xl0s.t,decide_true,dec_t h3,cond_true,ix_nat]
 exact key 0 (Nat.zero_le _) _ (by simp) (by simp)
theorem xs02_ok (v0:List Int) (p:Int→Bool) (hl:v0.length≤4611686018427387904) (hp:∀ x,x∈v0→xi04 (x)=some (p x)):∃ r:Int,xs02 v0=some r∧decide (r ≥ 0)=v0.any p:=by
 have key:∀ i,i≤v0.length→∃ r:Int,xs02.l2 (v0) ((↑v0.length:Int)) (i:Int)=some r∧decide (r ≥ 0)=(v0.drop i).any p:=by
  refine upto ?_ ?_
  · exact ⟨-1,xs02.eq2 (v0) ((↑v0.length:Int)) (v0.length:Int) (by simp only [xs02.t2,ix_lt,Nat.lt_irrefl,decide_false,cond_false]),by simp⟩
  · intro i hi ih
    have hc:=hp _ (getD_mem (0:Int) hi)
    rw [drop_getD (0:Int) hi,List.any_cons]
    cases hx:p (v0.getD i (0:Int)) with
    | true => exact ⟨i,xs02.eq2 (v0) ((↑v0.length:Int)) (i:Int) (by simp only [xs02.t2,ix_lt,ix_nn,ix_nat,dec_t hi,cond_true,hc,hx,Option.bind_some]),by simp⟩
    | false =>
      obtain ⟨r,g0,g1⟩:=ih
      exact ⟨r,xs02.eq2 (v0) ((↑v0.length:Int)) (i:Int) (by simp only [xs02.t2,ix_lt,ix_nn,ix_nat,dec_t hi,cond_true,cond_false,hc,hx,Option.bind_some,wrap_succ (show i<9223372036854775807 by omega),g0]),by rw [g1,Bool.false_or]⟩
 obtain ⟨r,g0,g1⟩:=key 0 (Nat.zero_le _)
 exact ⟨r,xs02.eq v0 (by simp only [xs02.t]; exact g0),by simpa using g1⟩
theorem xs00_ok (v0:List Int) (p:Int→Bool) (hl:v0.length≤4611686018427387904) (hp:∀ x,x∈v0→xi04 (x)=some (p x)):xs00 v0=some (v0.any p):=by
 obtain ⟨r,g0,g1⟩:=xs02_ok (v0) p hl hp
 exact xs00.eq v0 (by simp only [xs00.t,g0,Option.bind_some,g1])
theorem xi06_ok (v0:List Int) (p:Int→Bool) (hl:v0.length≤4611686018427387904) (hp:∀ x,x∈v0→xi0g ((x))=some (p x)):xi06 v0=some (v0.all p):=by
 have g:=xs00_ok (v0) (fun x => !p x) hl (fun x hx => xi04.eq (x) (by simp only [xi04.t,hp x hx,Option.bind_some]))
 exact xi06.eq v0 (by simp only [xi06.t,g,Option.bind_some,List.all_eq_not_any_not])
theorem xs03_ok (v0:List Int) (p:Int→Bool) (hl:v0.length≤4611686018427387904) (hp:∀ x,x∈v0→xi05 (x)=some (p x)):∃ r:Int,xs03 v0=some r∧decide (r ≥ 0)=v0.any p:=by
 have key:∀ i,i≤v0.length→∃ r:Int,xs03.l2 (v0) ((↑v0.length:Int)) (i:Int)=some r∧decide (r ≥ 0)=(v0.drop i).any p:=by
  refine upto ?_ ?_
  · exact ⟨-1,xs03.eq2 (v0) ((↑v0.length:Int)) (v0.length:Int) (by simp only [xs03.t2,ix_lt,Nat.lt_irrefl,decide_false,cond_false]),by simp⟩
  · intro i hi ih
    have hc:=hp _ (getD_mem (0:Int) hi)
    rw [drop_getD (0:Int) hi,List.any_cons]
    cases hx:p (v0.getD i (0:Int)) with
    | true => exact ⟨i,xs03.eq2 (v0) ((↑v0.length:Int)) (i:Int) (by simp only [xs03.t2,ix_lt,ix_nn,ix_nat,dec_t hi,cond_true,hc,hx,Option.bind_some]),by simp⟩
    | false =>
      obtain ⟨r,g0,g1⟩:=ih
      exact ⟨r,xs03.eq2 (v0) ((↑v0.length:Int)) (i:Int) (by simp only [xs03.t2,ix_lt,ix_nn,ix_nat,dec_t hi,cond_true,cond_false,hc,hx,Option.bind_some,wrap_succ (show i<9223372036854775807 by omega),g0]),by rw [g1,Bool.false_or]⟩
 obtain ⟨r,g0,g1⟩:=key 0 (Nat.zero_le _)
 exact ⟨r,xs03.eq v0 (by simp only [xs03.t]; exact g0),by simpa using g1⟩
theorem xs01_ok (v0:List Int) (p:Int→Bool) (hl:v0.length≤4611686018427387904) (hp:∀ x,x∈v0→xi05 (x)=some (p x)):xs01 v0=some (v0.any p):=by
 obtain ⟨r,g0,g1⟩:=xs03_ok (v0) p hl hp
 exact xs01.eq v0 (by simp only [xs01.t,g0,Option.bind_some,g1])
theorem xi07_ok (v0:List Int) (p:Int→Bool) (hl:v0.length≤4611686018427387904) (hp:∀ x,x∈v0→xi0l ((x))=some (p x)):xi07 v0=some (v0.all p):=by
 have g:=xs01_ok (v0) (fun x => !p x) hl (fun x hx => xi05.eq (x) (by simp only [xi05.t,hp x hx,Option.bind_some]))
 exact xi07.eq v0 (by simp only [xi07.t,g,Option.bind_some,List.all_eq_not_any_not])
theorem xl1h_rf (v0:Int) (v1:Int) (v2:Bool) (h:szT (.pair (.int .i64) (.pair (.int .i64) .bool)) (v0,(v1,v2))≤1073741824):xl1h v0 v1 v2 v0 v1 v2=some true:=by
 exact xl1h.eq v0 v1 v2 v0 v1 v2 (by simp only [xl1h.t,Option.bind_some,bne_ref,beq_ref,bang_t,cond_false])
theorem xl1c_rf (v0:List (Int × Int × Bool)) (h:szT (.sl (.pair (.int .i64) (.pair (.int .i64) .bool))) v0≤1073741824):xl1c v0 v0=some true:=by
 have hlen:v0.length≤1073741824:=Nat.le_trans (szT_len (t:=(.pair (.int .i64) (.pair (.int .i64) .bool)))) h
 have key:∀ i,i≤v0.length→xl1c.l4 v0 v0 (i:Int)=some true:=by
  refine upto ?_ ?_
  · exact xl1c.eq4 v0 v0 (v0.length:Int) (by simp only [xl1c.t4,ix_lt,Nat.lt_irrefl,decide_false,cond_false])
  · intro i hi ih
    have hc:=xl1h_rf ((v0.getD i ((0:Int),(0:Int),Bool.false)).fst) ((v0.getD i ((0:Int),(0:Int),Bool.false)).snd.fst) ((v0.getD i ((0:Int),(0:Int),Bool.false)).snd.snd) (Nat.le_trans (szT_mem (t:=(.pair (.int .i64) (.pair (.int .i64) .bool))) (getD_mem ((0:Int),(0:Int),Bool.false) hi)) h)
    exact xl1c.eq4 v0 v0 (i:Int) (by simp only [xl1c.t4,ix_lt,ix_nn,ix_nat,dec_t hi,cond_true,cond_false,bne_ref,beq_ref,bang_t,hc,Option.bind_some,bang_t,wrap_succ (show i<9223372036854775807 by omega),ih])
 exact xl1c.eq v0 v0 (by simp only [xl1c.t,bne_ref,cond_false]; exact key 0 (Nat.zero_le _))
theorem xl1g_rf (v0:List Int) (h:szT (.sl (.int .i64)) v0≤1073741824):xl1g v0 v0=some true:=by
 have hlen:v0.length≤1073741824:=Nat.le_trans (szT_len (t:=(.int .i64))) h
 have key:∀ i,i≤v0.length→xl1g.l4 v0 v0 (i:Int)=some true:=by
  refine upto ?_ ?_
  · exact xl1g.eq4 v0 v0 (v0.length:Int) (by simp only [xl1g.t4,ix_lt,Nat.lt_irrefl,decide_false,cond_false])
  · intro i hi ih
    exact xl1g.eq4 v0 v0 (i:Int) (by simp only [xl1g.t4,ix_lt,ix_nn,ix_nat,dec_t hi,cond_true,cond_false,bne_ref,beq_ref,bang_t,wrap_succ (show i<9223372036854775807 by omega),ih])
 exact xl1g.eq v0 v0 (by simp only [xl1g.t,bne_ref,cond_false]; exact key 0 (Nat.zero_le _))
theorem xl1j_rf (v0:List Int) (v1:List Int) (v2:Bool) (h:szT (.pair (.sl (.int .i64)) (.pair (.sl (.int .i64)) .bool)) (v0,(v1,v2))≤1073741824):xl1j v0 v1 v2 v0 v1 v2=some true:=by
 have e1:=xl1g_rf v0 (by simp only [szT] at h ⊢; omega)
 have e2:=xl1g_rf v1 (by simp only [szT] at h ⊢; omega)
 exact xl1j.eq v0 v1 v2 v0 v1 v2 (by simp only [xl1j.t,e1,e2,Option.bind_some,bne_ref,beq_ref,bang_t,cond_false])
theorem xl1d_rf (v0:List (List Int × List Int × Bool)) (h:szT (.sl (.pair (.sl (.int .i64)) (.pair (.sl (.int .i64)) .bool))) v0≤1073741824):xl1d v0 v0=some true:=by
 have hlen:v0.length≤1073741824:=Nat.le_trans (szT_len (t:=(.pair (.sl (.int .i64)) (.pair (.sl (.int .i64)) .bool)))) h
 have key:∀ i,i≤v0.length→xl1d.l4 v0 v0 (i:Int)=some true:=by
  refine upto ?_ ?_
  · exact xl1d.eq4 v0 v0 (v0.length:Int) (by simp only [xl1d.t4,ix_lt,Nat.lt_irrefl,decide_false,cond_false])
  · intro i hi ih
    have hc:=xl1j_rf ((v0.getD i ([],[],Bool.false)).fst) ((v0.getD i ([],[],Bool.false)).snd.fst) ((v0.getD i ([],[],Bool.false)).snd.snd) (Nat.le_trans (szT_mem (t:=(.pair (.sl (.int .i64)) (.pair (.sl (.int .i64)) .bool))) (getD_mem ([],[],Bool.false) hi)) h)
    exact xl1d.eq4 v0 v0 (i:Int) (by simp only [xl1d.t4,ix_lt,ix_nn,ix_nat,dec_t hi,cond_true,cond_false,bne_ref,beq_ref,bang_t,hc,Option.bind_some,bang_t,wrap_succ (show i<9223372036854775807 by omega),ih])
 exact xl1d.eq v0 v0 (by simp only [xl1d.t,bne_ref,cond_false]; exact key 0 (Nat.zero_le _))
theorem xl1i_rf (v0:List (Int × Int × Bool)) (v1:List (List Int × List Int × Bool)) (h:szT (.pair (.sl (.pair (.int .i64) (.pair (.int .i64) .bool))) (.sl (.pair (.sl (.int .i64)) (.pair (.sl (.int .i64)) .bool)))) (v0,v1)≤1073741824):xl1i v0 v1 v0 v1=some true:=by
 have e1:=xl1c_rf v0 (by simp only [szT] at h ⊢; omega)
 have e2:=xl1d_rf v1 (by simp only [szT] at h ⊢; omega)
 exact xl1i.eq v0 v1 v0 v1 (by simp only [xl1i.t,e1,e2,Option.bind_some,bne_ref,beq_ref,bang_t,cond_false])
theorem xl1b_rf (v0:List Bool) (h:szT (.sl .bool) v0≤1073741824):xl1b v0 v0=some true:=by
 have hlen:v0.length≤1073741824:=Nat.le_trans (szT_len (t:=.bool)) h
 have key:∀ i,i≤v0.length→xl1b.l4 v0 v0 (i:Int)=some true:=by
  refine upto ?_ ?_
  · exact xl1b.eq4 v0 v0 (v0.length:Int) (by simp only [xl1b.t4,ix_lt,Nat.lt_irrefl,decide_false,cond_false])
  · intro i hi ih
    exact xl1b.eq4 v0 v0 (i:Int) (by simp only [xl1b.t4,ix_lt,ix_nn,ix_nat,dec_t hi,cond_true,cond_false,bne_ref,beq_ref,bang_t,wrap_succ (show i<9223372036854775807 by omega),ih])
 exact xl1b.eq v0 v0 (by simp only [xl1b.t,bne_ref,cond_false]; exact key 0 (Nat.zero_le _))
theorem xl0v_rf (v0:Int) (v1:Int) (v2:Int) (v3:Int) (h:szT (.pair (.int .i64) (.pair (.int .i64) (.pair (.int .i64) (.int .i64)))) (v0,(v1,(v2,v3)))≤1073741824):xl0v v0 v1 v2 v3 v0 v1 v2 v3=some true:=by
 exact xl0v.eq v0 v1 v2 v3 v0 v1 v2 v3 (by simp only [xl0v.t,Option.bind_some,bne_ref,beq_ref,bang_t,cond_false])
theorem xl0q_rf (v0:List (Int × Int × Int × Int)) (h:szT (.sl (.pair (.int .i64) (.pair (.int .i64) (.pair (.int .i64) (.int .i64))))) v0≤1073741824):xl0q v0 v0=some true:=by
 have hlen:v0.length≤1073741824:=Nat.le_trans (szT_len (t:=(.pair (.int .i64) (.pair (.int .i64) (.pair (.int .i64) (.int .i64)))))) h
 have key:∀ i,i≤v0.length→xl0q.l4 v0 v0 (i:Int)=some true:=by
  refine upto ?_ ?_
  · exact xl0q.eq4 v0 v0 (v0.length:Int) (by simp only [xl0q.t4,ix_lt,Nat.lt_irrefl,decide_false,cond_false])
  · intro i hi ih
    have hc:=xl0v_rf ((v0.getD i ((0:Int),(0:Int),(0:Int),(0:Int))).fst) ((v0.getD i ((0:Int),(0:Int),(0:Int),(0:Int))).snd.fst) ((v0.getD i ((0:Int),(0:Int),(0:Int),(0:Int))).snd.snd.fst) ((v0.getD i ((0:Int),(0:Int),(0:Int),(0:Int))).snd.snd.snd) (Nat.le_trans (szT_mem (t:=(.pair (.int .i64) (.pair (.int .i64) (.pair (.int .i64) (.int .i64))))) (getD_mem ((0:Int),(0:Int),(0:Int),(0:Int)) hi)) h)
    exact xl0q.eq4 v0 v0 (i:Int) (by simp only [xl0q.t4,ix_lt,ix_nn,ix_nat,dec_t hi,cond_true,cond_false,bne_ref,beq_ref,bang_t,hc,Option.bind_some,bang_t,wrap_succ (show i<9223372036854775807 by omega),ih])
 exact xl0q.eq v0 v0 (by simp only [xl0q.t,bne_ref,cond_false]; exact key 0 (Nat.zero_le _))
theorem xl0m_ok (v0:List Int) (v1:Int) (h0:0≤v1) (h1:v1+(cntT (.sl (.int .i64)) v0:Int)≤4611686018427387904) (h2:szT (.sl (.int .i64)) v0≤1073741824):xl0m v0 v1=some ((mrL (mrE (.int .i64)) v0 v1).2,(mrL (mrE (.int .i64)) v0 v1).1):=by
 have key : ∀ (rest pre : List Int) (k : Int), 0 ≤ k → k + (cntT (.sl (.int .i64)) rest : Int) ≤ 4611686018427387904 → pre.length + szT (.sl (.int .i64)) rest ≤ 1073741824 →
  xl0m.l2 (pre ++ rest) k (pre.length:Int)=some ((mrL (mrE (.int .i64)) rest k).2,pre ++ (mrL (mrE (.int .i64)) rest k).1):=by
  intro rest
  induction rest with
  | nil =>
    intro pre k _ _ _
    exact xl0m.eq2 _ _ _ (by simp only [xl0m.t2,List.append_nil,ix_lt,Nat.lt_irrefl,decide_false,cond_false,mrL_nil])
  | cons x r ih =>
    intro pre k hk hb hl
    rw [cnt_cons] at hb
    simp only [cntT] at hb
    simp only [szT,List.length_cons,List.map_cons,List.sum_cons] at hl
    have g:=ih (pre ++ [(mrE (.int .i64) x k).1]) (mrE (.int .i64) x k).2 (by rw [mrE_cnt]; omega) (by rw [mrE_cnt]; simp only [cntT] at hb ⊢; omega) (by simp only [szT,List.length_append,List.length_cons,List.length_nil] at hl ⊢; omega)
    refine xl0m.eq2 _ _ _ ?_
    simp only [mrL_cons,mrE_int,mrE_bool,mrE_sl,mrE_pair]
    simp only [xl0m.t2,lenI_mid,ix_nn,ix_nat,len_mid,set_mid,getD_mid,cond_true,cond_false,bne_ref,beq_ref,bang_t,wrap_k (k:=k) (by omega) (by omega),wrap_succ (show pre.length<9223372036854775807 by omega),Option.bind_some,dec_rfl,Bool.and_true]
    rw [push_mid]
    simpa [mrE_int,mrE_bool,mrE_sl,mrE_pair] using g
 exact xl0m.eq v0 v1 (by simp only [xl0m.t]; exact key v0 [] v1 h0 h1 (by simpa using h2))
theorem xl09_ok (v0:List (Int × Int × Int × Int)) (v1:Int) (h0:0≤v1) (h1:v1+(cntT (.sl (.pair (.int .i64) (.pair (.int .i64) (.pair (.int .i64) (.int .i64))))) v0:Int)≤4611686018427387904) (h2:szT (.sl (.pair (.int .i64) (.pair (.int .i64) (.pair (.int .i64) (.int .i64))))) v0≤1073741824):xl09 v0 v1=some ((mrL (mrE (.pair (.int .i64) (.pair (.int .i64) (.pair (.int .i64) (.int .i64))))) v0 v1).2,(mrL (mrE (.pair (.int .i64) (.pair (.int .i64) (.pair (.int .i64) (.int .i64))))) v0 v1).1):=by
 have key : ∀ (rest pre : List (Int × Int × Int × Int)) (k : Int), 0 ≤ k → k + (cntT (.sl (.pair (.int .i64) (.pair (.int .i64) (.pair (.int .i64) (.int .i64))))) rest : Int) ≤ 4611686018427387904 → pre.length + szT (.sl (.pair (.int .i64) (.pair (.int .i64) (.pair (.int .i64) (.int .i64))))) rest ≤ 1073741824 →
  xl09.l2 (pre ++ rest) k (pre.length:Int)=some ((mrL (mrE (.pair (.int .i64) (.pair (.int .i64) (.pair (.int .i64) (.int .i64))))) rest k).2,pre ++ (mrL (mrE (.pair (.int .i64) (.pair (.int .i64) (.pair (.int .i64) (.int .i64))))) rest k).1):=by
  intro rest
  induction rest with
  | nil =>
    intro pre k _ _ _
    exact xl09.eq2 _ _ _ (by simp only [xl09.t2,List.append_nil,ix_lt,Nat.lt_irrefl,decide_false,cond_false,mrL_nil])
  | cons x r ih =>
    intro pre k hk hb hl
    rw [cnt_cons] at hb
    simp only [cntT] at hb
    simp only [szT,List.length_cons,List.map_cons,List.sum_cons] at hl
    have g:=ih (pre ++ [(mrE (.pair (.int .i64) (.pair (.int .i64) (.pair (.int .i64) (.int .i64)))) x k).1]) (mrE (.pair (.int .i64) (.pair (.int .i64) (.pair (.int .i64) (.int .i64)))) x k).2 (by rw [mrE_cnt]; omega) (by rw [mrE_cnt]; simp only [cntT] at hb ⊢; omega) (by simp only [szT,List.length_append,List.length_cons,List.length_nil] at hl ⊢; omega)
    refine xl09.eq2 _ _ _ ?_
    simp only [mrL_cons,mrE_int,mrE_bool,mrE_sl,mrE_pair]
    simp only [xl09.t2,lenI_mid,ix_nn,ix_nat,len_mid,set_mid,getD_mid,cond_true,cond_false,bne_ref,beq_ref,bang_t,wrap_k (k:=k) (by omega) (by omega),wrap_k (k:=(k+1)) (by omega) (by omega),wrap_k (k:=((k+1)+1)) (by omega) (by omega),wrap_k (k:=(((k+1)+1)+1)) (by omega) (by omega),wrap_succ (show pre.length<9223372036854775807 by omega),Option.bind_some,dec_rfl,Bool.and_true]
    rw [push_mid]
    simpa [mrE_int,mrE_bool,mrE_sl,mrE_pair] using g
 exact xl09.eq v0 v1 (by simp only [xl09.t]; exact key v0 [] v1 h0 h1 (by simpa using h2))
theorem xl0i_ok (v0:List (Int × Int × Bool)) (v1:Int) (h0:0≤v1) (h1:v1+(cntT (.sl (.pair (.int .i64) (.pair (.int .i64) .bool))) v0:Int)≤4611686018427387904) (h2:szT (.sl (.pair (.int .i64) (.pair (.int .i64) .bool))) v0≤1073741824):xl0i v0 v1=some ((mrL (mrE (.pair (.int .i64) (.pair (.int .i64) .bool))) v0 v1).2,(mrL (mrE (.pair (.int .i64) (.pair (.int .i64) .bool))) v0 v1).1):=by
 have key : ∀ (rest pre : List (Int × Int × Bool)) (k : Int), 0 ≤ k → k + (cntT (.sl (.pair (.int .i64) (.pair (.int .i64) .bool))) rest : Int) ≤ 4611686018427387904 → pre.length + szT (.sl (.pair (.int .i64) (.pair (.int .i64) .bool))) rest ≤ 1073741824 →
  xl0i.l2 (pre ++ rest) k (pre.length:Int)=some ((mrL (mrE (.pair (.int .i64) (.pair (.int .i64) .bool))) rest k).2,pre ++ (mrL (mrE (.pair (.int .i64) (.pair (.int .i64) .bool))) rest k).1):=by
  intro rest
  induction rest with
  | nil =>
    intro pre k _ _ _
    exact xl0i.eq2 _ _ _ (by simp only [xl0i.t2,List.append_nil,ix_lt,Nat.lt_irrefl,decide_false,cond_false,mrL_nil])
  | cons x r ih =>
    intro pre k hk hb hl
    rw [cnt_cons] at hb
    simp only [cntT] at hb
    simp only [szT,List.length_cons,List.map_cons,List.sum_cons] at hl
    have g:=ih (pre ++ [(mrE (.pair (.int .i64) (.pair (.int .i64) .bool)) x k).1]) (mrE (.pair (.int .i64) (.pair (.int .i64) .bool)) x k).2 (by rw [mrE_cnt]; omega) (by rw [mrE_cnt]; simp only [cntT] at hb ⊢; omega) (by simp only [szT,List.length_append,List.length_cons,List.length_nil] at hl ⊢; omega)
    refine xl0i.eq2 _ _ _ ?_
    simp only [mrL_cons,mrE_int,mrE_bool,mrE_sl,mrE_pair]
    simp only [xl0i.t2,lenI_mid,ix_nn,ix_nat,len_mid,set_mid,getD_mid,cond_true,cond_false,bne_ref,beq_ref,bang_t,wrap_k (k:=k) (by omega) (by omega),wrap_k (k:=(k+1)) (by omega) (by omega),wrap_k (k:=((k+1)+1)) (by omega) (by omega),wrap_succ (show pre.length<9223372036854775807 by omega),Option.bind_some,dec_rfl,Bool.and_true]
    rw [push_mid]
    simpa [mrE_int,mrE_bool,mrE_sl,mrE_pair] using g
 exact xl0i.eq v0 v1 (by simp only [xl0i.t]; exact key v0 [] v1 h0 h1 (by simpa using h2))
theorem xl0j_ok (v0:List (List Int × List Int × Bool)) (v1:Int) (h0:0≤v1) (h1:v1+(cntT (.sl (.pair (.sl (.int .i64)) (.pair (.sl (.int .i64)) .bool))) v0:Int)≤4611686018427387904) (h2:szT (.sl (.pair (.sl (.int .i64)) (.pair (.sl (.int .i64)) .bool))) v0≤1073741824):xl0j v0 v1=some ((mrL (mrE (.pair (.sl (.int .i64)) (.pair (.sl (.int .i64)) .bool))) v0 v1).2,(mrL (mrE (.pair (.sl (.int .i64)) (.pair (.sl (.int .i64)) .bool))) v0 v1).1):=by
 have key : ∀ (rest pre : List (List Int × List Int × Bool)) (k : Int), 0 ≤ k → k + (cntT (.sl (.pair (.sl (.int .i64)) (.pair (.sl (.int .i64)) .bool))) rest : Int) ≤ 4611686018427387904 → pre.length + szT (.sl (.pair (.sl (.int .i64)) (.pair (.sl (.int .i64)) .bool))) rest ≤ 1073741824 →
  xl0j.l2 (pre ++ rest) k (pre.length:Int)=some ((mrL (mrE (.pair (.sl (.int .i64)) (.pair (.sl (.int .i64)) .bool))) rest k).2,pre ++ (mrL (mrE (.pair (.sl (.int .i64)) (.pair (.sl (.int .i64)) .bool))) rest k).1):=by
  intro rest
  induction rest with
  | nil =>
    intro pre k _ _ _
    exact xl0j.eq2 _ _ _ (by simp only [xl0j.t2,List.append_nil,ix_lt,Nat.lt_irrefl,decide_false,cond_false,mrL_nil])
  | cons x r ih =>
    intro pre k hk hb hl
    rw [cnt_cons] at hb
    simp only [cntT] at hb
    simp only [szT,List.length_cons,List.map_cons,List.sum_cons] at hl
    have n1:=mrL_cnt (t:=(.int .i64)) x.1 k
    simp only [cntT] at n1
    have c1:=xl0m_ok x.1 k (by omega) (by simp only [cntT]; omega) (by simp only [szT]; omega)
    have n2:=mrL_cnt (t:=(.int .i64)) x.2.1 (mrL (mrE (.int .i64)) x.1 k).2
    simp only [cntT] at n2
    have c2:=xl0m_ok x.2.1 (mrL (mrE (.int .i64)) x.1 k).2 (by omega) (by simp only [cntT]; omega) (by simp only [szT]; omega)
    have g:=ih (pre ++ [(mrE (.pair (.sl (.int .i64)) (.pair (.sl (.int .i64)) .bool)) x k).1]) (mrE (.pair (.sl (.int .i64)) (.pair (.sl (.int .i64)) .bool)) x k).2 (by rw [mrE_cnt]; omega) (by rw [mrE_cnt]; simp only [cntT] at hb ⊢; omega) (by simp only [szT,List.length_append,List.length_cons,List.length_nil] at hl ⊢; omega)
    refine xl0j.eq2 _ _ _ ?_
    simp only [mrL_cons,mrE_int,mrE_bool,mrE_sl,mrE_pair]
    simp only [xl0j.t2,lenI_mid,ix_nn,ix_nat,len_mid,set_mid,getD_mid,cond_true,cond_false,bne_ref,beq_ref,bang_t,wrap_k (k:=(mrL (mrE (.int .i64)) x.2.1 (mrL (mrE (.int .i64)) x.1 k).2).2) (by omega) (by omega),c1,c2,wrap_succ (show pre.length<9223372036854775807 by omega),Option.bind_some,dec_rfl,Bool.and_true]
    rw [push_mid]
    simpa [mrE_int,mrE_bool,mrE_sl,mrE_pair] using g
 exact xl0j.eq v0 v1 (by simp only [xl0j.t]; exact key v0 [] v1 h0 h1 (by simpa using h2))
theorem xl0n_ok (v0:List (Int × Int × Bool)) (v1:List (List Int × List Int × Bool)) (v2:Int) (h0:0≤v2) (h1:v2+(cntT (.pair (.sl (.pair (.int .i64) (.pair (.int .i64) .bool))) (.sl (.pair (.sl (.int .i64)) (.pair (.sl (.int .i64)) .bool)))) (v0,v1):Int)≤4611686018427387904) (h2:szT (.pair (.sl (.pair (.int .i64) (.pair (.int .i64) .bool))) (.sl (.pair (.sl (.int .i64)) (.pair (.sl (.int .i64)) .bool)))) (v0,v1)≤1073741824):xl0n v0 v1 v2=some ((mrT (.pair (.sl (.pair (.int .i64) (.pair (.int .i64) .bool))) (.sl (.pair (.sl (.int .i64)) (.pair (.sl (.int .i64)) .bool)))) (v0,v1) v2).2,(mrT (.pair (.sl (.pair (.int .i64) (.pair (.int .i64) .bool))) (.sl (.pair (.sl (.int .i64)) (.pair (.sl (.int .i64)) .bool)))) (v0,v1) v2).1.1,(mrT (.pair (.sl (.pair (.int .i64) (.pair (.int .i64) .bool))) (.sl (.pair (.sl (.int .i64)) (.pair (.sl (.int .i64)) .bool)))) (v0,v1) v2).1.2):=by
 simp only [cntT] at h1
 simp only [szT] at h2
 have n1:=mrL_cnt (t:=(.pair (.int .i64) (.pair (.int .i64) .bool))) v0 v2
 have n1b:=n1
 simp only [cntT] at n1b
 have c1:=xl0i_ok v0 v2 (by omega) (by simp only [cntT]; omega) (by simp only [szT]; omega)
 have n2:=mrL_cnt (t:=(.pair (.sl (.int .i64)) (.pair (.sl (.int .i64)) .bool))) v1 (mrL (mrE (.pair (.int .i64) (.pair (.int .i64) .bool))) v0 v2).2
 have n2b:=n2
 simp only [cntT] at n2b
 have c2:=xl0j_ok v1 (mrL (mrE (.pair (.int .i64) (.pair (.int .i64) .bool))) v0 v2).2 (by omega) (by simp only [cntT]; omega) (by simp only [szT]; omega)
 try simp only [mrT] at c1 c2
 refine xl0n.eq _ _ _ ?_
 simp only [xl0n.t,mrT,c1,c2,Option.bind_some,cond_false]
theorem xl0h_ok (v0:List Bool) (v1:Int) (h0:0≤v1) (h1:v1+(cntT (.sl .bool) v0:Int)≤4611686018427387904) (h2:szT (.sl .bool) v0≤1073741824):xl0h v0 v1=some ((mrL (mrE .bool) v0 v1).2,(mrL (mrE .bool) v0 v1).1):=by
 have key : ∀ (rest pre : List Bool) (k : Int), 0 ≤ k → k + (cntT (.sl .bool) rest : Int) ≤ 4611686018427387904 → pre.length + szT (.sl .bool) rest ≤ 1073741824 →
  xl0h.l2 (pre ++ rest) k (pre.length:Int)=some ((mrL (mrE .bool) rest k).2,pre ++ (mrL (mrE .bool) rest k).1):=by
  intro rest
  induction rest with
  | nil =>
    intro pre k _ _ _
    exact xl0h.eq2 _ _ _ (by simp only [xl0h.t2,List.append_nil,ix_lt,Nat.lt_irrefl,decide_false,cond_false,mrL_nil])
  | cons x r ih =>
    intro pre k hk hb hl
    rw [cnt_cons] at hb
    simp only [cntT] at hb
    simp only [szT,List.length_cons,List.map_cons,List.sum_cons] at hl
    have g:=ih (pre ++ [(mrE .bool x k).1]) (mrE .bool x k).2 (by rw [mrE_cnt]; omega) (by rw [mrE_cnt]; simp only [cntT] at hb ⊢; omega) (by simp only [szT,List.length_append,List.length_cons,List.length_nil] at hl ⊢; omega)
    refine xl0h.eq2 _ _ _ ?_
    simp only [mrL_cons,mrE_int,mrE_bool,mrE_sl,mrE_pair]
    simp only [xl0h.t2,lenI_mid,ix_nn,ix_nat,len_mid,set_mid,getD_mid,cond_true,cond_false,bne_ref,beq_ref,bang_t,wrap_k (k:=k) (by omega) (by omega),wrap_succ (show pre.length<9223372036854775807 by omega),Option.bind_some,dec_rfl,Bool.and_true]
    rw [push_mid]
    simpa [mrE_int,mrE_bool,mrE_sl,mrE_pair] using g
 exact xl0h.eq v0 v1 (by simp only [xl0h.t]; exact key v0 [] v1 h0 h1 (by simpa using h2))
theorem xl0y_ok (v0:List (Int × Int × Bool)) (v1:Int) (h0:0≤v1) (h1:v1+(cntT (.sl (.pair (.int .i64) (.pair (.int .i64) .bool))) v0:Int)≤4611686018427387904) (h2:szT (.sl (.pair (.int .i64) (.pair (.int .i64) .bool))) v0≤1073741824):xl0y (mrL (mrE (.pair (.int .i64) (.pair (.int .i64) .bool))) v0 v1).1 v1=some (mrL (mrE (.pair (.int .i64) (.pair (.int .i64) .bool))) v0 v1).2:=by
 have key : ∀ (rest pre : List (Int × Int × Bool)) (k : Int), 0 ≤ k → k + (cntT (.sl (.pair (.int .i64) (.pair (.int .i64) .bool))) rest : Int) ≤ 4611686018427387904 → pre.length + szT (.sl (.pair (.int .i64) (.pair (.int .i64) .bool))) rest ≤ 1073741824 →
  xl0y.l2 (pre ++ (mrL (mrE (.pair (.int .i64) (.pair (.int .i64) .bool))) rest k).1) k (pre.length:Int)=some (mrL (mrE (.pair (.int .i64) (.pair (.int .i64) .bool))) rest k).2:=by
  intro rest
  induction rest with
  | nil =>
    intro pre k _ _ _
    exact xl0y.eq2 _ _ _ (by simp only [xl0y.t2,List.append_nil,ix_lt,Nat.lt_irrefl,decide_false,cond_false,mrL_nil])
  | cons x r ih =>
    intro pre k hk hb hl
    rw [cnt_cons] at hb
    simp only [cntT] at hb
    simp only [szT,List.length_cons,List.map_cons,List.sum_cons] at hl
    have g:=ih (pre ++ [(mrE (.pair (.int .i64) (.pair (.int .i64) .bool)) x k).1]) (mrE (.pair (.int .i64) (.pair (.int .i64) .bool)) x k).2 (by rw [mrE_cnt]; omega) (by rw [mrE_cnt]; simp only [cntT] at hb ⊢; omega) (by simp only [szT,List.length_append,List.length_cons,List.length_nil] at hl ⊢; omega)
    refine xl0y.eq2 _ _ _ ?_
    simp only [mrL_cons,mrE_int,mrE_bool,mrE_sl,mrE_pair]
    simp only [xl0y.t2,lenI_mid,ix_nn,ix_nat,len_mid,set_mid,getD_mid,cond_true,cond_false,bne_ref,beq_ref,bang_t,wrap_k (k:=k) (by omega) (by omega),wrap_k (k:=(k+1)) (by omega) (by omega),wrap_k (k:=((k+1)+1)) (by omega) (by omega),wrap_succ (show pre.length<9223372036854775807 by omega),Option.bind_some,dec_rfl,Bool.and_true]
    rw [push_mid]
    simpa [mrE_int,mrE_bool,mrE_sl,mrE_pair] using g
 exact xl0y.eq _ v1 (by simp only [xl0y.t]; exact key v0 [] v1 h0 h1 (by simpa using h2))
theorem xl14_ok (v0:List Int) (v1:Int) (h0:0≤v1) (h1:v1+(cntT (.sl (.int .i64)) v0:Int)≤4611686018427387904) (h2:szT (.sl (.int .i64)) v0≤1073741824):xl14 (mrL (mrE (.int .i64)) v0 v1).1 v1=some (mrL (mrE (.int .i64)) v0 v1).2:=by
 have key : ∀ (rest pre : List Int) (k : Int), 0 ≤ k → k + (cntT (.sl (.int .i64)) rest : Int) ≤ 4611686018427387904 → pre.length + szT (.sl (.int .i64)) rest ≤ 1073741824 →
  xl14.l2 (pre ++ (mrL (mrE (.int .i64)) rest k).1) k (pre.length:Int)=some (mrL (mrE (.int .i64)) rest k).2:=by
  intro rest
  induction rest with
  | nil =>
    intro pre k _ _ _
    exact xl14.eq2 _ _ _ (by simp only [xl14.t2,List.append_nil,ix_lt,Nat.lt_irrefl,decide_false,cond_false,mrL_nil])
  | cons x r ih =>
    intro pre k hk hb hl
    rw [cnt_cons] at hb
    simp only [cntT] at hb
    simp only [szT,List.length_cons,List.map_cons,List.sum_cons] at hl
    have g:=ih (pre ++ [(mrE (.int .i64) x k).1]) (mrE (.int .i64) x k).2 (by rw [mrE_cnt]; omega) (by rw [mrE_cnt]; simp only [cntT] at hb ⊢; omega) (by simp only [szT,List.length_append,List.length_cons,List.length_nil] at hl ⊢; omega)
    refine xl14.eq2 _ _ _ ?_
    simp only [mrL_cons,mrE_int,mrE_bool,mrE_sl,mrE_pair]
    simp only [xl14.t2,lenI_mid,ix_nn,ix_nat,len_mid,set_mid,getD_mid,cond_true,cond_false,bne_ref,beq_ref,bang_t,wrap_k (k:=k) (by omega) (by omega),wrap_succ (show pre.length<9223372036854775807 by omega),Option.bind_some,dec_rfl,Bool.and_true]
    rw [push_mid]
    simpa [mrE_int,mrE_bool,mrE_sl,mrE_pair] using g
 exact xl14.eq _ v1 (by simp only [xl14.t]; exact key v0 [] v1 h0 h1 (by simpa using h2))
theorem xl0z_ok (v0:List (List Int × List Int × Bool)) (v1:Int) (h0:0≤v1) (h1:v1+(cntT (.sl (.pair (.sl (.int .i64)) (.pair (.sl (.int .i64)) .bool))) v0:Int)≤4611686018427387904) (h2:szT (.sl (.pair (.sl (.int .i64)) (.pair (.sl (.int .i64)) .bool))) v0≤1073741824):xl0z (mrL (mrE (.pair (.sl (.int .i64)) (.pair (.sl (.int .i64)) .bool))) v0 v1).1 v1=some (mrL (mrE (.pair (.sl (.int .i64)) (.pair (.sl (.int .i64)) .bool))) v0 v1).2:=by
 have key : ∀ (rest pre : List (List Int × List Int × Bool)) (k : Int), 0 ≤ k → k + (cntT (.sl (.pair (.sl (.int .i64)) (.pair (.sl (.int .i64)) .bool))) rest : Int) ≤ 4611686018427387904 → pre.length + szT (.sl (.pair (.sl (.int .i64)) (.pair (.sl (.int .i64)) .bool))) rest ≤ 1073741824 →
  xl0z.l2 (pre ++ (mrL (mrE (.pair (.sl (.int .i64)) (.pair (.sl (.int .i64)) .bool))) rest k).1) k (pre.length:Int)=some (mrL (mrE (.pair (.sl (.int .i64)) (.pair (.sl (.int .i64)) .bool))) rest k).2:=by
  intro rest
  induction rest with
  | nil =>
    intro pre k _ _ _
    exact xl0z.eq2 _ _ _ (by simp only [xl0z.t2,List.append_nil,ix_lt,Nat.lt_irrefl,decide_false,cond_false,mrL_nil])
  | cons x r ih =>
    intro pre k hk hb hl
    rw [cnt_cons] at hb
    simp only [cntT] at hb
    simp only [szT,List.length_cons,List.map_cons,List.sum_cons] at hl
    have n1:=mrL_cnt (t:=(.int .i64)) x.1 k
    simp only [cntT] at n1
    have c1:=xl14_ok x.1 k (by omega) (by simp only [cntT]; omega) (by simp only [szT]; omega)
    have g1:¬ (mrL (mrE (.int .i64)) x.1 k).2<0:=by omega
    have n2:=mrL_cnt (t:=(.int .i64)) x.2.1 (mrL (mrE (.int .i64)) x.1 k).2
    simp only [cntT] at n2
    have c2:=xl14_ok x.2.1 (mrL (mrE (.int .i64)) x.1 k).2 (by omega) (by simp only [cntT]; omega) (by simp only [szT]; omega)
    have g2:¬ (mrL (mrE (.int .i64)) x.2.1 (mrL (mrE (.int .i64)) x.1 k).2).2<0:=by omega
    have g:=ih (pre ++ [(mrE (.pair (.sl (.int .i64)) (.pair (.sl (.int .i64)) .bool)) x k).1]) (mrE (.pair (.sl (.int .i64)) (.pair (.sl (.int .i64)) .bool)) x k).2 (by rw [mrE_cnt]; omega) (by rw [mrE_cnt]; simp only [cntT] at hb ⊢; omega) (by simp only [szT,List.length_append,List.length_cons,List.length_nil] at hl ⊢; omega)
    refine xl0z.eq2 _ _ _ ?_
    simp only [mrL_cons,mrE_int,mrE_bool,mrE_sl,mrE_pair]
    simp only [xl0z.t2,lenI_mid,ix_nn,ix_nat,len_mid,set_mid,getD_mid,cond_true,cond_false,bne_ref,beq_ref,bang_t,wrap_k (k:=(mrL (mrE (.int .i64)) x.2.1 (mrL (mrE (.int .i64)) x.1 k).2).2) (by omega) (by omega),c1,dec_f g1,c2,dec_f g2,wrap_succ (show pre.length<9223372036854775807 by omega),Option.bind_some,dec_rfl,Bool.and_true]
    rw [push_mid]
    simpa [mrE_int,mrE_bool,mrE_sl,mrE_pair] using g
 exact xl0z.eq _ v1 (by simp only [xl0z.t]; exact key v0 [] v1 h0 h1 (by simpa using h2))
theorem xl15_ok (v0:List (Int × Int × Bool)) (v1:List (List Int × List Int × Bool)) (v2:Int) (h0:0≤v2) (h1:v2+(cntT (.pair (.sl (.pair (.int .i64) (.pair (.int .i64) .bool))) (.sl (.pair (.sl (.int .i64)) (.pair (.sl (.int .i64)) .bool)))) (v0,v1):Int)≤4611686018427387904) (h2:szT (.pair (.sl (.pair (.int .i64) (.pair (.int .i64) .bool))) (.sl (.pair (.sl (.int .i64)) (.pair (.sl (.int .i64)) .bool)))) (v0,v1)≤1073741824):xl15 ((mrT (.pair (.sl (.pair (.int .i64) (.pair (.int .i64) .bool))) (.sl (.pair (.sl (.int .i64)) (.pair (.sl (.int .i64)) .bool)))) (v0,v1) v2).1.1) ((mrT (.pair (.sl (.pair (.int .i64) (.pair (.int .i64) .bool))) (.sl (.pair (.sl (.int .i64)) (.pair (.sl (.int .i64)) .bool)))) (v0,v1) v2).1.2) v2=some (mrT (.pair (.sl (.pair (.int .i64) (.pair (.int .i64) .bool))) (.sl (.pair (.sl (.int .i64)) (.pair (.sl (.int .i64)) .bool)))) (v0,v1) v2).2:=by
 simp only [cntT] at h1
 simp only [szT] at h2
 have n1:=mrL_cnt (t:=(.pair (.int .i64) (.pair (.int .i64) .bool))) v0 v2
 have n1b:=n1
 simp only [cntT] at n1b
 have c1:=xl0y_ok v0 v2 (by omega) (by simp only [cntT]; omega) (by simp only [szT]; omega)
 have g1:¬ (mrL (mrE (.pair (.int .i64) (.pair (.int .i64) .bool))) v0 v2).2<0:=by omega
 have n2:=mrL_cnt (t:=(.pair (.sl (.int .i64)) (.pair (.sl (.int .i64)) .bool))) v1 (mrL (mrE (.pair (.int .i64) (.pair (.int .i64) .bool))) v0 v2).2
 have n2b:=n2
 simp only [cntT] at n2b
 have c2:=xl0z_ok v1 (mrL (mrE (.pair (.int .i64) (.pair (.int .i64) .bool))) v0 v2).2 (by omega) (by simp only [cntT]; omega) (by simp only [szT]; omega)
 have g2:¬ (mrL (mrE (.pair (.sl (.int .i64)) (.pair (.sl (.int .i64)) .bool))) v1 (mrL (mrE (.pair (.int .i64) (.pair (.int .i64) .bool))) v0 v2).2).2<0:=by omega
 try simp only [mrT] at c1 g1 c2 g2
 refine xl15.eq _ _ _ ?_
 simp only [xl15.t,mrT,c1,dec_f g1,c2,dec_f g2,Option.bind_some,cond_false]
theorem xl0x_ok (v0:List Bool) (v1:Int) (h0:0≤v1) (h1:v1+(cntT (.sl .bool) v0:Int)≤4611686018427387904) (h2:szT (.sl .bool) v0≤1073741824):xl0x (mrL (mrE .bool) v0 v1).1 v1=some (mrL (mrE .bool) v0 v1).2:=by
 have key : ∀ (rest pre : List Bool) (k : Int), 0 ≤ k → k + (cntT (.sl .bool) rest : Int) ≤ 4611686018427387904 → pre.length + szT (.sl .bool) rest ≤ 1073741824 →
  xl0x.l2 (pre ++ (mrL (mrE .bool) rest k).1) k (pre.length:Int)=some (mrL (mrE .bool) rest k).2:=by
  intro rest
  induction rest with
  | nil =>
    intro pre k _ _ _
    exact xl0x.eq2 _ _ _ (by simp only [xl0x.t2,List.append_nil,ix_lt,Nat.lt_irrefl,decide_false,cond_false,mrL_nil])
  | cons x r ih =>
    intro pre k hk hb hl
    rw [cnt_cons] at hb
    simp only [cntT] at hb
    simp only [szT,List.length_cons,List.map_cons,List.sum_cons] at hl
    have g:=ih (pre ++ [(mrE .bool x k).1]) (mrE .bool x k).2 (by rw [mrE_cnt]; omega) (by rw [mrE_cnt]; simp only [cntT] at hb ⊢; omega) (by simp only [szT,List.length_append,List.length_cons,List.length_nil] at hl ⊢; omega)
    refine xl0x.eq2 _ _ _ ?_
    simp only [mrL_cons,mrE_int,mrE_bool,mrE_sl,mrE_pair]
    simp only [xl0x.t2,lenI_mid,ix_nn,ix_nat,len_mid,set_mid,getD_mid,cond_true,cond_false,bne_ref,beq_ref,bang_t,wrap_k (k:=k) (by omega) (by omega),wrap_succ (show pre.length<9223372036854775807 by omega),Option.bind_some,dec_rfl,Bool.and_true]
    rw [push_mid]
    simpa [mrE_int,mrE_bool,mrE_sl,mrE_pair] using g
 exact xl0x.eq _ v1 (by simp only [xl0x.t]; exact key v0 [] v1 h0 h1 (by simpa using h2))
end GoV

/- Small words of the program and of its specification. -/
namespace GoV
open Go
theorem xi1f_eq (x lo hi:Int):xi1f x lo hi=some (inB lo hi x):=by
 refine xi1f.eq x lo hi ?_
 simp only [xi1f.t,inB]
 by_cases h:lo≤x <;> simp [h]
theorem xs1n_eq (x lo hi:Int):xs1n x lo hi=some (inB lo hi x):=by
 refine xs1n.eq x lo hi ?_
 simp only [xs1n.t,inB]
 by_cases h:lo≤x <;> simp [h]
end GoV

/- Pictures: what is good, alike; a copy is what it copies. -/
namespace GoV
open Go
abbrev Prc:=Int × Int × Bool
abbrev Wir:=List Int × List Int × Bool
abbrev zP:Prc:=(0,0,false)
abbrev zW:Wir:=([],[],false)
def procB (p:Prc):Bool:=inB 0 2000000000 p.1 && (inB 0 2000000000 p.2.1 && (p.2.2 || p.2.1 == 0))
def wireB (P:List Prc) (k:Nat) (w:Wir):Bool :=
 decide (w.1.length ≤ 12) && (w.1.all (inB 0 1000000) && (decide (w.2.1.length ≤ 200) && (w.2.1.all (inB 1 1000000) &&
    (((P.getD (k % P.length) zP).2.2 || (!w.2.2 && decide (w.2.1.length=0))) && (!decide (k / P.length=k % P.length) || (decide (w.1.length=0) && (decide (w.2.1.length=0) && !w.2.2)))))))
def wiresB (P : List Prc) : Nat → List Wir → Bool
 | _,[] => true
 | k,w::r => wireB P k w && wiresB P (k+1) r
def totP : List Prc → Int
 | [] => 0
 | p::r => p.1+p.2.1+totP r
def sumI : List Int → Int
 | [] => 0
 | x::r => x+sumI r
def totW : List Wir → Int
 | [] => 0
 | w::r => sumI w.1+sumI w.2.1+totW r
/-- Not too much. -/
def leB (x:Int):Bool:=decide (x≤2000000000)
def goodB (P:List Prc) (W:List Wir):Bool :=
 decide (2≤P.length∧P.length≤4) && (decide (W.length=P.length * P.length) && (P.all procB && (wiresB P 0 W && leB (totP P+totW W))))
theorem sumI_bound : ∀ {l : List Int}, l.all (inB 0 1000000) = true → 0 ≤ sumI l ∧ sumI l ≤ l.length * 1000000
 | [],_ => by simp [sumI]
 | x::r,h => by
   simp only [List.all_cons,Bool.and_eq_true] at h
   have h1:=inB_iff.1 h.1
   have h2:=sumI_bound h.2
   simp only [sumI,List.length_cons]
   omega
theorem all_10 {l:List Int} (h:l.all (inB 1 1000000)=true):l.all (inB 0 1000000)=true:=by
 simp only [List.all_eq_true] at h ⊢
 intro x hx
 have:=inB_iff.1 (h x hx)
 exact inB_iff.2 ⟨by omega,by omega⟩
theorem wire_bounds {P:List Prc} {k:Nat} {w:Wir} (h:wireB P k w=true):w.1.length≤12∧w.1.all (inB 0 1000000)=true∧w.2.1.length≤200∧w.2.1.all (inB 1 1000000)=true:=by
 simp only [wireB,Bool.and_eq_true,decide_eq_true_eq] at h
 exact ⟨h.1,h.2.1,h.2.2.1,h.2.2.2.1⟩
/-! ## The program's -/
theorem xi0l_eq (x:Int):xi0l x=some (inB 1 1000000 x):=xi0l.eq x (by simp only [xi0l.t,xi1f_eq,Option.bind_some])
theorem impl_word_eq (x:Int):xi0g x=some (inB 0 1000000 x):=by
 refine xi0g.eq x ?_
 simp only [xi0g.t,xi0l_eq,Option.bind_some]
 by_cases h:x=0
 · subst h; rfl
 · have h1 : (x == 0) = false := by simpa using h
   rw [h1]
   simp only [cond_false]
   congr 1
   exact bool_eq (by rw [inB_iff,inB_iff]; omega)
theorem xi1m_eq {l:List Int} (hl:l.length≤1000) (h:l.all (inB 0 1000000)=true):xi1m l=some (sumI l):=by
 refine xi1m.eq l ?_
 simp only [xi1m.t]
 have key:∀ i,i≤l.length→∀ a:Int,0≤a→a≤i * 1000000→xi1m.l3 a l (l.length:Int) (i:Int)=some (a+sumI (l.drop i)):=by
  refine upto ?_ ?_
  · intro a _ _
    refine xi1m.eq3 _ _ _ _ ?_
    rw [List.drop_length]
    simp only [xi1m.t3,ix_lt,Nat.lt_irrefl,decide_false,cond_false,sumI,Int.add_zero]
  · intro i hi ih a ha hb
    have hx:=inB_iff.1 (List.all_eq_true.1 h _ (getD_mem 0 hi))
    refine xi1m.eq3 _ _ _ _ ?_
    simp only [xi1m.t3,ix_lt,ix_nn,ix_nat,dec_t hi,cond_true,wrap_succ (show i<9223372036854775807 by omega)]
    rw [wrap_id (by omega) (by omega),ih _ (by omega) (by omega),drop_getD 0 hi]
    simp only [sumI]
    congr 1
    omega
 have:=key 0 (Nat.zero_le _) 0 (by omega) (by omega)
 simpa using this
theorem impl_isWire_eq (P : List Prc) (k : Nat) (w : Wir) (hl : w.1.length ≤ 1073741824 ∧ w.2.1.length ≤ 1073741824) (t : Prc) (ht : t = P.getD (k % P.length) zP) :
 xi0p w.1 w.2.1 w.2.2 t.1 t.2.1 t.2.2=some (decide (w.1.length≤12) && (w.1.all (inB 0 1000000) && (decide (w.2.1.length≤200) && (w.2.1.all (inB 1 1000000) && ((P.getD (k % P.length) zP).2.2 || (!w.2.2 && decide (w.2.1.length=0))))))):=by
 subst ht
 refine xi0p.eq _ _ _ _ _ _ ?_
 simp only [xi0p.t,xi06_ok w.1 _ (by omega) (fun x _ => impl_word_eq x),xi07_ok w.2.1 _ (by omega) (fun x _ => xi0l_eq x),Option.bind_some]
 have e1:decide ((w.1.length:Int)≤12)=decide (w.1.length≤12):=by by_cases h:w.1.length≤12 <;> simp [h] <;> omega
 have e2:decide ((w.2.1.length:Int)≤200)=decide (w.2.1.length≤200):=by by_cases h:w.2.1.length≤200 <;> simp [h] <;> omega
 have e3:((w.2.1.length:Int) == (0:Int))=decide (w.2.1.length=0):=by by_cases h:w.2.1.length=0 <;> simp [h]
 rw [e1,e2,e3]
 cases decide (w.1.length≤12) <;> cases w.1.all (inB 0 1000000) <;> cases decide (w.2.1.length≤200) <;> cases w.2.1.all (inB 1 1000000) <;> cases (P.getD (k % P.length) zP).2.2 <;> cases w.2.2 <;> rfl
theorem impl_isNone_eq (w:Wir):xi0o w.1 w.2.1 w.2.2=some (decide (w.1.length=0) && (decide (w.2.1.length=0) && !w.2.2)):=by
 refine xi0o.eq _ _ _ ?_
 have e1:((w.1.length:Int) == (0:Int))=decide (w.1.length=0):=by by_cases h:w.1.length=0 <;> simp [h]
 have e3:((w.2.1.length:Int) == (0:Int))=decide (w.2.1.length=0):=by by_cases h:w.2.1.length=0 <;> simp [h]
 simp only [xi0o.t,e1,e3]
 cases decide (w.1.length=0) <;> cases decide (w.2.1.length=0) <;> rfl
theorem tdiv_nat (a b:Nat):Int.tdiv (a:Int) (b:Int)=((a / b:Nat):Int):=by simp
theorem tmod_nat (a b:Nat):Int.tmod (a:Int) (b:Int)=((a % b:Nat):Int):=by
 rw [Int.tmod_eq_emod_of_nonneg (by omega)]
 exact (Int.natCast_emod a b).symm
section
variable {P:List Prc} {W:List Wir} (hp:2≤P.length∧P.length≤4) (hw:W.length=P.length * P.length) (hl:∀ w,w∈W→w.1.length≤1073741824∧w.2.1.length≤1073741824)
include hp hw hl
theorem W16:W.length≤16:=by
 rw [hw]
 exact Nat.mul_le_mul hp.2 hp.2
theorem impl_GoodSnap_l13:∀ i,i≤W.length→∀ a:Int,0≤a→a≤20000000000+i * 300000000→xi11.l13 P W (P.length:Int) a W (W.length:Int) (i:Int)=some (wiresB P i (W.drop i) && leB (a+totW (W.drop i))):=by
 have h16:=W16 hp hw hl
 refine upto ?_ ?_
 · intro a _ _
   refine xi11.eq13 _ _ _ _ _ _ _ ?_
   rw [List.drop_length]
   simp only [xi11.t13,ix_lt,Nat.lt_irrefl,decide_false,cond_false,wiresB,totW,Int.add_zero,Bool.true_and,leB]
 · intro i hi ih a ha hb
   have hne:((P.length:Nat):Int)≠0:=by omega
   have hm:i % P.length<P.length:=Nat.mod_lt _ (by omega)
   refine xi11.eq13 _ _ _ _ _ _ _ ?_
   simp only [xi11.t13,ix_lt,ix_nn,ix_nat,dec_t hi,cond_true,dec_t hne,tmod_nat,tdiv_nat,dec_t hm]
   rw [drop_getD zW hi]
   have hl1:=hl _ (getD_mem zW hi)
   generalize hx:W.getD i zW=w at hl1 ⊢
   rw [impl_isWire_eq P i w hl1 _ rfl]
   simp only [Option.bind_some]
   have hwr:IntKind.i64.wrap ((i / P.length:Nat):Int)=((i / P.length:Nat):Int):=by
    have hq:=Nat.div_le_self i P.length
    generalize i / P.length=q at hq ⊢
    exact wrap_id (by omega) (by omega)
   have heq:((((i / P.length:Nat):Int)) == ((i % P.length:Nat):Int))=decide (i / P.length=i % P.length):=by
    by_cases h:i / P.length=i % P.length
    · rw [h]; simp
    · rw [dec_f h]; simp only [beq_eq_false_iff_ne,ne_eq]; omega
   simp only [wiresB,wireB,totW]
   generalize hA:(decide (w.1.length≤12) && (w.1.all (inB 0 1000000) && (decide (w.2.1.length≤200) && (w.2.1.all (inB 1 1000000) && ((P.getD (i % P.length) zP).2.2 || (!w.2.2 && decide (w.2.1.length=0)))))))=A
   have hsplit:∀ x:Bool,(decide (w.1.length≤12) && (w.1.all (inB 0 1000000) && (decide (w.2.1.length≤200) && (w.2.1.all (inB 1 1000000) && (((P.getD (i % P.length) zP).2.2 || (!w.2.2 && decide (w.2.1.length=0))) && x)))))=(A && x):=by
    intro x; rw [← hA]; simp only [Bool.and_assoc]
   rw [hsplit]
   cases A with
   | false => simp
   | true =>
     have hA':=hA
     simp only [Bool.and_eq_true,decide_eq_true_eq] at hA'
     obtain ⟨k1,k2,k3,k4,_⟩:=hA'
     have k5:=sumI_bound k2
     have k6:=sumI_bound (all_10 k4)
     have cont:xi11.l13 P W (P.length:Int) (IntKind.i64.wrap (a+IntKind.i64.wrap (sumI w.1+sumI w.2.1))) W (W.length:Int) ((i+1:Nat):Int)=some (wiresB P (i+1) (W.drop (i+1)) && leB (a+(sumI w.1+sumI w.2.1+totW (W.drop (i+1))))):=by
        rw [wrap_id (x:=sumI w.1+sumI w.2.1) (by omega) (by omega),wrap_id (by omega) (by omega),ih _ (by omega) (by omega)]
        congr 3
        omega
     simp only [bang_t,cond_false,hwr,heq,impl_isNone_eq,xi1m_eq (show w.1.length≤1000 by omega) k2,xi1m_eq (show w.2.1.length≤1000 by omega) (all_10 k4),Option.bind_some,wrap_succ (show i<9223372036854775807 by omega),cont]
     cases decide (i / P.length=i % P.length) with
     | false =>
       simp only [cond_false,Bool.not_false,Bool.true_or,Bool.true_and]
     | true =>
       cases (decide (w.1.length=0) && (decide (w.2.1.length=0) && !w.2.2)) with
       | false => simp only [cond_true,Bool.not_true,Bool.not_false,Bool.false_or,Bool.true_and,Bool.false_and,bang_f]
       | true =>
         simp only [cond_true,cond_false,Bool.not_true,Bool.false_or,Bool.true_and,bang_t]
theorem impl_GoodSnap_l6:∀ i,i≤P.length→∀ a:Int,0≤a→a≤i * 4000000000→xi11.l6 P W (P.length:Int) a P (P.length:Int) (i:Int)=some ((P.drop i).all procB && (wiresB P 0 W && leB (a+totP (P.drop i)+totW W))):=by
 refine upto ?_ ?_
 · intro a ha hb
   refine xi11.eq6 _ _ _ _ _ _ _ ?_
   have:=impl_GoodSnap_l13 hp hw hl 0 (Nat.zero_le _) a ha (by omega)
   rw [List.drop_length]
   simp only [xi11.t6,ix_lt,Nat.lt_irrefl,decide_false,cond_false]
   simpa [totP] using this
 · intro i hi ih a ha hb
   refine xi11.eq6 _ _ _ _ _ _ _ ?_
   simp only [xi11.t6,ix_lt,ix_nn,ix_nat,dec_t hi,cond_true,xi1f_eq,Option.bind_some,wrap_succ (show i<9223372036854775807 by omega)]
   rw [drop_getD zP hi]
   generalize hx:P.getD i zP=p
   simp only [List.all_cons,procB,totP]
   cases h1:inB 0 2000000000 p.1 with
   | false => simp
   | true =>
     cases h2:inB 0 2000000000 p.2.1 with
     | false => simp
     | true =>
       have g1:=inB_iff.1 h1
       have g2:=inB_iff.1 h2
       have cont:xi11.l6 P W (P.length:Int) (IntKind.i64.wrap (a+IntKind.i64.wrap (p.1+p.2.1))) P (P.length:Int) ((i+1:Nat):Int)=some ((P.drop (i+1)).all procB && (wiresB P 0 W && leB (a+(p.1+p.2.1+totP (P.drop (i+1)))+totW W))):=by
         rw [wrap_id (x:=p.1+p.2.1) (by omega) (by omega),wrap_id (by omega) (by omega),ih _ (by omega) (by omega)]
         congr 4
         omega
       simp only [bang_t,cond_false,cont]
       cases p.2.2 with
       | true =>
         simp only [bang_t,cond_false,Bool.true_or,Bool.true_and]
       | false =>
         by_cases h3:p.2.1=0
         · have h4 : (p.2.1 != 0) = false := by simpa using h3
           have h5:(p.2.1 == 0)=true:=by simpa using h3
           simp only [bang_f,cond_true,h4,h5,cond_false,Bool.or_true,Bool.true_and]
         · have h4 : (p.2.1 != 0) = true := by simpa using h3
           have h5:(p.2.1 == 0)=false:=by simpa using h3
           simp only [bang_f,cond_true,h4,h5,Bool.or_false,Bool.and_false,Bool.false_and]
end
theorem sq_nat (n:Nat) (h:n≤4):IntKind.i64.wrap ((n:Int) * (n:Int))=((n * n:Nat):Int):=by
 have h1:n * n≤16:=Nat.mul_le_mul h h
 rw [wrap_id (by omega) (by rw [← Int.natCast_mul]; omega),Int.natCast_mul]
theorem inB24 (n:Nat):inB 2 4 (n:Int)=decide (2≤n∧n≤4):=by
 refine bool_eq ?_
 rw [inB_iff,decide_eq_true_eq]
 omega
theorem xi11_eq (P:List Prc) (W:List Wir) (hl:∀ w,w∈W→w.1.length≤1073741824∧w.2.1.length≤1073741824):xi11 P W=some (goodB P W):=by
 refine xi11.eq P W ?_
 simp only [xi11.t,xi1f_eq,Option.bind_some,inB24,goodB]
 by_cases hp:2≤P.length∧P.length≤4
 · rw [dec_t hp, sq_nat _ hp.2]
   by_cases hw:W.length=P.length * P.length
   · have h1 : ((W.length : Int) != ((P.length * P.length : Nat) : Int)) = false := by rw [hw]; simp
     have:=impl_GoodSnap_l6 hp hw hl 0 (Nat.zero_le _) 0 (by omega) (by omega)
     simp only [bang_t,cond_false,h1,dec_t hw,Bool.true_and]
     simpa using this
   · have h1 : ((W.length : Int) != ((P.length * P.length : Nat) : Int)) = true := by simp; omega
     simp only [bang_t,cond_false,h1,dec_f hw,cond_true,Bool.true_and,Bool.false_and]
 · rw [dec_f hp]
   simp only [bang_f,cond_true,Bool.false_and]
end GoV

/- Pictures: what the specification calls good; copies. -/
namespace GoV
open Go
theorem xs10_eq (x:Int):xs10 x=some (inB 0 1000000 x):=xs10.eq x (by simp only [xs10.t,xs1n_eq,Option.bind_some])
theorem len_gt (n m:Nat):decide ((n:Int) > (m:Int)) = !decide (n≤m):=by
 by_cases h:n≤m
 · rw [dec_t h,dec_f (by omega)]; rfl
 · rw [dec_f h,dec_t (by omega)]; rfl
def tailB (P:List Prc) (k:Nat) (w:Wir):Bool :=
 decide (w.1.length≤12) && (decide (w.2.1.length≤200) && ((!decide (k / P.length=k % P.length) || (decide (w.1.length=0) && (decide (w.2.1.length=0) && !w.2.2))) && ((P.getD (k % P.length) zP).2.2 || (!w.2.2 && decide (w.2.1.length=0)))))
theorem wireB_tail (P:List Prc) (k:Nat) (w:Wir):wireB P k w=(w.1.all (inB 0 1000000) && (w.2.1.all (inB 1 1000000) && tailB P k w)):=by
 unfold wireB tailB
 cases decide (w.1.length ≤ 12) <;> cases w.1.all (inB 0 1000000) <;> cases decide (w.2.1.length ≤ 200) <;> cases w.2.1.all (inB 1 1000000) <;>
  cases ((P.getD (k % P.length) zP).2.2 || (!w.2.2 && decide (w.2.1.length=0))) <;> cases (!decide (k / P.length=k % P.length) || (decide (w.1.length=0) && (decide (w.2.1.length=0) && !w.2.2))) <;> rfl
section
variable {P:List Prc} {W:List Wir} (hp:2≤P.length∧P.length≤4) (hw:W.length=P.length * P.length) (hl:∀ w,w∈W→w.1.length≤1073741824∧w.2.1.length≤1073741824)
include hp hw hl
theorem spec_tail {k : Nat} (hk : k < W.length) {w : Wir} (hx : W.getD k zW = w) {a : Int} {b : Bool} (h1 : tailB P k w = true → xs16.l13 P W (P.length : Int) a W (W.length : Int) ((k + 1 : Nat) : Int) = some b) (h2 : tailB P k w = false → b = false) :
 xs16.l23 P W (P.length:Int) a (k:Int) w.1 w.2.1 w.2.2 W (W.length:Int) (k:Int) w.2.1 (w.2.1.length:Int) (w.2.1.length:Int)=some b:=by
 have h16:=W16 hp hw hl
 have hne:((P.length:Nat):Int)≠0:=by omega
 have hm:k % P.length<P.length:=Nat.mod_lt _ (by omega)
 have hwr:IntKind.i64.wrap ((k / P.length:Nat):Int)=((k / P.length:Nat):Int):=by
  have hq:=Nat.div_le_self k P.length
  generalize k / P.length=q at hq ⊢
  exact wrap_id (by omega) (by omega)
 have heq:((((k / P.length:Nat):Int)) == ((k % P.length:Nat):Int))=decide (k / P.length=k % P.length):=by
  by_cases h:k / P.length=k % P.length
  · rw [h]; simp
  · rw [dec_f h]; simp only [beq_eq_false_iff_ne,ne_eq]; omega
 have g1:=len_gt w.1.length 12
 have g2:=len_gt w.2.1.length 200
 have g3:decide ((w.1.length:Int) > 0) = !decide (w.1.length=0):=by by_cases h:w.1.length=0 <;> simp [h]; omega
 have g4:decide ((w.2.1.length:Int) > 0) = !decide (w.2.1.length=0):=by by_cases h:w.2.1.length=0 <;> simp [h]; omega
 refine xs16.eq23 _ _ _ _ _ _ _ _ _ _ _ _ _ _ ?_
 simp only [xs16.t23,ix_lt,Nat.lt_irrefl,decide_false,cond_false,dec_t hne,cond_true,tmod_nat,tdiv_nat,hwr,heq,ix_nn,ix_nat,dec_t hm,wrap_succ (show k<9223372036854775807 by omega)]
 rw [show decide ((w.1.length:Int) > 12) = !decide (w.1.length≤12) from g1,show decide ((w.2.1.length:Int) > 200) = !decide (w.2.1.length≤200) from g2]
 simp only [g3,g4]
 unfold tailB at h1 h2
 revert h1 h2
 generalize xs16.l13 P W (P.length:Int) a W (W.length:Int) ((k+1:Nat):Int)=c
 cases decide (w.1.length ≤ 12) <;> cases decide (w.2.1.length ≤ 200) <;> cases decide (k / P.length = k % P.length) <;> cases decide (w.1.length = 0) <;> cases decide (w.2.1.length = 0) <;> cases w.2.2 <;> cases (P.getD (k % P.length) zP).2.2 <;>
  intro h1 h2 <;> first | exact h1 rfl | (rw [h2 rfl]; rfl)
theorem spec_recs {k : Nat} (hk : k < W.length) {w : Wir} (hx : W.getD k zW = w) : ∀ j, j ≤ w.2.1.length → ∀ (a : Int) (b : Bool), 0 ≤ a → a ≤ 4000000000000000000 + j * 1000000 →
 ((w.2.1.drop j).all (inB 1 1000000)=true→tailB P k w=true→xs16.l13 P W (P.length:Int) (a+sumI (w.2.1.drop j)) W (W.length:Int) ((k+1:Nat):Int)=some b)→(((w.2.1.drop j).all (inB 1 1000000) && tailB P k w)=false→b=false) →
 xs16.l23 P W (P.length:Int) a (k:Int) w.1 w.2.1 w.2.2 W (W.length:Int) (k:Int) w.2.1 (w.2.1.length:Int) (j:Int)=some b:=by
 have hl1:=hl w (by rw [← hx]; exact getD_mem zW hk)
 refine upto ?_ ?_
 · intro a b _ _ h1 h2
   rw [List.drop_length] at h1 h2
   refine spec_tail hp hw hl hk hx (fun h => ?_) fun h => h2 (by rw [h]; rfl)
   have:=h1 rfl h
   simpa [sumI] using this
 · intro j hj ih a b ha hb h1 h2
   rw [drop_getD 0 hj] at h1 h2
   simp only [List.all_cons,sumI] at h1 h2
   refine xs16.eq23 _ _ _ _ _ _ _ _ _ _ _ _ _ _ ?_
   simp only [xs16.t23,ix_lt,ix_nn,ix_nat,dec_t hj,cond_true,xs10_eq,Option.bind_some,wrap_succ (show j<9223372036854775807 by omega)]
   generalize w.2.1.getD j 0=x at h1 h2 ⊢
   by_cases h0:x=0
   · have : (x == 0) = true := by simpa using h0
     have h3:inB 1 1000000 x=false:=by rw [h0]; rfl
     rw [this,h2 (by rw [h3]; rfl)]
     rfl
   · have h3 : (x == 0) = false := by simpa using h0
     have h4:inB 1 1000000 x=inB 0 1000000 x:=bool_eq (by rw [inB_iff,inB_iff]; omega)
     rw [h4] at h1 h2
     cases h5:inB 0 1000000 x with
     | false => rw [h3,h2 (by rw [h5]; rfl)]; rfl
     | true =>
       have h6:=inB_iff.1 h5
       rw [h5,Bool.true_and] at h1 h2
       simp only [h3,cond_false,bang_t]
       rw [wrap_id (by omega) (by omega)]
       refine ih _ _ (by omega) (by omega) (fun g1 g2 => ?_) h2
       rw [show a+x+sumI (w.2.1.drop (j+1))=a+(x+sumI (w.2.1.drop (j+1))) by omega]
       exact h1 g1 g2
theorem spec_words {k : Nat} (hk : k < W.length) {w : Wir} (hx : W.getD k zW = w) : ∀ j, j ≤ w.1.length → ∀ (a : Int) (b : Bool), 0 ≤ a → a ≤ 2000000000000000000 + j * 1000000 →
 ((w.1.drop j).all (inB 0 1000000)=true→w.2.1.all (inB 1 1000000)=true→tailB P k w=true→xs16.l13 P W (P.length:Int) (a+(sumI (w.1.drop j)+sumI w.2.1)) W (W.length:Int) ((k+1:Nat):Int)=some b) →
 (((w.1.drop j).all (inB 0 1000000) && (w.2.1.all (inB 1 1000000) && tailB P k w))=false→b=false) →
 xs16.l16 P W (P.length:Int) a (k:Int) w.1 w.2.1 w.2.2 W (W.length:Int) (k:Int) w.1 (w.1.length:Int) (j:Int)=some b:=by
 have hl1:=hl w (by rw [← hx]; exact getD_mem zW hk)
 refine upto ?_ ?_
 · intro a b ha hb h1 h2
   rw [List.drop_length] at h1 h2
   refine xs16.eq16 _ _ _ _ _ _ _ _ _ _ _ _ _ _ ?_
   simp only [xs16.t16,ix_lt,Nat.lt_irrefl,decide_false,cond_false]
   refine spec_recs hp hw hl hk hx 0 (Nat.zero_le _) a b ha (by omega) (fun g1 g2 => ?_) fun g => h2 (by simpa using g)
   have:=h1 rfl (by simpa using g1) g2
   simpa [sumI] using this
 · intro j hj ih a b ha hb h1 h2
   rw [drop_getD 0 hj] at h1 h2
   simp only [List.all_cons,sumI] at h1 h2
   refine xs16.eq16 _ _ _ _ _ _ _ _ _ _ _ _ _ _ ?_
   simp only [xs16.t16,ix_lt,ix_nn,ix_nat,dec_t hj,cond_true,xs10_eq,Option.bind_some,wrap_succ (show j<9223372036854775807 by omega)]
   generalize w.1.getD j 0=x at h1 h2 ⊢
   cases h5:inB 0 1000000 x with
   | false => rw [h2 (by rw [h5]; rfl)]; rfl
   | true =>
     have h6:=inB_iff.1 h5
     rw [h5,Bool.true_and] at h1 h2
     simp only [cond_false,bang_t]
     rw [wrap_id (by omega) (by omega)]
     refine ih _ _ (by omega) (by omega) (fun g1 g2 g3 => ?_) h2
     rw [show a+x+(sumI (w.1.drop (j+1))+sumI w.2.1)=a+(x+sumI (w.1.drop (j+1))+sumI w.2.1) by omega]
     exact h1 g1 g2 g3
theorem spec_GoodSnap_l13:∀ i,i≤W.length→∀ a:Int,0≤a→a≤20000000000+i * 3000000000000000→xs16.l13 P W (P.length:Int) a W (W.length:Int) (i:Int)=some (wiresB P i (W.drop i) && leB (a+totW (W.drop i))):=by
 have h16:=W16 hp hw hl
 refine upto ?_ ?_
 · intro a _ _
   refine xs16.eq13 _ _ _ _ _ _ _ ?_
   rw [List.drop_length]
   simp only [xs16.t13,ix_lt,Nat.lt_irrefl,decide_false,cond_false,wiresB,totW,Int.add_zero,Bool.true_and,leB]
 · intro i hi ih a ha hb
   refine xs16.eq13 _ _ _ _ _ _ _ ?_
   simp only [xs16.t13,ix_lt,ix_nn,ix_nat,dec_t hi,cond_true]
   rw [drop_getD zW hi]
   have hl1:=hl _ (getD_mem zW hi)
   generalize hx:W.getD i zW=w at hl1 ⊢
   simp only [wiresB,totW,wireB_tail]
   refine spec_words hp hw hl hi hx 0 (Nat.zero_le _) a _ ha (by omega) (fun g1 g2 g3 => ?_) fun g => ?_
   · rw [List.drop_zero] at g1 ⊢
     have k1:=sumI_bound g1
     have k2:=sumI_bound (all_10 g2)
     rw [ih _ (by omega) (by omega),g1,g2,g3]
     simp only [Bool.true_and]
     congr 3
     omega
   · rw [List.drop_zero] at g
     rw [g]; rfl
theorem spec_GoodSnap_l6:∀ i,i≤P.length→∀ a:Int,0≤a→a≤i * 4000000000→xs16.l6 P W (P.length:Int) a P (P.length:Int) (i:Int)=some ((P.drop i).all procB && (wiresB P 0 W && leB (a+totP (P.drop i)+totW W))):=by
 refine upto ?_ ?_
 · intro a ha hb
   refine xs16.eq6 _ _ _ _ _ _ _ ?_
   have:=spec_GoodSnap_l13 hp hw hl 0 (Nat.zero_le _) a ha (by omega)
   rw [List.drop_length]
   simp only [xs16.t6,ix_lt,Nat.lt_irrefl,decide_false,cond_false]
   simpa [totP] using this
 · intro i hi ih a ha hb
   refine xs16.eq6 _ _ _ _ _ _ _ ?_
   simp only [xs16.t6,ix_lt,ix_nn,ix_nat,dec_t hi,cond_true,xs1n_eq,Option.bind_some,wrap_succ (show i<9223372036854775807 by omega)]
   rw [drop_getD zP hi]
   generalize hx:P.getD i zP=p
   simp only [List.all_cons,procB,totP]
   cases h1:inB 0 2000000000 p.1 with
   | false => simp
   | true =>
     cases h2:inB 0 2000000000 p.2.1 with
     | false => simp
     | true =>
       have g1:=inB_iff.1 h1
       have g2:=inB_iff.1 h2
       have cont:xs16.l6 P W (P.length:Int) (IntKind.i64.wrap (a+IntKind.i64.wrap (p.1+p.2.1))) P (P.length:Int) ((i+1:Nat):Int)=some ((P.drop (i+1)).all procB && (wiresB P 0 W && leB (a+(p.1+p.2.1+totP (P.drop (i+1)))+totW W))):=by
         rw [wrap_id (x:=p.1+p.2.1) (by omega) (by omega),wrap_id (by omega) (by omega),ih _ (by omega) (by omega)]
         congr 4
         omega
       simp only [bang_t,cond_false,cont]
       cases p.2.2 with
       | true =>
         simp only [bang_t,cond_false,Bool.true_or,Bool.true_and]
       | false =>
         by_cases h3:p.2.1=0
         · have h4 : (p.2.1 != 0) = false := by simpa using h3
           have h5:(p.2.1 == 0)=true:=by simpa using h3
           simp only [bang_f,cond_true,h4,h5,cond_false,Bool.or_true,Bool.true_and]
         · have h4 : (p.2.1 != 0) = true := by simpa using h3
           have h5:(p.2.1 == 0)=false:=by simpa using h3
           simp only [bang_f,cond_true,h4,h5,Bool.or_false,Bool.and_false,Bool.false_and]
end
theorem sq_big (n:Nat) (h:n≤1073741824):IntKind.i64.wrap ((n:Int) * (n:Int))=((n * n:Nat):Int):=by
 have h1:n * n≤1073741824 * 1073741824:=Nat.mul_le_mul h h
 rw [wrap_id (by rw [← Int.natCast_mul]; omega) (by rw [← Int.natCast_mul]; omega),Int.natCast_mul]
theorem xs16_eq (P:List Prc) (W:List Wir) (hl:∀ w,w∈W→w.1.length≤1073741824∧w.2.1.length≤1073741824):xs16 P W=some (goodB P W):=by
 refine xs16.eq P W ?_
 simp only [xs16.t,xs1n_eq,Option.bind_some,inB24,goodB]
 by_cases hp:2≤P.length∧P.length≤4
 · rw [dec_t hp, sq_nat _ hp.2]
   by_cases hw:W.length=P.length * P.length
   · have h1 : ((W.length : Int) != ((P.length * P.length : Nat) : Int)) = false := by rw [hw]; simp
     have:=spec_GoodSnap_l6 hp hw hl 0 (Nat.zero_le _) 0 (by omega) (by omega)
     simp only [bang_t,cond_false,h1,dec_t hw,Bool.true_and]
     simpa using this
   · have h1 : ((W.length : Int) != ((P.length * P.length : Nat) : Int)) = true := by simp; omega
     simp only [bang_t,cond_false,h1,dec_f hw,cond_true,Bool.true_and,Bool.false_and]
 · rw [dec_f hp]
   simp only [bang_f,cond_true,Bool.false_and]
/-! ## Copies -/
theorem xs1l_eq (P:List Prc) (W:List Wir) (hP:P.length≤1073741824) (hW:W.length≤1073741824) (hl:∀ w,w∈W→w.1.length≤1073741824∧w.2.1.length≤1073741824):xs1l P W=some (P,W):=by
 refine xs1l.eq P W ?_
 have h0:([]:List Int).length+P.length≤4294967296:=by simp; omega
 simp only [xs1l.t,dec_t h0,cond_true,List.nil_append]
 have key:∀ i,i≤W.length→∀ acc:List Wir,acc.length=i→xs1l.l3 [] [] P acc W (W.length:Int) (i:Int)=some (P,acc ++ W.drop i):=by
  refine upto ?_ ?_
  · intro acc _
    refine xs1l.eq3 _ _ _ _ _ _ _ ?_
    rw [List.drop_length]
    simp only [xs1l.t3,ix_lt,Nat.lt_irrefl,decide_false,cond_false,List.append_nil]
  · intro i hi ih acc hacc
    have hl1:=hl _ (getD_mem zW hi)
    have h1:([]:List Int).length+(W.getD i zW).1.length≤4294967296:=by simp only [List.length_nil,Nat.zero_add]; omega
    have h2:([]:List Int).length+(W.getD i zW).2.1.length≤4294967296:=by simp only [List.length_nil,Nat.zero_add]; omega
    have h3:acc.length+[((W.getD i zW).1,(W.getD i zW).2.1,(W.getD i zW).2.2)].length≤4294967296:=by simp only [List.length_cons,List.length_nil]; omega
    refine xs1l.eq3 _ _ _ _ _ _ _ ?_
    simp only [xs1l.t3,ix_lt,ix_nn,ix_nat,dec_t hi,cond_true,dec_t h1,dec_t h2,dec_t h3,wrap_succ (show i<9223372036854775807 by omega),List.nil_append]
    rw [ih _ (by simp [hacc]),drop_getD zW hi,List.append_assoc]
    rfl
 have:=key 0 (Nat.zero_le _) [] rfl
 simpa using this
theorem clone_procs (l:List Prc) (h:l.length≤1073741824):xs08 l=some l:=by
 refine xs08.eq l ?_
 have h1:l.length≤4294967296:=by omega
 simp only [xs08.t,dec_t h1,cond_true]
theorem clone_ints (l:List Int) (h:l.length≤1073741824):xs0b l=some l:=by
 refine xs0b.eq l ?_
 have h1:l.length≤4294967296:=by omega
 simp only [xs0b.t,dec_t h1,cond_true]
theorem xi13_eq (P:List Prc) (W:List Wir) (hP:P.length≤1073741824) (hW:W.length≤1073741824) (hl:∀ w,w∈W→w.1.length≤1073741824∧w.2.1.length≤1073741824):xi13 P W=some (P,W):=by
 refine xi13.eq P W ?_
 simp only [xi13.t,clone_procs P hP,Option.bind_some]
 have key:∀ i,i≤W.length→∀ acc:List Wir,acc.length=i→xi13.l3 [] [] P acc W (W.length:Int) (i:Int)=some (P,acc ++ W.drop i):=by
  refine upto ?_ ?_
  · intro acc _
    refine xi13.eq3 _ _ _ _ _ _ _ ?_
    rw [List.drop_length]
    simp only [xi13.t3,ix_lt,Nat.lt_irrefl,decide_false,cond_false,List.append_nil]
  · intro i hi ih acc hacc
    have hl1:=hl _ (getD_mem zW hi)
    have h3:acc.length+[((W.getD i zW).1,(W.getD i zW).2.1,(W.getD i zW).2.2)].length≤4294967296:=by simp only [List.length_cons,List.length_nil]; omega
    refine xi13.eq3 _ _ _ _ _ _ _ ?_
    simp only [xi13.t3,ix_lt,ix_nn,ix_nat,dec_t hi,cond_true,clone_ints _ hl1.1,clone_ints _ hl1.2,Option.bind_some,dec_t h3,wrap_succ (show i<9223372036854775807 by omega)]
    rw [ih _ (by simp [hacc]),drop_getD zW hi,List.append_assoc]
    rfl
 have:=key 0 (Nat.zero_le _) [] rfl
 simpa using this
end GoV

/- Pictures: a step, alike. -/
namespace GoV
open Go
/-- What lies on the way is not too long. -/
def SnI (P:List Prc) (W:List Wir):Prop:=(2≤P.length∧P.length≤4)∧W.length=P.length * P.length∧∀ w,w∈W→w.1.length≤12∧w.2.1.length≤200∧∀ x,x∈w.1→0≤x
theorem wires_inv {P : List Prc} : ∀ {W : List Wir} {k : Nat}, wiresB P k W = true → ∀ w, w ∈ W → w.1.length ≤ 12 ∧ w.2.1.length ≤ 200 ∧ ∀ x, x ∈ w.1 → 0 ≤ x
 | [],_,_,w,hw => by simp at hw
 | v::W,k,h,w,hw => by
   simp only [wiresB,Bool.and_eq_true] at h
   rcases List.mem_cons.1 hw with rfl | hw
   · obtain ⟨h1, h2, h3, _⟩ := wire_bounds h.1
     exact ⟨h1,h3,fun x hx => (inB_iff.1 (List.all_eq_true.1 h2 x hx)).1⟩
   · exact wires_inv h.2 w hw
theorem good_inv {P:List Prc} {W:List Wir} (h:goodB P W=true):SnI P W:=by
 simp only [goodB,Bool.and_eq_true,decide_eq_true_eq] at h
 exact ⟨h.1,h.2.1,wires_inv h.2.2.2.1⟩
def setOpen (W:List Wir) (k:Nat) (b:Bool):List Wir:=W.set k ((W.getD k zW).1,(W.getD k zW).2.1,b)
def addWord (W:List Wir) (k:Nat) (x:Int):List Wir:=W.set k ((W.getD k zW).1 ++ [x],(W.getD k zW).2)
def saveF (n who : Nat) (shut : Int) : List Nat → List Wir → Bool × List Wir
 | [],W => (true,W)
 | o :: r, W => if o = who then saveF n who shut r W else
   let W1:=setOpen W (o * n+who) ((o:Int) != shut)
   if (W1.getD (who * n+o) zW).1.length=12 then (false,W1) else saveF n who shut r (addWord W1 (who * n+o) 0)
def doneAt (P:List Prc) (i:Nat):List Prc:=P.set i ((P.getD i zP).1,(P.getD i zP).1,true)
def saveR (P:List Prc) (W:List Wir) (who:Nat) (shut:Int):Bool × List Wir:=saveF P.length who shut (List.range P.length) W
theorem len12 {n:Nat} (h:n≠12):((n:Int) == 12)=false:=by
 simp only [beq_eq_false_iff_ne,ne_eq]; omega
theorem getD_set_self {α:Type} {l:List α} {i:Nat} {x z:α} (h:i<l.length):(l.set i x).getD i z=x:=by
 simp [List.getD_eq_getElem?_getD,h]
theorem idx_nat {n f t:Nat} (hn:n≤4) (hf:f<n) (ht:t<n):IntKind.i64.wrap (IntKind.i64.wrap ((f:Int) * (n:Int))+(t:Int))=((f * n+t:Nat):Int):=by
 have h1:f * n≤4 * 4:=Nat.mul_le_mul (by omega) hn
 rw [← Int.natCast_mul,wrap_id (x:=((f * n:Nat):Int)) (by omega) (by omega),wrap_id (by omega) (by omega)]
 omega
theorem idx_lt {n f t:Nat} (hf:f<n) (ht:t<n):f * n+t<n * n:=by
 have h1:(f+1) * n≤n * n:=Nat.mul_le_mul_right n hf
 have h2:(f+1) * n=f * n+n:=Nat.succ_mul f n
 omega
theorem SnI.setOpen {P:List Prc} {W:List Wir} (h:SnI P W) {k:Nat} (hk:k<W.length) (b:Bool):SnI P (GoV.setOpen W k b):=by
 refine ⟨h.1,by simp [GoV.setOpen,h.2.1],fun w hw => ?_⟩
 rcases List.mem_or_eq_of_mem_set hw with hw | rfl
 · exact h.2.2 w hw
 · have h1 := h.2.2 _ (getD_mem zW hk)
   exact h1
theorem SnI.addWord {P:List Prc} {W:List Wir} (h:SnI P W) {k:Nat} (hk:k<W.length) {x:Int} (hx:0≤x) (hl:(W.getD k zW).1.length≠12):SnI P (GoV.addWord W k x):=by
 have h1:=h.2.2 _ (getD_mem zW hk)
 refine ⟨h.1,by simp [GoV.addWord,h.2.1],fun w hw => ?_⟩
 rcases List.mem_or_eq_of_mem_set hw with hw | rfl
 · exact h.2.2 w hw
 · refine ⟨by simp only [List.length_append, List.length_singleton]; omega, h1.2.1, fun y hy => ?_⟩
   rcases List.mem_append.1 hy with hy | hy
   · exact h1.2.2 y hy
   · rw [List.mem_singleton.1 hy]; exact hx
section
variable {P:List Prc} {i:Nat} (hi:i<P.length)
include hi
theorem impl_save_l4 (thr : Int) : ∀ o, o ≤ P.length → ∀ W : List Wir, SnI P W → xi0c.l4 P W (i : Int) thr (P.length : Int) (o : Int) =
 some ((saveF P.length i thr ((List.range P.length).drop o) W).1,P,(saveF P.length i thr ((List.range P.length).drop o) W).2):=by
 refine upto ?_ ?_
 · intro W _
   refine xi0c.eq4 _ _ _ _ _ _ ?_
   rw [List.drop_eq_nil_of_le (by simp)]
   simp only [xi0c.t4,ix_lt,Nat.lt_irrefl,decide_false,cond_false,saveF]
 · intro o ho ih W hI
   have hn:=hI.1
   have hdrop:(List.range P.length).drop o=o::(List.range P.length).drop (o+1):=by
    rw [drop_getD 0 (by simpa using ho)]
    congr 1
    simp [List.getD_eq_getElem?_getD,ho]
   rw [hdrop]
   refine xi0c.eq4 _ _ _ _ _ _ ?_
   have k1:o * P.length+i<W.length:=by rw [hI.2.1]; exact idx_lt ho hi
   have k2:i * P.length+o<W.length:=by rw [hI.2.1]; exact idx_lt hi ho
   simp only [xi0c.t4,ix_lt,dec_t ho,cond_true,wrap_succ (show o<9223372036854775807 by omega),idx_nat hn.2 ho hi,idx_nat hn.2 hi ho,ix_nn,ix_nat,dec_t k1,List.length_set,dec_t k2]
   by_cases e:o=i
   · have : ((o : Int) == (i : Int)) = true := by simp [e]
     rw [this]
     simp only [cond_true,saveF,if_pos e]
     exact ih W hI
   · have : ((o : Int) == (i : Int)) = false := by simp; omega
     rw [this]
     simp only [cond_false,saveF,if_neg e]
     have hI1:=hI.setOpen k1 ((o:Int) != thr)
     have k3:i * P.length+o<(setOpen W (o * P.length+i) ((o:Int) != thr)).length:=by simpa [setOpen] using k2
     have hS:W.set (o * P.length+i) ((W.getD (o * P.length+i) zW).1,(W.getD (o * P.length+i) zW).2.1,(o:Int) != thr)=setOpen W (o * P.length+i) ((o:Int) != thr):=rfl
     simp only [hS]
     by_cases h12:((setOpen W (o * P.length+i) ((o:Int) != thr)).getD (i * P.length+o) zW).1.length=12
     · have h13 : ((((setOpen W (o * P.length + i) ((o : Int) != thr)).getD (i * P.length + o) zW).1.length : Int) == 12) = true := by rw [h12]; rfl
       simp only [if_pos h12,h13,cond_true]
     · have h13 : ((((setOpen W (o * P.length + i) ((o : Int) != thr)).getD (i * P.length + o) zW).1.length : Int) == 12) = false := len12 h12
       have hle:=(hI1.2.2 _ (getD_mem zW k3)).1
       have h14:((setOpen W (o * P.length+i) ((o:Int) != thr)).getD (i * P.length+o) zW).1.length+[(0:Int)].length≤4294967296:=by simp only [List.length_singleton]; omega
       simp only [if_neg h12,h13,cond_false,dec_t h14,cond_true,decide_true]
       exact ih _ (hI1.addWord k3 (Int.le_refl 0) h12)
theorem impl_save_eq {W:List Wir} (hI:SnI P W) (thr:Int):xi0c P W (i:Int) thr=some ((saveR P W i thr).1,doneAt P i,(saveR P W i thr).2):=by
 refine xi0c.eq _ _ _ _ ?_
 have e1:(P.set i ((P.getD i zP).1,(P.getD i zP).1,(P.getD i zP).2.2)).getD i zP=((P.getD i zP).1,(P.getD i zP).1,(P.getD i zP).2.2):=getD_set_self hi
 have hd:i<(doneAt P i).length:=by simpa [doneAt] using hi
 have hI':SnI (doneAt P i) W:=by simpa [SnI,doneAt] using hI
 have:=impl_save_l4 hd thr 0 (Nat.zero_le _) W hI'
 have hlen:(doneAt P i).length=P.length:=by simp [doneAt]
 simp only [xi0c.t,ix_nn,ix_nat,dec_t hi,List.length_set,cond_true,e1,List.set_set]
 rw [List.drop_zero,hlen] at this
 exact this
end
/-- Whom the marker came from is no matter at a start. -/
theorem saveF_start {n who : Nat} : ∀ {l : List Nat} {W : List Wir}, saveF n who (-1) l W = saveF n who (who : Int) l W
 | [],W => rfl
 | o::l,W => by
   simp only [saveF]
   by_cases e:o=who
   · rw [if_pos e,if_pos e]; exact saveF_start
   · have h1 : ((o : Int) != -1) = true := by simp only [bne_iff_ne, ne_eq]; omega
     have h2:((o:Int) != (who:Int))=true:=by simp only [bne_iff_ne,ne_eq]; omega
     rw [if_neg e,if_neg e,h1,h2,saveF_start]
end GoV

/- Pictures: a step of the program's. -/
namespace GoV
open Go
/-- A word is taken. -/
def takeR (P:List Prc) (W:List Wir) (f t:Nat):Bool × List Prc × List Wir :=
 let k:=f * P.length+t
 let w:=W.getD k zW
 if w.1.length=0∨200≤w.2.1.length then (false,P,W) else
 if w.1.getD 0 0 = 0 then
    if (P.getD t zP).2.2=true then (true,P,W.set k (w.1.drop 1,w.2.1,false))
    else ((saveR P (W.set k (w.1.drop 1,w.2)) t f).1,doneAt P t,(saveR P (W.set k (w.1.drop 1,w.2)) t f).2)
 else (true, P.set t (IntKind.i64.wrap ((P.getD t zP).1 + w.1.getD 0 0), (P.getD t zP).2),
    if w.2.2=true then W.set k (w.1.drop 1,w.2.1 ++ [w.1.getD 0 0],w.2.2) else W.set k (w.1.drop 1,w.2))
/-- A word is sent. -/
def sendR (P:List Prc) (W:List Wir) (f t:Nat) (by_:Int):Bool × List Prc × List Wir :=
 let k:=f * P.length+t
 if (inB 1 (P.getD f zP).1 by_ && inB 0 1000000 by_) = true ∧ (W.getD k zW).1.length ≠ 12 then
    (true,P.set f (IntKind.i64.wrap ((P.getD f zP).1 - by_),(P.getD f zP).2),addWord W k by_)
 else (false,P,W)
def stepR (P:List Prc) (W:List Wir) (kind f t by_:Int):Bool × List Prc × List Wir :=
 if ¬(0≤f∧f<P.length) then (false,P,W) else
 if kind=3 then (if (P.getD f.toNat zP).2.2=true then (false,P,W) else ((saveR P W f.toNat f).1,doneAt P f.toNat,(saveR P W f.toNat f).2)) else
 if ¬(0≤t∧t<P.length) then (false,P,W) else
 if f=t then (false,P,W) else
 if kind=1 then sendR P W f.toNat t.toNat by_ else
 if kind=2 then takeR P W f.toNat t.toNat else (false,P,W)
theorem toNat1:(1:Int).toNat=1:=rfl
theorem inB_min (b a:Int):inB 1 (if (1000000:Int)<a then 1000000 else a) b=(inB 1 a b && inB 0 1000000 b):=by
 refine bool_eq ?_
 rw [Bool.and_eq_true,inB_iff,inB_iff,inB_iff]
 split <;> omega
theorem SnI.dropW {P:List Prc} {W:List Wir} (h:SnI P W) {k:Nat} (hk:k<W.length):SnI P (W.set k ((W.getD k zW).1.drop 1,(W.getD k zW).2)):=by
 have h1:=h.2.2 _ (getD_mem zW hk)
 refine ⟨h.1,by simp [h.2.1],fun w hw => ?_⟩
 rcases List.mem_or_eq_of_mem_set hw with hw | rfl
 · exact h.2.2 w hw
 · refine ⟨by simp only [List.length_drop]; omega,h1.2.1,fun y hy => h1.2.2 y (List.mem_of_mem_drop hy)⟩
section
variable {P:List Prc} {W:List Wir} (hI:SnI P W) {f t:Nat} (hf:f<P.length) (ht:t<P.length)
include hI hf ht
theorem impl_send_eq (kind by_:Int):xi0d P W kind (f:Int) (t:Int) by_=some (sendR P W f t by_):=by
 have hn:=hI.1
 have hk:f * P.length+t<W.length:=by rw [hI.2.1]; exact idx_lt hf ht
 refine xi0d.eq _ _ _ _ _ _ ?_
 simp only [xi0d.t,idx_nat hn.2 hf ht,ix_nn,ix_nat,dec_t hk,dec_t hf,cond_true,if_true,xi1f_eq,Option.bind_some,inB_min,sendR]
 cases (inB 1 (P.getD f zP).1 by_ && inB 0 1000000 by_) with
 | false => simp only [Bool.not_false,cond_true,Bool.false_eq_true,false_and,if_false]
 | true =>
   by_cases h12:(W.getD (f * P.length+t) zW).1.length=12
   · have h13 : (((W.getD (f * P.length + t) zW).1.length : Int) == 12) = true := by rw [h12]; rfl
     simp only [Bool.not_true,cond_false,h13,cond_true]
     rw [if_neg (fun h => h.2 h12)]
   · have h13 : (((W.getD (f * P.length + t) zW).1.length : Int) == 12) = false := len12 h12
     have hle:=(hI.2.2 _ (getD_mem zW hk)).1
     have h14:(W.getD (f * P.length+t) zW).1.length+[by_].length≤4294967296:=by simp only [List.length_singleton]; omega
     simp only [Bool.not_true,cond_false,h13,dec_t h14,cond_true,decide_true,addWord,h12,ne_eq,not_false_eq_true,and_self,if_true]
theorem impl_take_eq:xi0f P W (f:Int) (t:Int)=some (takeR P W f t):=by
 have hn:=hI.1
 have hk:f * P.length+t<W.length:=by rw [hI.2.1]; exact idx_lt hf ht
 have hI1:=hI.dropW hk
 refine xi0f.eq _ _ _ _ ?_
 have hg:∀ x:Wir,(W.set (f * P.length+t) x).getD (f * P.length+t) zW=x:=fun x => getD_set_self hk
 have hb:=hI.2.2 _ (getD_mem zW hk)
 simp only [xi0f.t,idx_nat hn.2 hf ht,ix_nn,ix_nat,dec_t hk,dec_t ht,cond_true,takeR,List.length_set,hg,List.set_set,Option.getD_some,decide_true,impl_save_eq ht hI1,Option.bind_some]
 generalize hw:W.getD (f * P.length+t) zW=w at hb ⊢
 by_cases h0:w.1.length=0
 · have h1 : ((w.1.length : Int) == 0) = true := by rw [h0]; rfl
   simp only [h1,cond_true]
   rw [if_pos (Or.inl h0)]
 · have h1 : ((w.1.length : Int) == 0) = false := by simp only [beq_eq_false_iff_ne, ne_eq]; omega
   by_cases h2:200≤w.2.1.length
   · have h3 : decide ((w.2.1.length : Int) ≥ 200) = true := dec_t (by omega)
     simp only [h1,h3,cond_true,cond_false]
     rw [if_pos (Or.inr h2)]
   · have h3 : decide ((w.2.1.length : Int) ≥ 200) = false := dec_f (by omega)
     have h4:0<w.1.length:=by omega
     have h5:(1:Int)≤(w.1.length:Int):=by omega
     have h6:w.2.1.length+[w.1.getD (0:Nat) (0:Int)].length≤4294967296:=by simp only [List.length_singleton]; omega
     simp only [h1,h3,cond_false,Int.toNat_zero,dec_t h4,dec_t h5,dec_t h6,cond_true]
     rw [if_neg (by omega)]
     by_cases h7:w.1.getD 0 0=0
     · have h8 : (w.1.getD 0 0 != 0) = false := by simpa using h7
       rw [h8,if_pos h7,cond_false]
       cases hd:(P.getD t zP).2.2 with
       | false =>
         rw [if_neg (by simp)]
         have e:=impl_save_eq ht (W:=W.set (f * P.length+t) (w.1.drop 1,w.2)) (by rw [← hw]; exact hI1) (f:Int)
         simp only [toNat1,e,Option.bind_some,Bool.not_false,cond_true]
       | true => rw [if_pos rfl]; rfl
     · have h8 : (w.1.getD 0 0 != 0) = true := by simpa using h7
       rw [h8,if_neg h7,cond_true]
       cases w.2.2 with
       | false => rfl
       | true => rfl
end
theorem lt_of_in {f:Int} {n:Nat} (h:0≤f∧f<n):f.toNat<n:=by omega
theorem in_last (n:Nat) (hn:2≤n∧n≤4) (f:Int):inB 0 (IntKind.i64.wrap ((n:Int) - 1)) f=decide (0≤f∧f<n):=by
 rw [wrap_id (by omega) (by omega)]
 refine bool_eq ?_
 rw [inB_iff,decide_eq_true_eq]
 omega
theorem impl_step_eq {P:List Prc} {W:List Wir} (hI:SnI P W) (kind f t by_:Int):xi0e P W kind f t by_=some (stepR P W kind f t by_):=by
 have hn:=hI.1
 refine xi0e.eq _ _ _ _ _ _ ?_
 simp only [xi0e.t,xi1f_eq,Option.bind_some,in_last _ hn,stepR]
 by_cases hf:0≤f∧f<P.length
 · have hf' := lt_of_in hf
   have ef:((f.toNat:Nat):Int)=f:=by omega
   rw [dec_t hf,if_neg (fun h => h hf),Bool.not_true,cond_false]
   by_cases h3:kind=3
   · have h3' : (kind == 3) = true := by simpa using h3
     rw [h3',if_pos h3,cond_true,dec_t hf.1,cond_true,dec_t hf',cond_true,cond_true]
     cases hd:(P.getD f.toNat zP).2.2 with
     | true => rfl
     | false =>
       have e:=impl_save_eq hf' hI f
       rw [ef] at e
       simp only [e,Option.bind_some,Bool.not_false,cond_true]
       rfl
   · have h3' : (kind == 3) = false := by simpa using h3
     rw [h3',if_neg h3,cond_false]
     by_cases ht:0≤t∧t<P.length
     · have ht' := lt_of_in ht
       have et:((t.toNat:Nat):Int)=t:=by omega
       rw [dec_t ht,if_neg (fun h => h ht),Bool.not_true,cond_false]
       by_cases hft:f=t
       · have h4 : (t == f) = true := by simpa using hft.symm
         rw [h4,if_pos hft,cond_true]
       · have h4 : (t == f) = false := by simpa using fun h => hft h.symm
         rw [h4,if_neg hft,cond_false]
         have e1:=impl_send_eq hI hf' ht' kind by_
         have e2:=impl_take_eq hI hf' ht'
         rw [ef,et] at e1 e2
         rw [e1,e2]
         by_cases h1:kind=1
         · subst h1; rfl
         · have h1' : (kind == 1) = false := by simpa using h1
           rw [h1',if_neg h1,cond_false]
           by_cases h2:kind=2
           · subst h2; rfl
           · have h2' : (kind == 2) = false := by simpa using h2
             rw [h2',if_neg h2,cond_false]
     · rw [dec_f ht,if_pos ht,Bool.not_false,cond_true]
 · rw [dec_f hf,if_pos hf,Bool.not_false,cond_true]
end GoV

/- Pictures: a step of the specification's. -/
namespace GoV
open Go
section
variable {P:List Prc} {i:Nat} (hi:i<P.length)
include hi
theorem spec_save_l5 (thr : Int) (W0 : List Wir) (P0 : List Prc) : ∀ o, o ≤ P.length → ∀ W : List Wir, SnI P W → xs0t.l5 (i : Int) thr P W P0 W0 (P.length : Int) (o : Int) =
 some (P,(saveF P.length i thr ((List.range P.length).drop o) W).2,(saveF P.length i thr ((List.range P.length).drop o) W).1):=by
 refine upto ?_ ?_
 · intro W _
   refine xs0t.eq5 _ _ _ _ _ _ _ _ ?_
   rw [List.drop_eq_nil_of_le (by simp)]
   simp only [xs0t.t5,ix_lt,Nat.lt_irrefl,decide_false,cond_false,saveF]
 · intro o ho ih W hI
   have hn:=hI.1
   have hdrop:(List.range P.length).drop o=o::(List.range P.length).drop (o+1):=by
    rw [drop_getD 0 (by simpa using ho)]
    congr 1
    simp [List.getD_eq_getElem?_getD,ho]
   rw [hdrop]
   refine xs0t.eq5 _ _ _ _ _ _ _ _ ?_
   have k1:o * P.length+i<W.length:=by rw [hI.2.1]; exact idx_lt ho hi
   have k2:i * P.length+o<W.length:=by rw [hI.2.1]; exact idx_lt hi ho
   simp only [xs0t.t5,ix_lt,dec_t ho,cond_true,wrap_succ (show o<9223372036854775807 by omega),idx_nat hn.2 ho hi,idx_nat hn.2 hi ho,ix_nn,ix_nat,dec_t k1,List.length_set,dec_t k2]
   by_cases e:o=i
   · have : ((o : Int) == (i : Int)) = true := by simp [e]
     rw [this]
     simp only [cond_true,saveF,if_pos e]
     exact ih W hI
   · have : ((o : Int) == (i : Int)) = false := by simp; omega
     rw [this]
     simp only [cond_false,saveF,if_neg e]
     have hI1:=hI.setOpen k1 ((o:Int) != thr)
     have k3:i * P.length+o<(setOpen W (o * P.length+i) ((o:Int) != thr)).length:=by simpa [setOpen] using k2
     have hS:W.set (o * P.length+i) ((W.getD (o * P.length+i) zW).1,(W.getD (o * P.length+i) zW).2.1,(o:Int) != thr)=setOpen W (o * P.length+i) ((o:Int) != thr):=rfl
     simp only [hS]
     by_cases h12:((setOpen W (o * P.length+i) ((o:Int) != thr)).getD (i * P.length+o) zW).1.length=12
     · have h13 : ((((setOpen W (o * P.length + i) ((o : Int) != thr)).getD (i * P.length + o) zW).1.length : Int) == 12) = true := by rw [h12]; rfl
       simp only [if_pos h12,h13,cond_true]
     · have h13 : ((((setOpen W (o * P.length + i) ((o : Int) != thr)).getD (i * P.length + o) zW).1.length : Int) == 12) = false := len12 h12
       have hle:=(hI1.2.2 _ (getD_mem zW k3)).1
       have h14:((setOpen W (o * P.length+i) ((o:Int) != thr)).getD (i * P.length+o) zW).1.length+[(0:Int)].length≤4294967296:=by simp only [List.length_singleton]; omega
       simp only [if_neg h12,h13,cond_false,dec_t h14,cond_true,decide_true]
       exact ih _ (hI1.addWord k3 (Int.le_refl 0) h12)
theorem spec_save_eq {W:List Wir} (hI:SnI P W) (thr:Int):xs0t P W (i:Int) thr=some (doneAt P i,(saveR P W i thr).2,(saveR P W i thr).1):=by
 refine xs0t.eq _ _ _ _ ?_
 have e1:(P.set i ((P.getD i zP).1,(P.getD i zP).1,(P.getD i zP).2.2)).getD i zP=((P.getD i zP).1,(P.getD i zP).1,(P.getD i zP).2.2):=getD_set_self hi
 have hd:i<(doneAt P i).length:=by simpa [doneAt] using hi
 have hI':SnI (doneAt P i) W:=by simpa [SnI,doneAt] using hI
 have:=spec_save_l5 hd thr [] [] 0 (Nat.zero_le _) W hI'
 have hlen:(doneAt P i).length=P.length:=by simp [doneAt]
 simp only [xs0t.t,ix_nn,ix_nat,dec_t hi,List.length_set,cond_true,e1,List.set_set]
 rw [List.drop_zero,hlen] at this
 exact this
end
theorem len200 {n:Nat} (h:n≤200):((n:Int) == 200)=decide (200≤n):=by
 by_cases h2:200≤n
 · rw [dec_t h2]; simp only [beq_iff_eq]; omega
 · rw [dec_f h2]; simp only [beq_eq_false_iff_ne,ne_eq]; omega
theorem spec_step_eq {P:List Prc} {W:List Wir} (hI:SnI P W) (kind f t by_:Int):xs0u P W kind f t by_=some ((stepR P W kind f t by_).2.1,(stepR P W kind f t by_).2.2,(stepR P W kind f t by_).1):=by
 have hn:=hI.1
 refine xs0u.eq _ _ _ _ _ _ ?_
 by_cases hf:0≤f∧f<P.length
 · obtain ⟨i, rfl⟩ := Int.eq_ofNat_of_zero_le hf.1
   have hi:i<P.length:=by omega
   have nf:¬¬(0≤(i:Int)∧(i:Int)<(P.length:Int)):=fun h => h hf
   have a1:decide ((i:Int)<0)=false:=dec_f (by omega)
   have a2:decide ((i:Int) ≥ (P.length:Int))=false:=dec_f (by omega)
   by_cases h3:kind=3
   · subst h3
     have e:=spec_save_eq hi hI (-1)
     have e0:saveR P W i (-1)=saveR P W i (i:Int):=by unfold saveR; exact saveF_start
     rw [e0] at e
     simp only [xs0u.t,a1,a2,cond_false,ix_nn,ix_nat,dec_t hi,cond_true,e,Option.bind_some,stepR,if_neg nf,if_true,beq_self_eq_true]
     cases hd:(P.getD i zP).2.2 with
     | true => rfl
     | false => rfl
   · have h3' : (kind == 3) = false := by simpa using h3
     by_cases ht:0≤t∧t<P.length
     · obtain ⟨j, rfl⟩ := Int.eq_ofNat_of_zero_le ht.1
       have hj:j<P.length:=by omega
       have nt:¬¬(0≤(j:Int)∧(j:Int)<(P.length:Int)):=fun h => h ht
       have b1:decide ((j:Int)<0)=false:=dec_f (by omega)
       have b2:decide ((j:Int) ≥ (P.length:Int))=false:=dec_f (by omega)
       by_cases hft:i=j
       · have h4 : ((i : Int) == (j : Int)) = true := by simp only [beq_iff_eq]; omega
         have h5:(i:Int)=(j:Int):=by omega
         simp only [xs0u.t,a1,a2,b1,b2,h3',h4,cond_false,cond_true,stepR,if_neg nf,if_neg h3,if_neg nt,if_pos h5]
       · have h4 : ((i : Int) == (j : Int)) = false := by simp only [beq_eq_false_iff_ne, ne_eq]; omega
         have h5:¬(i:Int)=(j:Int):=by omega
         have hk:i * P.length+j<W.length:=by rw [hI.2.1]; exact idx_lt hi hj
         have hI1:=hI.dropW hk
         have hg:∀ x:Wir,(W.set (i * P.length+j) x).getD (i * P.length+j) zW=x:=fun x => getD_set_self hk
         have hb:=hI.2.2 _ (getD_mem zW hk)
         simp only [xs0u.t,a1,a2,b1,b2,h3',h4,cond_false,idx_nat hn.2 hi hj,ix_nn,ix_nat,dec_t hi,dec_t hj,dec_t hk,cond_true,stepR,if_neg nf,if_neg h3,if_neg nt,if_neg h5,Int.toNat_natCast,List.length_set,hg,List.set_set,Option.getD_some,decide_true,List.nil_append,toNat1,xs1n_eq,xs10_eq,Option.bind_some]
         by_cases h1:kind=1
         · subst h1
           simp only [beq_self_eq_true,cond_true,if_true,sendR]
           cases c1:inB 1 (P.getD i zP).1 by_ with
           | false => simp
           | true =>
             cases c2:inB 0 1000000 by_ with
             | false => simp
             | true =>
               by_cases h12:(W.getD (i * P.length+j) zW).1.length=12
               · have h13 : (((W.getD (i * P.length + j) zW).1.length : Int) == 12) = true := by rw [h12]; rfl
                 rw [if_neg (fun h => h.2 h12)]
                 simp only [Bool.not_true,cond_false,h13,cond_true]
               · have h13 : (((W.getD (i * P.length + j) zW).1.length : Int) == 12) = false := len12 h12
                 have h14:(W.getD (i * P.length+j) zW).1.length+[by_].length≤4294967296:=by simp only [List.length_singleton]; omega
                 rw [if_pos ⟨rfl,h12⟩]
                 simp only [Bool.not_true,cond_false,h13,dec_t h14,cond_true,addWord]
         · have h1' : (kind == 1) = false := by simpa using h1
           rw [h1',if_neg h1,cond_false]
           by_cases h2:kind=2
           · subst h2
             have e:=spec_save_eq hj hI1 (i:Int)
             simp only [beq_self_eq_true,cond_true,if_true,takeR,e,Option.bind_some]
             generalize hw:W.getD (i * P.length+j) zW=w at hb ⊢
             by_cases h0:w.1.length=0
             · have c1 : ((w.1.length : Int) == 0) = true := by rw [h0]; rfl
               simp only [c1,cond_true]
               rw [if_pos (Or.inl h0)]
             · have c1 : ((w.1.length : Int) == 0) = false := by simp only [beq_eq_false_iff_ne, ne_eq]; omega
               rw [len200 hb.2.1]
               by_cases c2:200≤w.2.1.length
               · simp only [c1, dec_t c2, cond_true, cond_false]
                 rw [if_pos (Or.inr c2)]
               · have c4 : 0 < w.1.length := by omega
                 have c5:(1:Int)≤(w.1.length:Int):=by omega
                 have c6:w.2.1.length+[w.1.getD (0:Nat) (0:Int)].length≤4294967296:=by simp only [List.length_singleton]; omega
                 have c7:([]:List Int).length+(List.drop 1 w.1).length≤4294967296:=by simp only [List.length_nil,List.length_drop]; omega
                 have c8:=hb.2.2 _ (getD_mem 0 c4)
                 simp only [c1,dec_f c2,cond_false,Int.toNat_zero,dec_t c4,dec_t c5,dec_t c6,dec_t c7,cond_true]
                 rw [if_neg (by omega)]
                 by_cases c9:w.1.getD 0 0=0
                 · have d1 : decide (w.1.getD 0 0 > 0) = false := dec_f (by omega)
                   rw [d1,if_pos c9,cond_false]
                   cases hd:(P.getD j zP).2.2 with
                   | false => rfl
                   | true => rfl
                 · have d1 : decide (w.1.getD 0 0 > 0) = true := dec_t (by omega)
                   rw [d1,if_neg c9,cond_true]
                   cases w.2.2 with
                   | false => rfl
                   | true => rfl
           · have h2' : (kind == 2) = false := by simpa using h2
             rw [h2',if_neg h2,cond_false]
     · by_cases b1 : t < 0
       · simp only [xs0u.t,a1,a2,h3',dec_t b1,cond_false,cond_true,stepR,if_neg nf,if_neg h3,if_pos ht]
       · have b2 : t ≥ (P.length : Int) := by omega
         simp only [xs0u.t,a1,a2,h3',dec_f b1,dec_t b2,cond_false,cond_true,stepR,if_neg nf,if_neg h3,if_pos ht]
 · by_cases b1 : f < 0
   · simp only [xs0u.t,dec_t b1,cond_true,stepR,if_pos hf]
   · have b2 : f ≥ (P.length : Int) := by omega
     simp only [xs0u.t,dec_f b1,dec_t b2,cond_false,cond_true,stepR,if_pos hf]
end GoV

/- Pictures: what a step leaves is as it should be; good ones are small. -/
namespace GoV
open Go
theorem saveF_inv {P : List Prc} {i : Nat} (hi : i < P.length) (thr : Int) : ∀ (l : List Nat) (W : List Wir), (∀ o, o ∈ l → o < P.length) → SnI P W → SnI P (saveF P.length i thr l W).2
 | [],W,_,h => h
 | o::l,W,hl,h => by
   have ho:=hl o (List.mem_cons_self ..)
   have hl':∀ q,q∈l→q<P.length:=fun q hq => hl q (List.mem_cons_of_mem _ hq)
   have k1:o * P.length+i<W.length:=by rw [h.2.1]; exact idx_lt ho hi
   have h1:=h.setOpen k1 ((o:Int) != thr)
   have k2:i * P.length+o<(setOpen W (o * P.length+i) ((o:Int) != thr)).length:=by rw [h1.2.1]; exact idx_lt hi ho
   simp only [saveF]
   by_cases e:o=i
   · rw [if_pos e]; exact saveF_inv hi thr l W hl' h
   · rw [if_neg e]
     by_cases e2:((setOpen W (o * P.length+i) ((o:Int) != thr)).getD (i * P.length+o) zW).1.length=12
     · rw [if_pos e2]; exact h1
     · rw [if_neg e2]; exact saveF_inv hi thr l _ hl' (h1.addWord k2 (Int.le_refl 0) e2)
theorem saveR_inv {P:List Prc} {W:List Wir} (h:SnI P W) {i:Nat} (hi:i<P.length) (thr:Int):SnI (doneAt P i) (saveR P W i thr).2:=by
 have:=saveF_inv hi thr (List.range P.length) W (fun o ho => List.mem_range.1 ho) h
 simpa [SnI,doneAt,saveR] using this
theorem SnI.proc {P:List Prc} {W:List Wir} (h:SnI P W) (i:Nat) (p:Prc):SnI (P.set i p) W:=by simpa [SnI] using h
theorem SnI.wire {P:List Prc} {W:List Wir} (h:SnI P W) (k:Nat) {w:Wir} (hw:w.1.length≤12∧w.2.1.length≤200∧∀ x,x∈w.1→0≤x):SnI P (W.set k w):=by
 refine ⟨h.1,by simp [h.2.1],fun v hv => ?_⟩
 rcases List.mem_or_eq_of_mem_set hv with hv | rfl
 · exact h.2.2 v hv
 · exact hw
theorem step_inv {P:List Prc} {W:List Wir} (h:SnI P W) (kind f t by_:Int):SnI (stepR P W kind f t by_).2.1 (stepR P W kind f t by_).2.2:=by
 unfold stepR
 split
 · exact h
 rename_i hf
 have hf:0≤f∧f<P.length:=Decidable.not_not.1 hf
 have hf':=lt_of_in hf
 split
 · split
   · exact h
   · exact saveR_inv h hf' f
 split
 · exact h
 rename_i ht
 have ht:0≤t∧t<P.length:=Decidable.not_not.1 ht
 have ht':=lt_of_in ht
 have hk:f.toNat * P.length+t.toNat<W.length:=by rw [h.2.1]; exact idx_lt hf' ht'
 split
 · exact h
 split
 · unfold sendR
   simp only
   split
   · rename_i h1
     have h2:=inB_iff.1 (Bool.and_eq_true_iff.1 h1.1).2
     exact (h.addWord hk h2.1 h1.2).proc _ _
   · exact h
 split
 · unfold takeR
   have hb:=h.2.2 _ (getD_mem zW hk)
   have hd:∀ y,y∈(W.getD (f.toNat * P.length+t.toNat) zW).1.drop 1→0≤y:=fun y hy => hb.2.2 y (List.mem_of_mem_drop hy)
   have hl:((W.getD (f.toNat * P.length+t.toNat) zW).1.drop 1).length≤12:=by simp only [List.length_drop]; omega
   simp only
   split
   · exact h
   rename_i h1
   split
   · split
     · exact h.wire _ ⟨hl,hb.2.1,hd⟩
     · exact saveR_inv (h.dropW hk) ht' _
   · refine SnI.proc ?_ _ _
     split
     · refine h.wire _ ⟨hl, ?_, hd⟩
       simp only [List.length_append,List.length_singleton]; omega
     · exact h.wire _ ⟨hl,hb.2.1,hd⟩
 · exact h
theorem SnI.hl {P:List Prc} {W:List Wir} (h:SnI P W):∀ w,w∈W→w.1.length≤1073741824∧w.2.1.length≤1073741824:=fun w hw => by have:=h.2.2 w hw; omega
theorem SnI.w16 {P:List Prc} {W:List Wir} (h:SnI P W):W.length≤16:=by
 rw [h.2.1]
 exact Nat.mul_le_mul h.1.2 h.1.2
abbrev TSn:Ty:=.pair (.sl (.pair (.int .i64) (.pair (.int .i64) .bool))) (.sl (.pair (.sl (.int .i64)) (.pair (.sl (.int .i64)) .bool)))
theorem SnI.size {P:List Prc} {W:List Wir} (h:SnI P W):szT TSn (P,W)≤1073741824:=by
 have h1:szT (.sl (.pair (.int .i64) (.pair (.int .i64) .bool))) P=P.length:=szT_sl_flat (t:=.pair (.int .i64) (.pair (.int .i64) .bool)) P rfl
 have h2:∀ (V:List Wir),(∀ w,w∈V→w.1.length≤12∧w.2.1.length≤200∧∀ x,x∈w.1→0≤x)→szT (.sl (.pair (.sl (.int .i64)) (.pair (.sl (.int .i64)) .bool))) V≤V.length * 1000:=by
  intro V
  induction V with
  | nil => intro _; simp [szT]
  | cons w V ih =>
    intro hV
    have h3:=ih fun v hv => hV v (List.mem_cons_of_mem _ hv)
    have h4:=hV w (List.mem_cons_self ..)
    have h5:szT (.sl (.int .i64)) w.1=w.1.length:=szT_sl_flat (t:=.int .i64) w.1 rfl
    have h6:szT (.sl (.int .i64)) w.2.1=w.2.1.length:=szT_sl_flat (t:=.int .i64) w.2.1 rfl
    simp only [szT,List.map_cons,List.length_cons,List.sum_cons] at h3 h5 h6 ⊢
    omega
 have h3:=h2 W h.2.2
 have h4:=h.w16
 have h5:=h.1
 simp only [szT] at h1 h3 ⊢
 omega
/-- A step, from a good picture into a good one. -/
def stepS (P:List Prc) (W:List Wir) (kind f t by_:Int):List Prc × List Wir × Bool :=
 bif (stepR P W kind f t by_).1 && goodB (stepR P W kind f t by_).2.1 (stepR P W kind f t by_).2.2 then ((stepR P W kind f t by_).2.1,(stepR P W kind f t by_).2.2,true) else ([],[],false)
theorem impl_stepped_eq {P:List Prc} {W:List Wir} (h:SnI P W) (kind f t by_:Int):xi0k P W kind f t by_=some (stepS P W kind f t by_):=by
 have h':=step_inv h kind f t by_
 have b1:=h.w16
 have b2:=h'.w16
 have b3:=h.1
 have b4:=h'.1
 refine xi0k.eq _ _ _ _ _ _ ?_
 simp only [xi0k.t,xi13_eq P W (by omega) (by omega) h.hl,impl_step_eq h,xi11_eq _ _ h'.hl,xi13_eq _ _ (show (stepR P W kind f t by_).2.1.length≤1073741824 by omega) (by omega) h'.hl,Option.bind_some,stepS]
 cases (stepR P W kind f t by_).1 with
 | false => rfl
 | true =>
   cases goodB (stepR P W kind f t by_).2.1 (stepR P W kind f t by_).2.2 with
   | false => rfl
   | true => rfl
end GoV

/- Pictures: steps, told of whole pictures. -/
namespace GoV
open Go
theorem SnI.hp {P:List Prc} {W:List Wir} (hz:szT TSn (P,W)≤1048576):P.length≤1073741824∧W.length≤1073741824∧∀ w,w∈W→w.1.length≤1073741824∧w.2.1.length≤1073741824:=by
 have h1:szT (.sl (.pair (.int .i64) (.pair (.int .i64) .bool))) P=P.length:=szT_sl_flat (t:=.pair (.int .i64) (.pair (.int .i64) .bool)) P rfl
 have h2:szT TSn (P,W)=szT (.sl (.pair (.int .i64) (.pair (.int .i64) .bool))) P+szT (.sl (.pair (.sl (.int .i64)) (.pair (.sl (.int .i64)) .bool))) W:=rfl
 have h3:=szT_len (t:=(.pair (.sl (.int .i64)) (.pair (.sl (.int .i64)) .bool))) (l:=W)
 refine ⟨by omega,by omega,fun w hw => ?_⟩
 have h4:=szT_mem (t:=(.pair (.sl (.int .i64)) (.pair (.sl (.int .i64)) .bool))) (l:=W) hw
 have h5:szT (.sl (.int .i64)) w.1=w.1.length:=szT_sl_flat (t:=.int .i64) w.1 rfl
 have h6:szT (.sl (.int .i64)) w.2.1=w.2.1.length:=szT_sl_flat (t:=.int .i64) w.2.1 rfl
 have h7:szT (.pair (.sl (.int .i64)) (.pair (.sl (.int .i64)) .bool)) w=szT (.sl (.int .i64)) w.1+(szT (.sl (.int .i64)) w.2.1+0):=rfl
 omega
theorem doneAt_len (P:List Prc) (i:Nat):(doneAt P i).length=P.length:=by simp [doneAt]
theorem step_len (P:List Prc) (W:List Wir) (kind f t by_:Int):(stepR P W kind f t by_).2.1.length=P.length:=by
 unfold stepR sendR takeR
 split
 · rfl
 split
 · split
   · rfl
   · exact doneAt_len _ _
 split
 · rfl
 split
 · rfl
 split
 · simp only
   split
   · simp
   · rfl
 split
 · simp only
   split
   · rfl
   split
   · split
     · rfl
     · exact doneAt_len _ _
   · simp
 · rfl
theorem stepS_good {P:List Prc} {W:List Wir} {kind f t by_:Int} (h:(stepS P W kind f t by_).2.2=true):goodB (stepS P W kind f t by_).1 (stepS P W kind f t by_).2.1=true∧(stepS P W kind f t by_).1.length=P.length:=by
 unfold stepS at *
 cases hc:((stepR P W kind f t by_).1 && goodB (stepR P W kind f t by_).2.1 (stepR P W kind f t by_).2.2) with
 | false => rw [hc] at h; simp at h
 | true => exact ⟨(Bool.and_eq_true_iff.1 hc).2,step_len P W kind f t by_⟩
theorem xs18_eq {P:List Prc} {W:List Wir} (h1:goodB P W=true) (kind f t by_:Int):xs18 P W kind f t by_=some (stepS P W kind f t by_):=by
 have hI:=good_inv h1
 have h':=step_inv hI kind f t by_
 have b1:=hI.w16
 have b2:=hI.1
 have e4:=spec_step_eq hI kind f t by_
 refine xs18.eq _ _ _ _ _ _ ?_
 simp only [xs18.t,xs16_eq P W hI.hl,h1,Option.bind_some,bang_t,cond_false,xs1l_eq P W (by omega) (by omega) hI.hl,e4,xs16_eq _ _ h'.hl,stepS]
 cases (stepR P W kind f t by_).1 with
 | false => rfl
 | true =>
   cases goodB (stepR P W kind f t by_).2.1 (stepR P W kind f t by_).2.2 with
   | false => rfl
   | true => rfl
end GoV

/- PlaySnap: the specification and the program answer alike. -/
namespace GoV
open Go
def newP (l:List Int):List Prc:=l.map fun n => (n,0,false)
def newW (n:Nat):List Wir:=List.replicate (n * n) ([],[],false)
def newR (l:List Int):List Prc × List Wir × Bool:=bif goodB (newP l) (newW l.length) then (newP l,newW l.length,true) else ([],[],false)
theorem newW_hl (n:Nat):∀ w,w∈newW n→w.1.length≤1073741824∧w.2.1.length≤1073741824:=fun w hw => by
 obtain ⟨_,rfl⟩:=List.mem_replicate.1 hw
 exact ⟨by simp,by simp⟩
theorem newP_len (l:List Int):(newP l).length=l.length:=by simp [newP]
theorem newP_snoc (l:List Int) {i:Nat} (hi:i<l.length):newP (l.take i) ++ [(l.getD i 0,0,false)]=newP (l.take (i+1)):=by
 rw [List.take_succ_eq_append_getElem hi]
 simp only [newP,List.map_append,List.map_cons,List.map_nil,List.getD_eq_getElem?_getD,List.getElem?_eq_getElem hi,Option.getD_some]
theorem xs1e_eq (l:List Int) (hl:l.length≤1048576):xs1e l=some (newR l):=by
 have hsq:l.length * l.length≤1048576 * 1048576:=Nat.mul_le_mul hl hl
 have main:∀ i,i≤l.length→xs1e.l3 l [] [] (newP (l.take i)) [] l (l.length:Int) (i:Int)=some (newR l):=by
  refine upto ?_ ?_
  · refine xs1e.eq3 _ _ _ _ _ _ _ _ ?_
    have h1:((0:Int)≤((l.length * l.length:Nat):Int)):=by omega
    have h2:((l.length * l.length:Nat):Int) * ((3:Nat):Int)≤4398046511104:=by omega
    rw [List.take_length]
    simp only [xs1e.t3,ix_lt,Nat.lt_irrefl,decide_false,cond_false,sq_big l.length (by omega),dec_t h1,dec_t h2,decide_true,cond_true,Int.toNat_natCast,xs16_eq _ _ (newW_hl l.length),newR]
    have h3:xs16 (newP l) (List.replicate (l.length * l.length) ([],[],false))=some (goodB (newP l) (newW l.length)):=xs16_eq _ _ (newW_hl l.length)
    rw [h3,Option.bind_some]
    cases goodB (newP l) (newW l.length) with
    | false => rfl
    | true => rfl
  · intro i hi ih
    refine xs1e.eq3 _ _ _ _ _ _ _ _ ?_
    have h1:(newP (l.take i)).length+[(l.getD i 0,(0:Int),false)].length≤4294967296:=by
        rw [newP_len,List.length_singleton,List.length_take]; omega
    simp only [xs1e.t3,ix_lt,ix_nn,ix_nat,dec_t hi,cond_true,dec_t h1,wrap_succ (show i<9223372036854775807 by omega),newP_snoc l hi]
    exact ih
 refine xs1e.eq _ ?_
 simp only [xs1e.t]
 exact main 0 (Nat.zero_le _)
theorem xi1a_eq (l:List Int) (hl:l.length≤4):xi1a l=some (newP l,newW l.length):=by
 have hsq:l.length * l.length≤4 * 4:=Nat.mul_le_mul hl hl
 have main:∀ i,i≤l.length→xi1a.l3 l [] [] (newP (l.take i)) [] l (l.length:Int) (i:Int)=some (newP l,newW l.length):=by
  refine upto ?_ ?_
  · refine xi1a.eq3 _ _ _ _ _ _ _ _ ?_
    have h1:((0:Int)≤((l.length * l.length:Nat):Int)):=by omega
    have h2:((l.length * l.length:Nat):Int) * ((3:Nat):Int)≤4398046511104:=by omega
    rw [List.take_length]
    simp only [xi1a.t3,ix_lt,Nat.lt_irrefl,decide_false,cond_false,sq_nat l.length hl,dec_t h1,dec_t h2,decide_true,cond_true,Int.toNat_natCast]
    rfl
  · intro i hi ih
    refine xi1a.eq3 _ _ _ _ _ _ _ _ ?_
    have h1:(newP (l.take i)).length+[(l.getD i 0,(0:Int),false)].length≤4294967296:=by
        rw [newP_len,List.length_singleton,List.length_take]; omega
    simp only [xi1a.t3,ix_lt,ix_nn,ix_nat,dec_t hi,cond_true,dec_t h1,wrap_succ (show i<9223372036854775807 by omega),newP_snoc l hi]
    exact ih
 refine xi1a.eq _ ?_
 simp only [xi1a.t]
 exact main 0 (Nat.zero_le _)
theorem xi19_eq (l:List Int):xi19 l=some (newR l):=by
 refine xi19.eq _ ?_
 simp only [xi19.t,xi1f_eq,inB24,Option.bind_some]
 by_cases hp:2≤l.length∧l.length≤4
 · rw [dec_t hp]
   simp only [bang_t,cond_false,xi1a_eq l hp.2,xi11_eq _ _ (newW_hl l.length),Option.bind_some,newR]
   cases goodB (newP l) (newW l.length) with
   | false => rfl
   | true => rfl
 · rw [dec_f hp]
   have h1:goodB (newP l) (newW l.length)=false:=by
    simp only [goodB,newP_len,dec_f hp,Bool.false_and]
   simp only [bang_f,cond_true,newR,h1,cond_false]
abbrev Stp4:=Int × Int × Int × Int
def playF : List Stp4 → List Prc → List Wir → List Bool → List Prc × List Wir × List Bool × Bool
 | [],P,W,D => (P,W,D,true)
 | x::r,P,W,D => bif (stepS P W x.1 x.2.1 x.2.2.1 x.2.2.2).2.2 then playF r (stepS P W x.1 x.2.1 x.2.2.1 x.2.2.2).1 (stepS P W x.1 x.2.1 x.2.2.1 x.2.2.2).2.1 (D ++ [true]) else playF r P W (D ++ [false])
theorem playF_small : ∀ (l : List Stp4) (P : List Prc) (W : List Wir) (D : List Bool), goodB P W = true → goodB (playF l P W D).1 (playF l P W D).2.1 = true ∧ (playF l P W D).2.2.1.length = D.length + l.length
 | [],P,W,D,hg => ⟨hg,rfl⟩
 | x::r,P,W,D,hg => by
   simp only [playF]
   cases hc:(stepS P W x.1 x.2.1 x.2.2.1 x.2.2.2).2.2 with
   | false =>
     have:=playF_small r P W (D ++ [false]) hg
     refine ⟨this.1, ?_⟩
     have h2:=this.2
     simp only [cond_false,List.length_append,List.length_cons,List.length_nil] at h2 ⊢
     omega
   | true =>
     have:=playF_small r _ _ (D ++ [true]) (stepS_good hc).1
     refine ⟨this.1, ?_⟩
     have h2:=this.2
     simp only [cond_true,List.length_append,List.length_cons,List.length_nil] at h2 ⊢
     omega
theorem impl_play_l6 {l:List Stp4} (hl:l.length≤120):∀ i,i≤l.length→∀ (P:List Prc) (W:List Wir) (D:List Bool),goodB P W=true→D.length=i→xi12.l6 [] [] P W D l (l.length:Int) (i:Int)=some (playF (l.drop i) P W D):=by
 refine upto ?_ ?_
 · intro P W D hg hD
   refine xi12.eq6 _ _ _ _ _ _ _ _ ?_
   rw [List.drop_length]
   simp only [xi12.t6,ix_lt,Nat.lt_irrefl,decide_false,cond_false,playF]
 · intro i hi ih P W D hg hD
   refine xi12.eq6 _ _ _ _ _ _ _ _ ?_
   rw [drop_getD ((0:Int),(0:Int),(0:Int),(0:Int)) hi]
   have h1:∀ b:Bool,D.length+[b].length≤4294967296:=fun b => by rw [List.length_singleton]; omega
   simp only [xi12.t6,ix_lt,ix_nn,ix_nat,dec_t hi,cond_true,impl_stepped_eq (good_inv hg),Option.bind_some,dec_t (h1 _),wrap_succ (show i<9223372036854775807 by omega),playF]
   generalize l.getD i ((0:Int),(0:Int),(0:Int),(0:Int))=x
   cases hc:(stepS P W x.1 x.2.1 x.2.2.1 x.2.2.2).2.2 with
   | false =>
     simp only [cond_false]
     exact ih P W _ hg (by simp [hD])
   | true =>
     simp only [cond_true]
     exact ih _ _ _ (stepS_good hc).1 (by simp [hD])
theorem spec_play_l6 {l:List Stp4} (hl:l.length≤120):∀ i,i≤l.length→∀ (P:List Prc) (W:List Wir) (D:List Bool),goodB P W=true→D.length=i→xs17.l6 [] [] P W D l (l.length:Int) (i:Int)=some (playF (l.drop i) P W D):=by
 refine upto ?_ ?_
 · intro P W D hg hD
   refine xs17.eq6 _ _ _ _ _ _ _ _ ?_
   rw [List.drop_length]
   simp only [xs17.t6,ix_lt,Nat.lt_irrefl,decide_false,cond_false,playF]
 · intro i hi ih P W D hg hD
   refine xs17.eq6 _ _ _ _ _ _ _ _ ?_
   rw [drop_getD ((0:Int),(0:Int),(0:Int),(0:Int)) hi]
   have h1:∀ b:Bool,D.length+[b].length≤4294967296:=fun b => by rw [List.length_singleton]; omega
   simp only [xs17.t6,ix_lt,ix_nn,ix_nat,dec_t hi,cond_true,xs18_eq hg,Option.bind_some,dec_t (h1 _),wrap_succ (show i<9223372036854775807 by omega),playF]
   generalize l.getD i ((0:Int),(0:Int),(0:Int),(0:Int))=x
   cases hc:(stepS P W x.1 x.2.1 x.2.2.1 x.2.2.2).2.2 with
   | false =>
     simp only [cond_false]
     exact ih P W _ hg (by simp [hD])
   | true =>
     simp only [cond_true]
     exact ih _ _ _ (stepS_good hc).1 (by simp [hD])
theorem FnExactPlaySnap_same (v0 : List Int) (v1 : List (Int × Int × Int × Int)) (w0 : WfT (.sl (.int .i64)) v0) (hz0 : szT (.sl (.int .i64)) v0 ≤ 1048576) (w1 : WfT (.sl (.pair (.int .i64) (.pair (.int .i64) (.pair (.int .i64) (.int .i64))))) v1) (hz1 : szT (.sl (.pair (.int .i64) (.pair (.int .i64) (.pair (.int .i64) (.int .i64))))) v1 ≤ 1048576) :
 ∃ (a:List (Int × Int × Bool)) (b:List (List Int × List Int × Bool)) (c:List Bool) (d:Bool),xs17 v0 v1=some (a,b,c,d)∧xi12 v0 v1=some (a,b,c,d)∧(szT (.pair (.sl (.pair (.int .i64) (.pair (.int .i64) .bool))) (.sl (.pair (.sl (.int .i64)) (.pair (.sl (.int .i64)) .bool)))) (a,b)≤1073741824∧szT (.sl .bool) c≤1073741824):=by
 have h0:v0.length≤1048576:=by
  have:=szT_len (t:=.int .i64) (l:=v0)
  omega
 have e1:=xs1e_eq v0 h0
 have e2:=xi19_eq v0
 cases hg:goodB (newP v0) (newW v0.length) with
 | false =>
   have h1:newR v0=([],[],false):=by rw [newR,hg,cond_false]
   exact ⟨[],[],[],false,xs17.eq _ _ (by simp only [xs17.t,e1,h1,Option.bind_some,bang_f,cond_true]),xi12.eq _ _ (by simp only [xi12.t,e2,h1,Option.bind_some,bang_f,cond_true]),by simp [szT],by simp [szT]⟩
 | true =>
   have h1:newR v0=(newP v0,newW v0.length,true):=by rw [newR,hg,cond_true]
   by_cases hl:v1.length≤120
   · have h2 : decide ((v1.length : Int) > 120) = false := dec_f (by omega)
     have h3:=playF_small v1 (newP v0) (newW v0.length) [] hg
     refine ⟨_,_,_,_,xs17.eq _ _ (b:=playF v1 (newP v0) (newW v0.length) []) ?_,xi12.eq _ _ (b:=playF v1 (newP v0) (newW v0.length) []) ?_,(good_inv h3.1).size, ?_⟩
     · simp only [xs17.t, e1, h1, Option.bind_some, bang_t, cond_false, h2]
       exact spec_play_l6 hl 0 (Nat.zero_le _) _ _ _ hg rfl
     · simp only [xi12.t, e2, h1, Option.bind_some, bang_t, cond_false, h2]
       exact impl_play_l6 hl 0 (Nat.zero_le _) _ _ _ hg rfl
     · rw [szT_sl_flat (t := .bool) _ rfl, h3.2]
       simp only [List.length_nil]
       omega
   · have h2 : decide ((v1.length : Int) > 120) = true := dec_t (by omega)
     exact ⟨[],[],[],false,xs17.eq _ _ (by simp only [xs17.t,e1,h1,Option.bind_some,bang_t,cond_false,h2,cond_true]),xi12.eq _ _ (by simp only [xi12.t,e2,h1,Option.bind_some,bang_t,cond_false,h2,cond_true]),by simp [szT],by simp [szT]⟩
end GoV

/- FnExactPlaySnap: the law out of its core. -/
namespace GoV
open Go
theorem FnExactPlaySnap_true (v0:List Int) (v1:List (Int × Int × Int × Int)) (w0:WfT (.sl (.int .i64)) v0) (w1:WfT (.sl (.pair (.int .i64) (.pair (.int .i64) (.pair (.int .i64) (.int .i64))))) v1):xl0a v0 v1=some true:=by
 by_cases b1:((v0.length:Int) > (1048576:Int))
 · exact xl0a.eq v0 v1 (by simp only [xl0a.t,dec_t b1,cond_true,cond_false,Option.bind_some])
 have z1:szT (.sl (.int .i64)) v0≤1048576:=by rw [szT_sl_flat (t:=(.int .i64)) v0 rfl]; omega
 obtain ⟨left2,e2,a2,b2z⟩:=xl0r_ok (v1) ((1048576:Int)) w1 (by omega) (by omega)
 by_cases n2:left2<0
 · exact xl0a.eq v0 v1 (by simp only [xl0a.t,dec_f b1,e2,dec_t n2,cond_true,cond_false,Option.bind_some])
 have z2a:=b2z (by omega)
 have hz0:szT (.sl (.int .i64)) v0≤1048576:=by omega
 have hz1:szT (.sl (.pair (.int .i64) (.pair (.int .i64) (.pair (.int .i64) (.int .i64))))) v1≤1048576:=by omega
 obtain ⟨ga,gb,gc,gd,hspec,himpl,hsm⟩:=FnExactPlaySnap_same v0 v1 w0 hz0 w1 hz1
 -- the answer is small
 have e3:=xl1k_id (v0) (by omega)
 have e4:=xl0s_id (v1) (by omega)
 have e6:=xl1k_id (v0) (by omega)
 have e7:=xl0s_id (v1) (by omega)
 have e9:=xl1i_rf (ga) (gb) (by first | omega | (simp only [szT] at *; omega))
 have e10:=xl1b_rf (gc) (by first | omega | (simp only [szT] at *; omega))
 have e11:=xl1k_id (v0) (by omega)
 have e12:=xl1g_rf (v0) (by first | omega | (simp only [szT] at *; omega))
 have e13:=xl0s_id (v1) (by omega)
 have e14:=xl0q_rf (v1) (by first | omega | (simp only [szT] at *; omega))
 have q15:=cntT_le (T:=(.sl (.int .i64))) v0 rfl
 simp only [Ty.size] at q15
 have e15:=xl0m_ok (v0) ((1:Int)) (by omega) (by omega) (by omega)
 have p15:=mrL_cnt (t:=(.int .i64)) v0 (1:Int)
 have g15:¬ (mrL (mrE (.int .i64)) v0 (1:Int)).2<0:=by omega
 have q16:=cntT_le (T:=(.sl (.pair (.int .i64) (.pair (.int .i64) (.pair (.int .i64) (.int .i64)))))) v1 rfl
 simp only [Ty.size] at q16
 have e16:=xl09_ok (v1) ((mrL (mrE (.int .i64)) v0 (1:Int)).2) (by omega) (by omega) (by omega)
 have p16:=mrL_cnt (t:=(.pair (.int .i64) (.pair (.int .i64) (.pair (.int .i64) (.int .i64))))) v1 (mrL (mrE (.int .i64)) v0 (1:Int)).2
 have g16:¬ (mrL (mrE (.pair (.int .i64) (.pair (.int .i64) (.pair (.int .i64) (.int .i64))))) v1 (mrL (mrE (.int .i64)) v0 (1:Int)).2).2<0:=by omega
 have e17:=xl1i_rf (ga) (gb) (by first | omega | (simp only [szT] at *; omega))
 have e18:=xl1b_rf (gc) (by first | omega | (simp only [szT] at *; omega))
 have q19:=cntT_le (T:=(.pair (.sl (.pair (.int .i64) (.pair (.int .i64) .bool))) (.sl (.pair (.sl (.int .i64)) (.pair (.sl (.int .i64)) .bool))))) (ga,gb) rfl
 simp only [Ty.size] at q19
 have e19:=xl0n_ok (ga) (gb) ((1:Int)) (by omega) (by omega) (by omega)
 have p19:=mrT_cnt (.pair (.sl (.pair (.int .i64) (.pair (.int .i64) .bool))) (.sl (.pair (.sl (.int .i64)) (.pair (.sl (.int .i64)) .bool)))) (ga,gb) (1:Int)
 have g19:¬ (mrT (.pair (.sl (.pair (.int .i64) (.pair (.int .i64) .bool))) (.sl (.pair (.sl (.int .i64)) (.pair (.sl (.int .i64)) .bool)))) (ga,gb) (1:Int)).2<0:=by omega
 have q20:=cntT_le (T:=(.sl .bool)) gc rfl
 simp only [Ty.size] at q20
 have e20:=xl0h_ok (gc) ((mrT (.pair (.sl (.pair (.int .i64) (.pair (.int .i64) .bool))) (.sl (.pair (.sl (.int .i64)) (.pair (.sl (.int .i64)) .bool)))) (ga,gb) (1:Int)).2) (by omega) (by omega) (by omega)
 have p20:=mrL_cnt (t:=.bool) gc (mrT (.pair (.sl (.pair (.int .i64) (.pair (.int .i64) .bool))) (.sl (.pair (.sl (.int .i64)) (.pair (.sl (.int .i64)) .bool)))) (ga,gb) (1:Int)).2
 have g20:¬ (mrL (mrE .bool) gc (mrT (.pair (.sl (.pair (.int .i64) (.pair (.int .i64) .bool))) (.sl (.pair (.sl (.int .i64)) (.pair (.sl (.int .i64)) .bool)))) (ga,gb) (1:Int)).2).2<0:=by omega
 have e21:xl15 ((mrT (.pair (.sl (.pair (.int .i64) (.pair (.int .i64) .bool))) (.sl (.pair (.sl (.int .i64)) (.pair (.sl (.int .i64)) .bool)))) (ga,gb) (1:Int)).1.1) ((mrT (.pair (.sl (.pair (.int .i64) (.pair (.int .i64) .bool))) (.sl (.pair (.sl (.int .i64)) (.pair (.sl (.int .i64)) .bool)))) (ga,gb) (1:Int)).1.2) ((1:Int))=some (mrT (.pair (.sl (.pair (.int .i64) (.pair (.int .i64) .bool))) (.sl (.pair (.sl (.int .i64)) (.pair (.sl (.int .i64)) .bool)))) (ga,gb) (1:Int)).2:=xl15_ok (ga) (gb) (1:Int) (by omega) (by omega) (by omega)
 have e22:xl0x ((mrL (mrE .bool) gc (mrT (.pair (.sl (.pair (.int .i64) (.pair (.int .i64) .bool))) (.sl (.pair (.sl (.int .i64)) (.pair (.sl (.int .i64)) .bool)))) (ga,gb) (1:Int)).2).1) ((mrT (.pair (.sl (.pair (.int .i64) (.pair (.int .i64) .bool))) (.sl (.pair (.sl (.int .i64)) (.pair (.sl (.int .i64)) .bool)))) (ga,gb) (1:Int)).2)=some (mrL (mrE .bool) gc (mrT (.pair (.sl (.pair (.int .i64) (.pair (.int .i64) .bool))) (.sl (.pair (.sl (.int .i64)) (.pair (.sl (.int .i64)) .bool)))) (ga,gb) (1:Int)).2).2:=xl0x_ok (gc) (mrT (.pair (.sl (.pair (.int .i64) (.pair (.int .i64) .bool))) (.sl (.pair (.sl (.int .i64)) (.pair (.sl (.int .i64)) .bool)))) (ga,gb) (1:Int)).2 (by omega) (by omega) (by omega)
 have e23:=xl1k_id (v0) (by omega)
 have e24:=xl0s_id (v1) (by omega)
 have e26:=xl1i_rf (ga) (gb) (by first | omega | (simp only [szT] at *; omega))
 have e27:=xl1b_rf (gc) (by first | omega | (simp only [szT] at *; omega))
 have e28:xl15 ((mrT (.pair (.sl (.pair (.int .i64) (.pair (.int .i64) .bool))) (.sl (.pair (.sl (.int .i64)) (.pair (.sl (.int .i64)) .bool)))) (ga,gb) (1:Int)).1.1) ((mrT (.pair (.sl (.pair (.int .i64) (.pair (.int .i64) .bool))) (.sl (.pair (.sl (.int .i64)) (.pair (.sl (.int .i64)) .bool)))) (ga,gb) (1:Int)).1.2) ((1:Int))=some (mrT (.pair (.sl (.pair (.int .i64) (.pair (.int .i64) .bool))) (.sl (.pair (.sl (.int .i64)) (.pair (.sl (.int .i64)) .bool)))) (ga,gb) (1:Int)).2:=xl15_ok (ga) (gb) (1:Int) (by omega) (by omega) (by omega)
 have e29:xl0x ((mrL (mrE .bool) gc (mrT (.pair (.sl (.pair (.int .i64) (.pair (.int .i64) .bool))) (.sl (.pair (.sl (.int .i64)) (.pair (.sl (.int .i64)) .bool)))) (ga,gb) (1:Int)).2).1) ((mrT (.pair (.sl (.pair (.int .i64) (.pair (.int .i64) .bool))) (.sl (.pair (.sl (.int .i64)) (.pair (.sl (.int .i64)) .bool)))) (ga,gb) (1:Int)).2)=some (mrL (mrE .bool) gc (mrT (.pair (.sl (.pair (.int .i64) (.pair (.int .i64) .bool))) (.sl (.pair (.sl (.int .i64)) (.pair (.sl (.int .i64)) .bool)))) (ga,gb) (1:Int)).2).2:=xl0x_ok (gc) (mrT (.pair (.sl (.pair (.int .i64) (.pair (.int .i64) .bool))) (.sl (.pair (.sl (.int .i64)) (.pair (.sl (.int .i64)) .bool)))) (ga,gb) (1:Int)).2 (by omega) (by omega) (by omega)
 refine xl0a.eq v0 v1 ?_
 simp only [xl0a.t,dec_f b1,e2,dec_f n2,e3,e4,e6,e7,e9,e10,e11,e12,e13,e14,e15,dec_f g15,e16,dec_f g16,e17,e18,e19,dec_f g19,e20,dec_f g20,e21,e22,e23,e24,e26,e27,e28,e29,hspec,himpl,cond_true,cond_false,Option.bind_some,bne_ref,beq_ref,bang_t]
end GoV
