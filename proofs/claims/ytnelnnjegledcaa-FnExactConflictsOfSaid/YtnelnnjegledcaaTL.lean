/- A part of the proof of FnExactConflictsOf: an interpreter of the model over plain data, its soundness, and what it makes of the functions that the statement reaches. Conditions: none beyond what the given statement itself says. -/
import Derived.Test.YtnelnnjegledcaaTK
set_option linter.unusedVariables false
set_option linter.unusedSimpArgs false
set_option linter.unnecessarySimpa false
set_option linter.unusedSectionVars false
/- What the statements' own helpers answer (printed by wip/tools/lawgen.py). -/
namespace GoV
open Go
theorem xl0k_ok (v0:Ze) (v1:Int) (hw:WfT (.sl (.pair (.int .i64) (.pair (.int .i64) (.int .i64)))) v0) (h1:0≤v1) (h2:v1≤1048576):∃ r,xl0k v0 v1=some r∧r≤v1∧(0≤r→(szT (.sl (.pair (.int .i64) (.pair (.int .i64) (.int .i64)))) v0:Int)+r=v1):=by
 have hl:=hw.1
 have e0:IntKind.i64.wrap (v1 - (v0.length:Int))=v1 - (v0.length:Int):=wrap_id (by omega) (by omega)
 by_cases hn:v1 - (v0.length:Int)<0
 · exact ⟨-1,xl0k.eq v0 v1 (by simp only [xl0k.t,e0,dec_t hn,cond_true]),by omega,fun h => by omega⟩
 · exact ⟨v1 - (v0.length:Int),xl0k.eq v0 v1 (by simp only [xl0k.t,e0,dec_f hn,cond_false]),by omega,fun _ => by rw [szT_sl_flat (t:=(.pair (.int .i64) (.pair (.int .i64) (.int .i64)))) v0 rfl]; omega⟩
theorem xl0q_id (v0:Int) (v1:Int) (v2:Int) (h:szT (.pair (.int .i64) (.pair (.int .i64) (.int .i64))) (v0,(v1,v2))≤1073741824):xl0q v0 v1 v2=some (v0,v1,v2):=by
 exact xl0q.eq v0 v1 v2 (by simp only [xl0q.t,Option.bind_some])
theorem xl0l_id (v0:Ze) (h:szT (.sl (.pair (.int .i64) (.pair (.int .i64) (.int .i64)))) v0≤1073741824):xl0l v0=some v0:=by
 have hlen:v0.length≤1073741824:=Nat.le_trans (szT_len (t:=(.pair (.int .i64) (.pair (.int .i64) (.int .i64))))) h
 have key:∀ i,i≤v0.length→∀ a:Ze,a.length=v0.length→a.take i=v0.take i→xl0l.l3 v0 a (i:Int)=some v0:=by
  refine upto ?_ ?_
  · intro a ha hh
    have ea:=take_all_eq ha hh
    subst ea
    exact xl0l.eq3 a a (a.length:Int) (by simp only [xl0l.t3,ix_lt,Nat.lt_irrefl,decide_false,cond_false])
  · intro i hi ih a ha hh
    have hc:=xl0q_id ((v0.getD i ((0:Int),(0:Int),(0:Int))).fst) ((v0.getD i ((0:Int),(0:Int),(0:Int))).snd.fst) ((v0.getD i ((0:Int),(0:Int),(0:Int))).snd.snd) (Nat.le_trans (szT_mem (t:=(.pair (.int .i64) (.pair (.int .i64) (.int .i64)))) (getD_mem ((0:Int),(0:Int),(0:Int)) hi)) h)
    have g:=ih (a.set i (v0.getD i ((0:Int),(0:Int),(0:Int)))) (by simp [ha]) (set_step hi ha hh)
    have hia:i<a.length:=by omega
    refine xl0l.eq3 v0 a (i:Int) ?_
    simp only [xl0l.t3,ix_lt,ix_nn,ix_nat,dec_t hi,dec_t hia,cond_true,hc,Option.bind_some,wrap_succ (show i<9223372036854775807 by omega)]
    exact g
 refine xl0l.eq v0 ?_
 have h3:((v0.length:Int)≤((4294967296:Nat):Int)):=by omega
 simp only [xl0l.t,decide_true,dec_t h3,cond_true,ix_nat]
 exact key 0 (Nat.zero_le _) _ (by simp) (by simp)
theorem xs01_ok (v0:Ze) (p:(Int) × ((Int) × (Int))→Bool) (hl:v0.length≤4611686018427387904) (hp:∀ x,x∈v0→xi02 ((x).fst) ((x).snd.fst) ((x).snd.snd)=some (p x)):∃ r:Int,xs01 v0=some r∧decide (r ≥ 0)=v0.any p:=by
 have key:∀ i,i≤v0.length→∃ r:Int,xs01.l2 (v0) ((↑v0.length:Int)) (i:Int)=some r∧decide (r ≥ 0)=(v0.drop i).any p:=by
  refine upto ?_ ?_
  · exact ⟨-1,xs01.eq2 (v0) ((↑v0.length:Int)) (v0.length:Int) (by simp only [xs01.t2,ix_lt,Nat.lt_irrefl,decide_false,cond_false]),by simp⟩
  · intro i hi ih
    have hc:=hp _ (getD_mem ((0:Int),(0:Int),(0:Int)) hi)
    rw [drop_getD ((0:Int),(0:Int),(0:Int)) hi,List.any_cons]
    cases hx:p (v0.getD i ((0:Int),(0:Int),(0:Int))) with
    | true => exact ⟨i,xs01.eq2 (v0) ((↑v0.length:Int)) (i:Int) (by simp only [xs01.t2,ix_lt,ix_nn,ix_nat,dec_t hi,cond_true,hc,hx,Option.bind_some]),by simp⟩
    | false =>
      obtain ⟨r,g0,g1⟩:=ih
      exact ⟨r,xs01.eq2 (v0) ((↑v0.length:Int)) (i:Int) (by simp only [xs01.t2,ix_lt,ix_nn,ix_nat,dec_t hi,cond_true,cond_false,hc,hx,Option.bind_some,wrap_succ (show i<9223372036854775807 by omega),g0]),by rw [g1,Bool.false_or]⟩
 obtain ⟨r,g0,g1⟩:=key 0 (Nat.zero_le _)
 exact ⟨r,xs01.eq v0 (by simp only [xs01.t]; exact g0),by simpa using g1⟩
theorem xs00_ok (v0:Ze) (p:(Int) × ((Int) × (Int))→Bool) (hl:v0.length≤4611686018427387904) (hp:∀ x,x∈v0→xi02 ((x).fst) ((x).snd.fst) ((x).snd.snd)=some (p x)):xs00 v0=some (v0.any p):=by
 obtain ⟨r,g0,g1⟩:=xs01_ok (v0) p hl hp
 exact xs00.eq v0 (by simp only [xs00.t,g0,Option.bind_some,g1])
theorem xi03_ok (v0:Ze) (p:(Int) × ((Int) × (Int))→Bool) (hl:v0.length≤4611686018427387904) (hp:∀ x,x∈v0→xi0m (((x).fst)) (((x).snd.fst)) (((x).snd.snd))=some (p x)):xi03 v0=some (v0.all p):=by
 have g:=xs00_ok (v0) (fun x => !p x) hl (fun x hx => xi02.eq ((x).fst) ((x).snd.fst) ((x).snd.snd) (by simp only [xi02.t,hp x hx,Option.bind_some]))
 exact xi03.eq v0 (by simp only [xi03.t,g,Option.bind_some,List.all_eq_not_any_not])
theorem xl0o_rf (v0:List Int) (h:szT (.sl (.int .i64)) v0≤1073741824):xl0o v0 v0=some true:=by
 have hlen:v0.length≤1073741824:=Nat.le_trans (szT_len (t:=(.int .i64))) h
 have key:∀ i,i≤v0.length→xl0o.l4 v0 v0 (i:Int)=some true:=by
  refine upto ?_ ?_
  · exact xl0o.eq4 v0 v0 (v0.length:Int) (by simp only [xl0o.t4,ix_lt,Nat.lt_irrefl,decide_false,cond_false])
  · intro i hi ih
    exact xl0o.eq4 v0 v0 (i:Int) (by simp only [xl0o.t4,ix_lt,ix_nn,ix_nat,dec_t hi,cond_true,cond_false,bne_ref,beq_ref,bang_t,wrap_succ (show i<9223372036854775807 by omega),ih])
 exact xl0o.eq v0 v0 (by simp only [xl0o.t,bne_ref,cond_false]; exact key 0 (Nat.zero_le _))
theorem xl0i_rf (v0:Zg) (h:szT (.sl (.sl (.int .i64))) v0≤1073741824):xl0i v0 v0=some true:=by
 have hlen:v0.length≤1073741824:=Nat.le_trans (szT_len (t:=(.sl (.int .i64)))) h
 have key:∀ i,i≤v0.length→xl0i.l4 v0 v0 (i:Int)=some true:=by
  refine upto ?_ ?_
  · exact xl0i.eq4 v0 v0 (v0.length:Int) (by simp only [xl0i.t4,ix_lt,Nat.lt_irrefl,decide_false,cond_false])
  · intro i hi ih
    have hc:=xl0o_rf (v0.getD i []) (Nat.le_trans (szT_mem (t:=(.sl (.int .i64))) (getD_mem [] hi)) h)
    exact xl0i.eq4 v0 v0 (i:Int) (by simp only [xl0i.t4,ix_lt,ix_nn,ix_nat,dec_t hi,cond_true,cond_false,bne_ref,beq_ref,bang_t,hc,Option.bind_some,bang_t,wrap_succ (show i<9223372036854775807 by omega),ih])
 exact xl0i.eq v0 v0 (by simp only [xl0i.t,bne_ref,cond_false]; exact key 0 (Nat.zero_le _))
theorem xl0p_rf (v0:Int) (v1:Int) (v2:Int) (h:szT (.pair (.int .i64) (.pair (.int .i64) (.int .i64))) (v0,(v1,v2))≤1073741824):xl0p v0 v1 v2 v0 v1 v2=some true:=by
 exact xl0p.eq v0 v1 v2 v0 v1 v2 (by simp only [xl0p.t,Option.bind_some,bne_ref,beq_ref,bang_t,cond_false])
theorem xl0j_rf (v0:Ze) (h:szT (.sl (.pair (.int .i64) (.pair (.int .i64) (.int .i64)))) v0≤1073741824):xl0j v0 v0=some true:=by
 have hlen:v0.length≤1073741824:=Nat.le_trans (szT_len (t:=(.pair (.int .i64) (.pair (.int .i64) (.int .i64))))) h
 have key:∀ i,i≤v0.length→xl0j.l4 v0 v0 (i:Int)=some true:=by
  refine upto ?_ ?_
  · exact xl0j.eq4 v0 v0 (v0.length:Int) (by simp only [xl0j.t4,ix_lt,Nat.lt_irrefl,decide_false,cond_false])
  · intro i hi ih
    have hc:=xl0p_rf ((v0.getD i ((0:Int),(0:Int),(0:Int))).fst) ((v0.getD i ((0:Int),(0:Int),(0:Int))).snd.fst) ((v0.getD i ((0:Int),(0:Int),(0:Int))).snd.snd) (Nat.le_trans (szT_mem (t:=(.pair (.int .i64) (.pair (.int .i64) (.int .i64)))) (getD_mem ((0:Int),(0:Int),(0:Int)) hi)) h)
    exact xl0j.eq4 v0 v0 (i:Int) (by simp only [xl0j.t4,ix_lt,ix_nn,ix_nat,dec_t hi,cond_true,cond_false,bne_ref,beq_ref,bang_t,hc,Option.bind_some,bang_t,wrap_succ (show i<9223372036854775807 by omega),ih])
 exact xl0j.eq v0 v0 (by simp only [xl0j.t,bne_ref,cond_false]; exact key 0 (Nat.zero_le _))
theorem xl06_ok (v0:Ze) (v1:Int) (h0:0≤v1) (h1:v1+(cntT (.sl (.pair (.int .i64) (.pair (.int .i64) (.int .i64)))) v0:Int)≤4611686018427387904) (h2:szT (.sl (.pair (.int .i64) (.pair (.int .i64) (.int .i64)))) v0≤1073741824):xl06 v0 v1=some ((mrL (mrE (.pair (.int .i64) (.pair (.int .i64) (.int .i64)))) v0 v1).2,(mrL (mrE (.pair (.int .i64) (.pair (.int .i64) (.int .i64)))) v0 v1).1):=by
 have key : ∀ (rest pre : Ze) (k : Int), 0 ≤ k → k + (cntT (.sl (.pair (.int .i64) (.pair (.int .i64) (.int .i64)))) rest : Int) ≤ 4611686018427387904 → pre.length + szT (.sl (.pair (.int .i64) (.pair (.int .i64) (.int .i64)))) rest ≤ 1073741824 →
  xl06.l2 (pre ++ rest) k (pre.length:Int)=some ((mrL (mrE (.pair (.int .i64) (.pair (.int .i64) (.int .i64)))) rest k).2,pre ++ (mrL (mrE (.pair (.int .i64) (.pair (.int .i64) (.int .i64)))) rest k).1):=by
  intro rest
  induction rest with
  | nil =>
    intro pre k _ _ _
    exact xl06.eq2 _ _ _ (by simp only [xl06.t2,List.append_nil,ix_lt,Nat.lt_irrefl,decide_false,cond_false,mrL_nil])
  | cons x r ih =>
    intro pre k hk hb hl
    rw [cnt_cons] at hb
    simp only [cntT] at hb
    simp only [szT,List.length_cons,List.map_cons,List.sum_cons] at hl
    have g:=ih (pre ++ [(mrE (.pair (.int .i64) (.pair (.int .i64) (.int .i64))) x k).1]) (mrE (.pair (.int .i64) (.pair (.int .i64) (.int .i64))) x k).2 (by rw [mrE_cnt]; omega) (by rw [mrE_cnt]; simp only [cntT] at hb ⊢; omega) (by simp only [szT,List.length_append,List.length_cons,List.length_nil] at hl ⊢; omega)
    refine xl06.eq2 _ _ _ ?_
    simp only [mrL_cons,mrE_int,mrE_bool,mrE_sl,mrE_pair]
    simp only [xl06.t2,lenI_mid,ix_nn,ix_nat,len_mid,set_mid,getD_mid,cond_true,cond_false,bne_ref,beq_ref,bang_t,wrap_k (k:=k) (by omega) (by omega),wrap_k (k:=(k+1)) (by omega) (by omega),wrap_k (k:=((k+1)+1)) (by omega) (by omega),wrap_succ (show pre.length<9223372036854775807 by omega),Option.bind_some,dec_rfl,Bool.and_true]
    rw [push_mid]
    simpa [mrE_int,mrE_bool,mrE_sl,mrE_pair] using g
 exact xl06.eq v0 v1 (by simp only [xl06.t]; exact key v0 [] v1 h0 h1 (by simpa using h2))
theorem xl07_ok (v0:List Int) (v1:Int) (h0:0≤v1) (h1:v1+(cntT (.sl (.int .i64)) v0:Int)≤4611686018427387904) (h2:szT (.sl (.int .i64)) v0≤1073741824):xl07 v0 v1=some ((mrL (mrE (.int .i64)) v0 v1).2,(mrL (mrE (.int .i64)) v0 v1).1):=by
 have key : ∀ (rest pre : List Int) (k : Int), 0 ≤ k → k + (cntT (.sl (.int .i64)) rest : Int) ≤ 4611686018427387904 → pre.length + szT (.sl (.int .i64)) rest ≤ 1073741824 →
  xl07.l2 (pre ++ rest) k (pre.length:Int)=some ((mrL (mrE (.int .i64)) rest k).2,pre ++ (mrL (mrE (.int .i64)) rest k).1):=by
  intro rest
  induction rest with
  | nil =>
    intro pre k _ _ _
    exact xl07.eq2 _ _ _ (by simp only [xl07.t2,List.append_nil,ix_lt,Nat.lt_irrefl,decide_false,cond_false,mrL_nil])
  | cons x r ih =>
    intro pre k hk hb hl
    rw [cnt_cons] at hb
    simp only [cntT] at hb
    simp only [szT,List.length_cons,List.map_cons,List.sum_cons] at hl
    have g:=ih (pre ++ [(mrE (.int .i64) x k).1]) (mrE (.int .i64) x k).2 (by rw [mrE_cnt]; omega) (by rw [mrE_cnt]; simp only [cntT] at hb ⊢; omega) (by simp only [szT,List.length_append,List.length_cons,List.length_nil] at hl ⊢; omega)
    refine xl07.eq2 _ _ _ ?_
    simp only [mrL_cons,mrE_int,mrE_bool,mrE_sl,mrE_pair]
    simp only [xl07.t2,lenI_mid,ix_nn,ix_nat,len_mid,set_mid,getD_mid,cond_true,cond_false,bne_ref,beq_ref,bang_t,wrap_k (k:=k) (by omega) (by omega),wrap_succ (show pre.length<9223372036854775807 by omega),Option.bind_some,dec_rfl,Bool.and_true]
    rw [push_mid]
    simpa [mrE_int,mrE_bool,mrE_sl,mrE_pair] using g
 exact xl07.eq v0 v1 (by simp only [xl07.t]; exact key v0 [] v1 h0 h1 (by simpa using h2))
theorem xl05_ok (v0:Zg) (v1:Int) (h0:0≤v1) (h1:v1+(cntT (.sl (.sl (.int .i64))) v0:Int)≤4611686018427387904) (h2:szT (.sl (.sl (.int .i64))) v0≤1073741824):xl05 v0 v1=some ((mrL (mrE (.sl (.int .i64))) v0 v1).2,(mrL (mrE (.sl (.int .i64))) v0 v1).1):=by
 have key : ∀ (rest pre : Zg) (k : Int), 0 ≤ k → k + (cntT (.sl (.sl (.int .i64))) rest : Int) ≤ 4611686018427387904 → pre.length + szT (.sl (.sl (.int .i64))) rest ≤ 1073741824 →
  xl05.l2 (pre ++ rest) k (pre.length:Int)=some ((mrL (mrE (.sl (.int .i64))) rest k).2,pre ++ (mrL (mrE (.sl (.int .i64))) rest k).1):=by
  intro rest
  induction rest with
  | nil =>
    intro pre k _ _ _
    exact xl05.eq2 _ _ _ (by simp only [xl05.t2,List.append_nil,ix_lt,Nat.lt_irrefl,decide_false,cond_false,mrL_nil])
  | cons x r ih =>
    intro pre k hk hb hl
    rw [cnt_cons] at hb
    simp only [cntT] at hb
    simp only [szT,List.length_cons,List.map_cons,List.sum_cons] at hl
    have n1:=mrL_cnt (t:=(.int .i64)) x k
    simp only [cntT] at n1
    have c1:=xl07_ok x k (by omega) (by simp only [cntT]; omega) (by simp only [szT]; omega)
    have g:=ih (pre ++ [(mrE (.sl (.int .i64)) x k).1]) (mrE (.sl (.int .i64)) x k).2 (by rw [mrE_cnt]; omega) (by rw [mrE_cnt]; simp only [cntT] at hb ⊢; omega) (by simp only [szT,List.length_append,List.length_cons,List.length_nil] at hl ⊢; omega)
    refine xl05.eq2 _ _ _ ?_
    simp only [mrL_cons,mrE_int,mrE_bool,mrE_sl,mrE_pair]
    simp only [xl05.t2,lenI_mid,ix_nn,ix_nat,len_mid,set_mid,getD_mid,cond_true,cond_false,bne_ref,beq_ref,bang_t,c1,wrap_succ (show pre.length<9223372036854775807 by omega),Option.bind_some,dec_rfl,Bool.and_true]
    rw [push_mid]
    simpa [mrE_int,mrE_bool,mrE_sl,mrE_pair] using g
 exact xl05.eq v0 v1 (by simp only [xl05.t]; exact key v0 [] v1 h0 h1 (by simpa using h2))
theorem xl0g_ok (v0:List Int) (v1:Int) (h0:0≤v1) (h1:v1+(cntT (.sl (.int .i64)) v0:Int)≤4611686018427387904) (h2:szT (.sl (.int .i64)) v0≤1073741824):xl0g (mrL (mrE (.int .i64)) v0 v1).1 v1=some (mrL (mrE (.int .i64)) v0 v1).2:=by
 have key : ∀ (rest pre : List Int) (k : Int), 0 ≤ k → k + (cntT (.sl (.int .i64)) rest : Int) ≤ 4611686018427387904 → pre.length + szT (.sl (.int .i64)) rest ≤ 1073741824 →
  xl0g.l2 (pre ++ (mrL (mrE (.int .i64)) rest k).1) k (pre.length:Int)=some (mrL (mrE (.int .i64)) rest k).2:=by
  intro rest
  induction rest with
  | nil =>
    intro pre k _ _ _
    exact xl0g.eq2 _ _ _ (by simp only [xl0g.t2,List.append_nil,ix_lt,Nat.lt_irrefl,decide_false,cond_false,mrL_nil])
  | cons x r ih =>
    intro pre k hk hb hl
    rw [cnt_cons] at hb
    simp only [cntT] at hb
    simp only [szT,List.length_cons,List.map_cons,List.sum_cons] at hl
    have g:=ih (pre ++ [(mrE (.int .i64) x k).1]) (mrE (.int .i64) x k).2 (by rw [mrE_cnt]; omega) (by rw [mrE_cnt]; simp only [cntT] at hb ⊢; omega) (by simp only [szT,List.length_append,List.length_cons,List.length_nil] at hl ⊢; omega)
    refine xl0g.eq2 _ _ _ ?_
    simp only [mrL_cons,mrE_int,mrE_bool,mrE_sl,mrE_pair]
    simp only [xl0g.t2,lenI_mid,ix_nn,ix_nat,len_mid,set_mid,getD_mid,cond_true,cond_false,bne_ref,beq_ref,bang_t,wrap_k (k:=k) (by omega) (by omega),wrap_succ (show pre.length<9223372036854775807 by omega),Option.bind_some,dec_rfl,Bool.and_true]
    rw [push_mid]
    simpa [mrE_int,mrE_bool,mrE_sl,mrE_pair] using g
 exact xl0g.eq _ v1 (by simp only [xl0g.t]; exact key v0 [] v1 h0 h1 (by simpa using h2))
theorem xl0d_ok (v0:Zg) (v1:Int) (h0:0≤v1) (h1:v1+(cntT (.sl (.sl (.int .i64))) v0:Int)≤4611686018427387904) (h2:szT (.sl (.sl (.int .i64))) v0≤1073741824):xl0d (mrL (mrE (.sl (.int .i64))) v0 v1).1 v1=some (mrL (mrE (.sl (.int .i64))) v0 v1).2:=by
 have key : ∀ (rest pre : Zg) (k : Int), 0 ≤ k → k + (cntT (.sl (.sl (.int .i64))) rest : Int) ≤ 4611686018427387904 → pre.length + szT (.sl (.sl (.int .i64))) rest ≤ 1073741824 →
  xl0d.l2 (pre ++ (mrL (mrE (.sl (.int .i64))) rest k).1) k (pre.length:Int)=some (mrL (mrE (.sl (.int .i64))) rest k).2:=by
  intro rest
  induction rest with
  | nil =>
    intro pre k _ _ _
    exact xl0d.eq2 _ _ _ (by simp only [xl0d.t2,List.append_nil,ix_lt,Nat.lt_irrefl,decide_false,cond_false,mrL_nil])
  | cons x r ih =>
    intro pre k hk hb hl
    rw [cnt_cons] at hb
    simp only [cntT] at hb
    simp only [szT,List.length_cons,List.map_cons,List.sum_cons] at hl
    have n1:=mrL_cnt (t:=(.int .i64)) x k
    simp only [cntT] at n1
    have c1:=xl0g_ok x k (by omega) (by simp only [cntT]; omega) (by simp only [szT]; omega)
    have g1:¬ (mrL (mrE (.int .i64)) x k).2<0:=by omega
    have g:=ih (pre ++ [(mrE (.sl (.int .i64)) x k).1]) (mrE (.sl (.int .i64)) x k).2 (by rw [mrE_cnt]; omega) (by rw [mrE_cnt]; simp only [cntT] at hb ⊢; omega) (by simp only [szT,List.length_append,List.length_cons,List.length_nil] at hl ⊢; omega)
    refine xl0d.eq2 _ _ _ ?_
    simp only [mrL_cons,mrE_int,mrE_bool,mrE_sl,mrE_pair]
    simp only [xl0d.t2,lenI_mid,ix_nn,ix_nat,len_mid,set_mid,getD_mid,cond_true,cond_false,bne_ref,beq_ref,bang_t,c1,dec_f g1,wrap_succ (show pre.length<9223372036854775807 by omega),Option.bind_some,dec_rfl,Bool.and_true]
    rw [push_mid]
    simpa [mrE_int,mrE_bool,mrE_sl,mrE_pair] using g
 exact xl0d.eq _ v1 (by simp only [xl0d.t]; exact key v0 [] v1 h0 h1 (by simpa using h2))
end GoV

/- Small words of the program and of its specification. -/
namespace GoV
open Go
theorem xi0n_eq (x lo hi:Int):xi0n x lo hi=some (inB lo hi x):=by
 refine xi0n.eq x lo hi ?_
 simp only [xi0n.t,inB]
 by_cases h:lo≤x <;> simp [h]
theorem xs0v_eq (x lo hi:Int):xs0v x lo hi=some (inB lo hi x):=by
 refine xs0v.eq x lo hi ?_
 simp only [xs0v.t,inB]
 by_cases h:lo≤x <;> simp [h]
end GoV
