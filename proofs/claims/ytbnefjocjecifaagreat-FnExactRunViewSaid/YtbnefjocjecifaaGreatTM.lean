/- A part of the proof of FnExactRunView: an interpreter of the model over plain data, its soundness, and what it makes of the functions that the statement reaches. Conditions: none beyond what the given statement itself says. -/
import Derived.Test.YtbnefjocjecifaaGreatTL
set_option linter.unusedVariables false
set_option linter.unusedSimpArgs false
set_option linter.unnecessarySimpa false
set_option linter.unusedSectionVars false
/- What the statements' own helpers answer (printed by wip/tools/lawgen.py). -/
namespace GoV
open Go
theorem xl3x_ok (v0:List Int) (v1:Int) (hw:WfT (.sl (.int .i64)) v0) (h1:0≤v1) (h2:v1≤1048576):∃ r,xl3x v0 v1=some r∧r≤v1∧(0≤r→(szT (.sl (.int .i64)) v0:Int)+r=v1):=by
 have hl:=hw.1
 have e0:IntKind.i64.wrap (v1 - (v0.length:Int))=v1 - (v0.length:Int):=wrap_id (by omega) (by omega)
 by_cases hn:v1 - (v0.length:Int)<0
 · exact ⟨-1,xl3x.eq v0 v1 (by simp only [xl3x.t,e0,dec_t hn,cond_true]),by omega,fun h => by omega⟩
 · exact ⟨v1 - (v0.length:Int),xl3x.eq v0 v1 (by simp only [xl3x.t,e0,dec_f hn,cond_false]),by omega,fun _ => by rw [szT_sl_flat (t:=(.int .i64)) v0 rfl]; omega⟩
theorem xl3e_ok (v0:Ze) (v1:Int) (hw:WfT (.sl (.pair (.int .i64) (.pair (.int .i64) (.int .i64)))) v0) (h1:0≤v1) (h2:v1≤1048576):∃ r,xl3e v0 v1=some r∧r≤v1∧(0≤r→(szT (.sl (.pair (.int .i64) (.pair (.int .i64) (.int .i64)))) v0:Int)+r=v1):=by
 have hl:=hw.1
 have e0:IntKind.i64.wrap (v1 - (v0.length:Int))=v1 - (v0.length:Int):=wrap_id (by omega) (by omega)
 by_cases hn:v1 - (v0.length:Int)<0
 · exact ⟨-1,xl3e.eq v0 v1 (by simp only [xl3e.t,e0,dec_t hn,cond_true]),by omega,fun h => by omega⟩
 · exact ⟨v1 - (v0.length:Int),xl3e.eq v0 v1 (by simp only [xl3e.t,e0,dec_f hn,cond_false]),by omega,fun _ => by rw [szT_sl_flat (t:=(.pair (.int .i64) (.pair (.int .i64) (.int .i64)))) v0 rfl]; omega⟩
theorem xl3b_ok (v0:Zg) (v1:Int) (hw:WfT (.sl (.sl (.int .i64))) v0) (h1:0≤v1) (h2:v1≤1048576):∃ r,xl3b v0 v1=some r∧r≤v1∧(0≤r→(szT (.sl (.sl (.int .i64))) v0:Int)+r=v1):=by
 have hl:=hw.1
 have e0:IntKind.i64.wrap (v1 - (v0.length:Int))=v1 - (v0.length:Int):=wrap_id (by omega) (by omega)
 by_cases hn:v1 - (v0.length:Int)<0
 · exact ⟨-1,xl3b.eq v0 v1 (by simp only [xl3b.t,e0,dec_t hn,cond_true]),by omega,fun h => by omega⟩
 · have key:∀ i,i≤v0.length→∀ m:Int,0≤m→m≤1048576→∃ r,xl3b.l5 v0 m (i:Int)=some r∧r≤m∧(0≤r→((((v0.drop i).map (szT (.sl (.int .i64)))).sum:Nat):Int)+r=m):=by
    refine upto ?_ ?_
    · intro m h1 h2
      exact ⟨m,xl3b.eq5 v0 m (v0.length:Int) (by simp only [xl3b.t5,ix_lt,Nat.lt_irrefl,decide_false,cond_false]),Int.le_refl _,fun _ => by simp⟩
    · intro i hi ih m h1 h2
      obtain ⟨r,hr,hr1,hr2⟩:=xl3x_ok (v0.getD i []) m (hw.2 _ (getD_mem [] hi)) h1 h2
      by_cases hneg:r<0
      · exact ⟨-1,xl3b.eq5 v0 m (i:Int) (by simp only [xl3b.t5,ix_lt,ix_nn,ix_nat,dec_t hi,cond_true,hr,Option.bind_some,dec_t hneg]),by omega,fun h => by omega⟩
      · obtain ⟨r2, g0, g1, g2⟩ := ih r (by omega) (by omega)
        refine ⟨r2,xl3b.eq5 v0 m (i:Int) (by simp only [xl3b.t5,ix_lt,ix_nn,ix_nat,dec_t hi,cond_true,hr,Option.bind_some,dec_f hneg,cond_false,wrap_succ (show i<9223372036854775807 by omega),g0]),by omega,fun h => ?_⟩
        have k1:=hr2 (by omega)
        have k2:=g2 h
        rw [drop_getD [] hi]
        simp only [List.map_cons,List.sum_cons]
        simp only [szT] at k1 k2 ⊢
        omega
   obtain ⟨r,g0,g1,g2⟩:=key 0 (Nat.zero_le _) (v1 - (v0.length:Int)) (by omega) (by omega)
   refine ⟨r,xl3b.eq v0 v1 (by simp only [xl3b.t,e0,dec_f hn,cond_false]; exact g0),by omega,fun h => ?_⟩
   have:=g2 h
   simp only [List.drop_zero] at this
   simp only [szT] at this ⊢
   omega
theorem xl3y_ok (v0:Int) (v1:Int) (v2:Int) (v3:Ze) (v4:List Int) (v5:Zg) (v6:Int) (hw:WfT (.pair (.int .i64) (.pair (.int .i64) (.pair (.int .i64) (.pair (.sl (.pair (.int .i64) (.pair (.int .i64) (.int .i64)))) (.pair (.sl (.int .i64)) (.sl (.sl (.int .i64)))))))) (v0,(v1,(v2,(v3,(v4,v5)))))) (h1:0≤v6) (h2:v6≤1048576):∃ r,xl3y v0 v1 v2 v3 v4 v5 v6=some r∧r≤v6∧(0≤r→(szT (.pair (.int .i64) (.pair (.int .i64) (.pair (.int .i64) (.pair (.sl (.pair (.int .i64) (.pair (.int .i64) (.int .i64)))) (.pair (.sl (.int .i64)) (.sl (.sl (.int .i64)))))))) (v0,(v1,(v2,(v3,(v4,v5))))):Int)+r=v6):=by
 obtain ⟨r1,e1,a1,b1⟩:=xl3e_ok v3 v6 hw.2.2.2.1 h1 h2
 by_cases n1:r1<0
 · exact ⟨-1,xl3y.eq v0 v1 v2 v3 v4 v5 v6 (by simp only [xl3y.t,dec_t n1,e1,cond_true,cond_false,Option.bind_some]),by omega,fun h => by omega⟩
 obtain ⟨r2,e2,a2,b2⟩:=xl3x_ok v4 r1 hw.2.2.2.2.1 (by omega) (by omega)
 by_cases n2:r2<0
 · exact ⟨-1,xl3y.eq v0 v1 v2 v3 v4 v5 v6 (by simp only [xl3y.t,e1,dec_f n1,dec_t n2,e2,cond_true,cond_false,Option.bind_some]),by omega,fun h => by omega⟩
 obtain ⟨r3,e3,a3,b3⟩:=xl3b_ok v5 r2 hw.2.2.2.2.2 (by omega) (by omega)
 by_cases n3:r3<0
 · exact ⟨-1,xl3y.eq v0 v1 v2 v3 v4 v5 v6 (by simp only [xl3y.t,e1,dec_f n1,e2,dec_f n2,dec_t n3,e3,cond_true,cond_false,Option.bind_some]),by omega,fun h => by omega⟩
 refine ⟨r3,xl3y.eq v0 v1 v2 v3 v4 v5 v6 (by simp only [xl3y.t,e1,dec_f n1,e2,dec_f n2,e3,dec_f n3,cond_true,cond_false,Option.bind_some]),by omega,fun h => ?_⟩
 have k1:=b1 (by omega)
 have k2:=b2 (by omega)
 have k3:=b3 (by omega)
 simp only [szT] at k1 k2 k3 ⊢
 omega
theorem xl3c_ok (v0:Za) (v1:Int) (hw:WfT (.sl (.pair (.int .i64) (.pair (.int .i64) (.pair (.int .i64) (.pair (.sl (.pair (.int .i64) (.pair (.int .i64) (.int .i64)))) (.pair (.sl (.int .i64)) (.sl (.sl (.int .i64))))))))) v0) (h1:0≤v1) (h2:v1≤1048576):∃ r,xl3c v0 v1=some r∧r≤v1∧(0≤r→(szT (.sl (.pair (.int .i64) (.pair (.int .i64) (.pair (.int .i64) (.pair (.sl (.pair (.int .i64) (.pair (.int .i64) (.int .i64)))) (.pair (.sl (.int .i64)) (.sl (.sl (.int .i64))))))))) v0:Int)+r=v1):=by
 have hl:=hw.1
 have e0:IntKind.i64.wrap (v1 - (v0.length:Int))=v1 - (v0.length:Int):=wrap_id (by omega) (by omega)
 by_cases hn:v1 - (v0.length:Int)<0
 · exact ⟨-1,xl3c.eq v0 v1 (by simp only [xl3c.t,e0,dec_t hn,cond_true]),by omega,fun h => by omega⟩
 · have key:∀ i,i≤v0.length→∀ m:Int,0≤m→m≤1048576→∃ r,xl3c.l5 v0 m (i:Int)=some r∧r≤m∧(0≤r→((((v0.drop i).map (szT (.pair (.int .i64) (.pair (.int .i64) (.pair (.int .i64) (.pair (.sl (.pair (.int .i64) (.pair (.int .i64) (.int .i64)))) (.pair (.sl (.int .i64)) (.sl (.sl (.int .i64)))))))))).sum:Nat):Int)+r=m):=by
    refine upto ?_ ?_
    · intro m h1 h2
      exact ⟨m,xl3c.eq5 v0 m (v0.length:Int) (by simp only [xl3c.t5,ix_lt,Nat.lt_irrefl,decide_false,cond_false]),Int.le_refl _,fun _ => by simp⟩
    · intro i hi ih m h1 h2
      obtain ⟨r,hr,hr1,hr2⟩:=xl3y_ok ((v0.getD i ((0:Int),(0:Int),(0:Int),[],[],[])).fst) ((v0.getD i ((0:Int),(0:Int),(0:Int),[],[],[])).snd.fst) ((v0.getD i ((0:Int),(0:Int),(0:Int),[],[],[])).snd.snd.fst) ((v0.getD i ((0:Int),(0:Int),(0:Int),[],[],[])).snd.snd.snd.fst) ((v0.getD i ((0:Int),(0:Int),(0:Int),[],[],[])).snd.snd.snd.snd.fst) ((v0.getD i ((0:Int),(0:Int),(0:Int),[],[],[])).snd.snd.snd.snd.snd) m (hw.2 _ (getD_mem ((0:Int),(0:Int),(0:Int),[],[],[]) hi)) h1 h2
      by_cases hneg:r<0
      · exact ⟨-1,xl3c.eq5 v0 m (i:Int) (by simp only [xl3c.t5,ix_lt,ix_nn,ix_nat,dec_t hi,cond_true,hr,Option.bind_some,dec_t hneg]),by omega,fun h => by omega⟩
      · obtain ⟨r2, g0, g1, g2⟩ := ih r (by omega) (by omega)
        refine ⟨r2,xl3c.eq5 v0 m (i:Int) (by simp only [xl3c.t5,ix_lt,ix_nn,ix_nat,dec_t hi,cond_true,hr,Option.bind_some,dec_f hneg,cond_false,wrap_succ (show i<9223372036854775807 by omega),g0]),by omega,fun h => ?_⟩
        have k1:=hr2 (by omega)
        have k2:=g2 h
        rw [drop_getD ((0:Int),(0:Int),(0:Int),[],[],[]) hi]
        simp only [List.map_cons,List.sum_cons]
        simp only [szT] at k1 k2 ⊢
        omega
   obtain ⟨r,g0,g1,g2⟩:=key 0 (Nat.zero_le _) (v1 - (v0.length:Int)) (by omega) (by omega)
   refine ⟨r,xl3c.eq v0 v1 (by simp only [xl3c.t,e0,dec_f hn,cond_false]; exact g0),by omega,fun h => ?_⟩
   have:=g2 h
   simp only [List.drop_zero] at this
   simp only [szT] at this ⊢
   omega
theorem xl3z_ok (v0:List Int) (v1:Za) (v2:Int) (hw:WfT (.pair (.sl (.int .i64)) (.sl (.pair (.int .i64) (.pair (.int .i64) (.pair (.int .i64) (.pair (.sl (.pair (.int .i64) (.pair (.int .i64) (.int .i64)))) (.pair (.sl (.int .i64)) (.sl (.sl (.int .i64)))))))))) (v0,v1)) (h1:0≤v2) (h2:v2≤1048576):∃ r,xl3z v0 v1 v2=some r∧r≤v2∧(0≤r→(szT (.pair (.sl (.int .i64)) (.sl (.pair (.int .i64) (.pair (.int .i64) (.pair (.int .i64) (.pair (.sl (.pair (.int .i64) (.pair (.int .i64) (.int .i64)))) (.pair (.sl (.int .i64)) (.sl (.sl (.int .i64)))))))))) (v0,v1):Int)+r=v2):=by
 obtain ⟨r1,e1,a1,b1⟩:=xl3x_ok v0 v2 hw.1 h1 h2
 by_cases n1:r1<0
 · exact ⟨-1,xl3z.eq v0 v1 v2 (by simp only [xl3z.t,dec_t n1,e1,cond_true,cond_false,Option.bind_some]),by omega,fun h => by omega⟩
 obtain ⟨r2,e2,a2,b2⟩:=xl3c_ok v1 r1 hw.2 (by omega) (by omega)
 by_cases n2:r2<0
 · exact ⟨-1,xl3z.eq v0 v1 v2 (by simp only [xl3z.t,e1,dec_f n1,dec_t n2,e2,cond_true,cond_false,Option.bind_some]),by omega,fun h => by omega⟩
 refine ⟨r2,xl3z.eq v0 v1 v2 (by simp only [xl3z.t,e1,dec_f n1,e2,dec_f n2,cond_true,cond_false,Option.bind_some]),by omega,fun h => ?_⟩
 have k1:=b1 (by omega)
 have k2:=b2 (by omega)
 simp only [szT] at k1 k2 ⊢
 omega
theorem xl4c_ok (v0:List Int) (v1:Int) (hw:WfT (.sl (.int .i64)) v0) (h1:0≤v1) (h2:v1≤1048576):∃ r,xl4c v0 v1=some r∧r≤v1∧(0≤r→(szT (.sl (.int .i64)) v0:Int)+r=v1):=by
 obtain ⟨r1,e1,a1,b1⟩:=xl3x_ok v0 v1 hw h1 h2
 by_cases n1:r1<0
 · exact ⟨-1,xl4c.eq v0 v1 (by simp only [xl4c.t,dec_t n1,e1,cond_true,cond_false,Option.bind_some]),by omega,fun h => by omega⟩
 refine ⟨r1,xl4c.eq v0 v1 (by simp only [xl4c.t,e1,dec_f n1,cond_true,cond_false,Option.bind_some]),by omega,fun h => ?_⟩
 have k1:=b1 (by omega)
 simp only [szT] at k1 ⊢
 omega
theorem xl27_ok (v0:List Int) (v1:Int) (v2:Int) (hw:WfT (.pair (.sl (.int .i64)) (.int .i64)) (v0,v1)) (h1:0≤v2) (h2:v2≤1048576):∃ r,xl27 v0 v1 v2=some r∧r≤v2∧(0≤r→(szT (.pair (.sl (.int .i64)) (.int .i64)) (v0,v1):Int)+r=v2):=by
 obtain ⟨r1,e1,a1,b1⟩:=xl4c_ok v0 v2 hw.1 h1 h2
 by_cases n1:r1<0
 · exact ⟨-1,xl27.eq v0 v1 v2 (by simp only [xl27.t,dec_t n1,e1,cond_true,cond_false,Option.bind_some]),by omega,fun h => by omega⟩
 refine ⟨r1,xl27.eq v0 v1 v2 (by simp only [xl27.t,e1,dec_f n1,cond_true,cond_false,Option.bind_some]),by omega,fun h => ?_⟩
 have k1:=b1 (by omega)
 simp only [szT] at k1 ⊢
 omega
theorem xl1x_ok (v0:Zd) (v1:Int) (hw:WfT (.sl (.pair (.sl (.int .i64)) (.int .i64))) v0) (h1:0≤v1) (h2:v1≤1048576):∃ r,xl1x v0 v1=some r∧r≤v1∧(0≤r→(szT (.sl (.pair (.sl (.int .i64)) (.int .i64))) v0:Int)+r=v1):=by
 have hl:=hw.1
 have e0:IntKind.i64.wrap (v1 - (v0.length:Int))=v1 - (v0.length:Int):=wrap_id (by omega) (by omega)
 by_cases hn:v1 - (v0.length:Int)<0
 · exact ⟨-1,xl1x.eq v0 v1 (by simp only [xl1x.t,e0,dec_t hn,cond_true]),by omega,fun h => by omega⟩
 · have key:∀ i,i≤v0.length→∀ m:Int,0≤m→m≤1048576→∃ r,xl1x.l5 v0 m (i:Int)=some r∧r≤m∧(0≤r→((((v0.drop i).map (szT (.pair (.sl (.int .i64)) (.int .i64)))).sum:Nat):Int)+r=m):=by
    refine upto ?_ ?_
    · intro m h1 h2
      exact ⟨m,xl1x.eq5 v0 m (v0.length:Int) (by simp only [xl1x.t5,ix_lt,Nat.lt_irrefl,decide_false,cond_false]),Int.le_refl _,fun _ => by simp⟩
    · intro i hi ih m h1 h2
      obtain ⟨r,hr,hr1,hr2⟩:=xl27_ok ((v0.getD i ([],(0:Int))).fst) ((v0.getD i ([],(0:Int))).snd) m (hw.2 _ (getD_mem ([],(0:Int)) hi)) h1 h2
      by_cases hneg:r<0
      · exact ⟨-1,xl1x.eq5 v0 m (i:Int) (by simp only [xl1x.t5,ix_lt,ix_nn,ix_nat,dec_t hi,cond_true,hr,Option.bind_some,dec_t hneg]),by omega,fun h => by omega⟩
      · obtain ⟨r2, g0, g1, g2⟩ := ih r (by omega) (by omega)
        refine ⟨r2,xl1x.eq5 v0 m (i:Int) (by simp only [xl1x.t5,ix_lt,ix_nn,ix_nat,dec_t hi,cond_true,hr,Option.bind_some,dec_f hneg,cond_false,wrap_succ (show i<9223372036854775807 by omega),g0]),by omega,fun h => ?_⟩
        have k1:=hr2 (by omega)
        have k2:=g2 h
        rw [drop_getD ([],(0:Int)) hi]
        simp only [List.map_cons,List.sum_cons]
        simp only [szT] at k1 k2 ⊢
        omega
   obtain ⟨r,g0,g1,g2⟩:=key 0 (Nat.zero_le _) (v1 - (v0.length:Int)) (by omega) (by omega)
   refine ⟨r,xl1x.eq v0 v1 (by simp only [xl1x.t,e0,dec_f hn,cond_false]; exact g0),by omega,fun h => ?_⟩
   have:=g2 h
   simp only [List.drop_zero] at this
   simp only [szT] at this ⊢
   omega
theorem xl3d_ok (v0:Int) (v1:Zd) (v2:Int) (hw:WfT (.pair (.int .i64) (.sl (.pair (.sl (.int .i64)) (.int .i64)))) (v0,v1)) (h1:0≤v2) (h2:v2≤1048576):∃ r,xl3d v0 v1 v2=some r∧r≤v2∧(0≤r→(szT (.pair (.int .i64) (.sl (.pair (.sl (.int .i64)) (.int .i64)))) (v0,v1):Int)+r=v2):=by
 obtain ⟨r1,e1,a1,b1⟩:=xl1x_ok v1 v2 hw.2 h1 h2
 by_cases n1:r1<0
 · exact ⟨-1,xl3d.eq v0 v1 v2 (by simp only [xl3d.t,dec_t n1,e1,cond_true,cond_false,Option.bind_some]),by omega,fun h => by omega⟩
 refine ⟨r1,xl3d.eq v0 v1 v2 (by simp only [xl3d.t,e1,dec_f n1,cond_true,cond_false,Option.bind_some]),by omega,fun h => ?_⟩
 have k1:=b1 (by omega)
 simp only [szT] at k1 ⊢
 omega
theorem xl2v_ok (v0:Zb) (v1:Int) (hw:WfT (.sl (.pair (.int .i64) (.sl (.pair (.sl (.int .i64)) (.int .i64))))) v0) (h1:0≤v1) (h2:v1≤1048576):∃ r,xl2v v0 v1=some r∧r≤v1∧(0≤r→(szT (.sl (.pair (.int .i64) (.sl (.pair (.sl (.int .i64)) (.int .i64))))) v0:Int)+r=v1):=by
 have hl:=hw.1
 have e0:IntKind.i64.wrap (v1 - (v0.length:Int))=v1 - (v0.length:Int):=wrap_id (by omega) (by omega)
 by_cases hn:v1 - (v0.length:Int)<0
 · exact ⟨-1,xl2v.eq v0 v1 (by simp only [xl2v.t,e0,dec_t hn,cond_true]),by omega,fun h => by omega⟩
 · have key:∀ i,i≤v0.length→∀ m:Int,0≤m→m≤1048576→∃ r,xl2v.l5 v0 m (i:Int)=some r∧r≤m∧(0≤r→((((v0.drop i).map (szT (.pair (.int .i64) (.sl (.pair (.sl (.int .i64)) (.int .i64)))))).sum:Nat):Int)+r=m):=by
    refine upto ?_ ?_
    · intro m h1 h2
      exact ⟨m,xl2v.eq5 v0 m (v0.length:Int) (by simp only [xl2v.t5,ix_lt,Nat.lt_irrefl,decide_false,cond_false]),Int.le_refl _,fun _ => by simp⟩
    · intro i hi ih m h1 h2
      obtain ⟨r,hr,hr1,hr2⟩:=xl3d_ok ((v0.getD i ((0:Int),[])).fst) ((v0.getD i ((0:Int),[])).snd) m (hw.2 _ (getD_mem ((0:Int),[]) hi)) h1 h2
      by_cases hneg:r<0
      · exact ⟨-1,xl2v.eq5 v0 m (i:Int) (by simp only [xl2v.t5,ix_lt,ix_nn,ix_nat,dec_t hi,cond_true,hr,Option.bind_some,dec_t hneg]),by omega,fun h => by omega⟩
      · obtain ⟨r2, g0, g1, g2⟩ := ih r (by omega) (by omega)
        refine ⟨r2,xl2v.eq5 v0 m (i:Int) (by simp only [xl2v.t5,ix_lt,ix_nn,ix_nat,dec_t hi,cond_true,hr,Option.bind_some,dec_f hneg,cond_false,wrap_succ (show i<9223372036854775807 by omega),g0]),by omega,fun h => ?_⟩
        have k1:=hr2 (by omega)
        have k2:=g2 h
        rw [drop_getD ((0:Int),[]) hi]
        simp only [List.map_cons,List.sum_cons]
        simp only [szT] at k1 k2 ⊢
        omega
   obtain ⟨r,g0,g1,g2⟩:=key 0 (Nat.zero_le _) (v1 - (v0.length:Int)) (by omega) (by omega)
   refine ⟨r,xl2v.eq v0 v1 (by simp only [xl2v.t,e0,dec_f hn,cond_false]; exact g0),by omega,fun h => ?_⟩
   have:=g2 h
   simp only [List.drop_zero] at this
   simp only [szT] at this ⊢
   omega
theorem xl40_id (v0:List Int) (h:szT (.sl (.int .i64)) v0≤1073741824):xl40 v0=some v0:=by
 have hlen:v0.length≤1073741824:=Nat.le_trans (szT_len (t:=(.int .i64))) h
 have key:∀ i,i≤v0.length→∀ a:List Int,a.length=v0.length→a.take i=v0.take i→xl40.l3 v0 a (i:Int)=some v0:=by
  refine upto ?_ ?_
  · intro a ha hh
    have ea:=take_all_eq ha hh
    subst ea
    exact xl40.eq3 a a (a.length:Int) (by simp only [xl40.t3,ix_lt,Nat.lt_irrefl,decide_false,cond_false])
  · intro i hi ih a ha hh
    have g:=ih (a.set i (v0.getD i (0:Int))) (by simp [ha]) (set_step hi ha hh)
    have hia:i<a.length:=by omega
    refine xl40.eq3 v0 a (i:Int) ?_
    simp only [xl40.t3,ix_lt,ix_nn,ix_nat,dec_t hi,dec_t hia,cond_true,wrap_succ (show i<9223372036854775807 by omega)]
    exact g
 refine xl40.eq v0 ?_
 have h3:((v0.length:Int)≤((4294967296:Nat):Int)):=by omega
 simp only [xl40.t,decide_true,dec_t h3,cond_true,ix_nat]
 exact key 0 (Nat.zero_le _) _ (by simp) (by simp)
theorem xl42_id (v0:Int) (v1:Int) (v2:Int) (h:szT (.pair (.int .i64) (.pair (.int .i64) (.int .i64))) (v0,(v1,v2))≤1073741824):xl42 v0 v1 v2=some (v0,v1,v2):=by
 exact xl42.eq v0 v1 v2 (by simp only [xl42.t,Option.bind_some])
theorem xl3i_id (v0:Ze) (h:szT (.sl (.pair (.int .i64) (.pair (.int .i64) (.int .i64)))) v0≤1073741824):xl3i v0=some v0:=by
 have hlen:v0.length≤1073741824:=Nat.le_trans (szT_len (t:=(.pair (.int .i64) (.pair (.int .i64) (.int .i64))))) h
 have key:∀ i,i≤v0.length→∀ a:Ze,a.length=v0.length→a.take i=v0.take i→xl3i.l3 v0 a (i:Int)=some v0:=by
  refine upto ?_ ?_
  · intro a ha hh
    have ea:=take_all_eq ha hh
    subst ea
    exact xl3i.eq3 a a (a.length:Int) (by simp only [xl3i.t3,ix_lt,Nat.lt_irrefl,decide_false,cond_false])
  · intro i hi ih a ha hh
    have hc:=xl42_id ((v0.getD i ((0:Int),(0:Int),(0:Int))).fst) ((v0.getD i ((0:Int),(0:Int),(0:Int))).snd.fst) ((v0.getD i ((0:Int),(0:Int),(0:Int))).snd.snd) (Nat.le_trans (szT_mem (t:=(.pair (.int .i64) (.pair (.int .i64) (.int .i64)))) (getD_mem ((0:Int),(0:Int),(0:Int)) hi)) h)
    have g:=ih (a.set i (v0.getD i ((0:Int),(0:Int),(0:Int)))) (by simp [ha]) (set_step hi ha hh)
    have hia:i<a.length:=by omega
    refine xl3i.eq3 v0 a (i:Int) ?_
    simp only [xl3i.t3,ix_lt,ix_nn,ix_nat,dec_t hi,dec_t hia,cond_true,hc,Option.bind_some,wrap_succ (show i<9223372036854775807 by omega)]
    exact g
 refine xl3i.eq v0 ?_
 have h3:((v0.length:Int)≤((4294967296:Nat):Int)):=by omega
 simp only [xl3i.t,decide_true,dec_t h3,cond_true,ix_nat]
 exact key 0 (Nat.zero_le _) _ (by simp) (by simp)
theorem xl3f_id (v0:Zg) (h:szT (.sl (.sl (.int .i64))) v0≤1073741824):xl3f v0=some v0:=by
 have hlen:v0.length≤1073741824:=Nat.le_trans (szT_len (t:=(.sl (.int .i64)))) h
 have key:∀ i,i≤v0.length→∀ a:Zg,a.length=v0.length→a.take i=v0.take i→xl3f.l3 v0 a (i:Int)=some v0:=by
  refine upto ?_ ?_
  · intro a ha hh
    have ea:=take_all_eq ha hh
    subst ea
    exact xl3f.eq3 a a (a.length:Int) (by simp only [xl3f.t3,ix_lt,Nat.lt_irrefl,decide_false,cond_false])
  · intro i hi ih a ha hh
    have hc:=xl40_id (v0.getD i []) (Nat.le_trans (szT_mem (t:=(.sl (.int .i64))) (getD_mem [] hi)) h)
    have g:=ih (a.set i (v0.getD i [])) (by simp [ha]) (set_step hi ha hh)
    have hia:i<a.length:=by omega
    refine xl3f.eq3 v0 a (i:Int) ?_
    simp only [xl3f.t3,ix_lt,ix_nn,ix_nat,dec_t hi,dec_t hia,cond_true,hc,Option.bind_some,wrap_succ (show i<9223372036854775807 by omega)]
    exact g
 refine xl3f.eq v0 ?_
 have h3:((v0.length:Int)≤((4294967296:Nat):Int)):=by omega
 simp only [xl3f.t,decide_true,dec_t h3,cond_true,ix_nat]
 exact key 0 (Nat.zero_le _) _ (by simp) (by simp)
theorem xl41_id (v0:Int) (v1:Int) (v2:Int) (v3:Ze) (v4:List Int) (v5:Zg) (h:szT (.pair (.int .i64) (.pair (.int .i64) (.pair (.int .i64) (.pair (.sl (.pair (.int .i64) (.pair (.int .i64) (.int .i64)))) (.pair (.sl (.int .i64)) (.sl (.sl (.int .i64)))))))) (v0,(v1,(v2,(v3,(v4,v5)))))≤1073741824):xl41 v0 v1 v2 v3 v4 v5=some (v0,v1,v2,v3,v4,v5):=by
 have e1:=xl3i_id v3 (by simp only [szT] at h ⊢; omega)
 have e2:=xl40_id v4 (by simp only [szT] at h ⊢; omega)
 have e3:=xl3f_id v5 (by simp only [szT] at h ⊢; omega)
 exact xl41.eq v0 v1 v2 v3 v4 v5 (by simp only [xl41.t,e1,e2,e3,Option.bind_some])
theorem xl3g_id (v0:Za) (h:szT (.sl (.pair (.int .i64) (.pair (.int .i64) (.pair (.int .i64) (.pair (.sl (.pair (.int .i64) (.pair (.int .i64) (.int .i64)))) (.pair (.sl (.int .i64)) (.sl (.sl (.int .i64))))))))) v0≤1073741824):xl3g v0=some v0:=by
 have hlen:v0.length≤1073741824:=Nat.le_trans (szT_len (t:=(.pair (.int .i64) (.pair (.int .i64) (.pair (.int .i64) (.pair (.sl (.pair (.int .i64) (.pair (.int .i64) (.int .i64)))) (.pair (.sl (.int .i64)) (.sl (.sl (.int .i64)))))))))) h
 have key:∀ i,i≤v0.length→∀ a:Za,a.length=v0.length→a.take i=v0.take i→xl3g.l3 v0 a (i:Int)=some v0:=by
  refine upto ?_ ?_
  · intro a ha hh
    have ea:=take_all_eq ha hh
    subst ea
    exact xl3g.eq3 a a (a.length:Int) (by simp only [xl3g.t3,ix_lt,Nat.lt_irrefl,decide_false,cond_false])
  · intro i hi ih a ha hh
    have hc:=xl41_id ((v0.getD i ((0:Int),(0:Int),(0:Int),[],[],[])).fst) ((v0.getD i ((0:Int),(0:Int),(0:Int),[],[],[])).snd.fst) ((v0.getD i ((0:Int),(0:Int),(0:Int),[],[],[])).snd.snd.fst) ((v0.getD i ((0:Int),(0:Int),(0:Int),[],[],[])).snd.snd.snd.fst) ((v0.getD i ((0:Int),(0:Int),(0:Int),[],[],[])).snd.snd.snd.snd.fst) ((v0.getD i ((0:Int),(0:Int),(0:Int),[],[],[])).snd.snd.snd.snd.snd) (Nat.le_trans (szT_mem (t:=(.pair (.int .i64) (.pair (.int .i64) (.pair (.int .i64) (.pair (.sl (.pair (.int .i64) (.pair (.int .i64) (.int .i64)))) (.pair (.sl (.int .i64)) (.sl (.sl (.int .i64))))))))) (getD_mem ((0:Int),(0:Int),(0:Int),[],[],[]) hi)) h)
    have g:=ih (a.set i (v0.getD i ((0:Int),(0:Int),(0:Int),[],[],[]))) (by simp [ha]) (set_step hi ha hh)
    have hia:i<a.length:=by omega
    refine xl3g.eq3 v0 a (i:Int) ?_
    simp only [xl3g.t3,ix_lt,ix_nn,ix_nat,dec_t hi,dec_t hia,cond_true,hc,Option.bind_some,wrap_succ (show i<9223372036854775807 by omega)]
    exact g
 refine xl3g.eq v0 ?_
 have h3:((v0.length:Int)≤((4294967296:Nat):Int)):=by omega
 simp only [xl3g.t,decide_true,dec_t h3,cond_true,ix_nat]
 exact key 0 (Nat.zero_le _) _ (by simp) (by simp)
theorem xl43_id (v0:List Int) (v1:Za) (h:szT (.pair (.sl (.int .i64)) (.sl (.pair (.int .i64) (.pair (.int .i64) (.pair (.int .i64) (.pair (.sl (.pair (.int .i64) (.pair (.int .i64) (.int .i64)))) (.pair (.sl (.int .i64)) (.sl (.sl (.int .i64)))))))))) (v0,v1)≤1073741824):xl43 v0 v1=some (v0,v1):=by
 have e1:=xl40_id v0 (by simp only [szT] at h ⊢; omega)
 have e2:=xl3g_id v1 (by simp only [szT] at h ⊢; omega)
 exact xl43.eq v0 v1 (by simp only [xl43.t,e1,e2,Option.bind_some])
theorem xl4d_id (v0:List Int) (h:szT (.sl (.int .i64)) v0≤1073741824):xl4d v0=some v0:=by
 have e1:=xl40_id v0 (by simp only [szT] at h ⊢; omega)
 exact xl4d.eq v0 (by simp only [xl4d.t,e1,Option.bind_some])
theorem xl28_id (v0:List Int) (v1:Int) (h:szT (.pair (.sl (.int .i64)) (.int .i64)) (v0,v1)≤1073741824):xl28 v0 v1=some (v0,v1):=by
 have e1:=xl4d_id v0 (by simp only [szT] at h ⊢; omega)
 exact xl28.eq v0 v1 (by simp only [xl28.t,e1,Option.bind_some])
theorem xl1y_id (v0:Zd) (h:szT (.sl (.pair (.sl (.int .i64)) (.int .i64))) v0≤1073741824):xl1y v0=some v0:=by
 have hlen:v0.length≤1073741824:=Nat.le_trans (szT_len (t:=(.pair (.sl (.int .i64)) (.int .i64)))) h
 have key:∀ i,i≤v0.length→∀ a:Zd,a.length=v0.length→a.take i=v0.take i→xl1y.l3 v0 a (i:Int)=some v0:=by
  refine upto ?_ ?_
  · intro a ha hh
    have ea:=take_all_eq ha hh
    subst ea
    exact xl1y.eq3 a a (a.length:Int) (by simp only [xl1y.t3,ix_lt,Nat.lt_irrefl,decide_false,cond_false])
  · intro i hi ih a ha hh
    have hc:=xl28_id ((v0.getD i ([],(0:Int))).fst) ((v0.getD i ([],(0:Int))).snd) (Nat.le_trans (szT_mem (t:=(.pair (.sl (.int .i64)) (.int .i64))) (getD_mem ([],(0:Int)) hi)) h)
    have g:=ih (a.set i (v0.getD i ([],(0:Int)))) (by simp [ha]) (set_step hi ha hh)
    have hia:i<a.length:=by omega
    refine xl1y.eq3 v0 a (i:Int) ?_
    simp only [xl1y.t3,ix_lt,ix_nn,ix_nat,dec_t hi,dec_t hia,cond_true,hc,Option.bind_some,wrap_succ (show i<9223372036854775807 by omega)]
    exact g
 refine xl1y.eq v0 ?_
 have h3:((v0.length:Int)≤((4294967296:Nat):Int)):=by omega
 simp only [xl1y.t,decide_true,dec_t h3,cond_true,ix_nat]
 exact key 0 (Nat.zero_le _) _ (by simp) (by simp)
theorem xl3h_id (v0:Int) (v1:Zd) (h:szT (.pair (.int .i64) (.sl (.pair (.sl (.int .i64)) (.int .i64)))) (v0,v1)≤1073741824):xl3h v0 v1=some (v0,v1):=by
 have e1:=xl1y_id v1 (by simp only [szT] at h ⊢; omega)
 exact xl3h.eq v0 v1 (by simp only [xl3h.t,e1,Option.bind_some])
theorem xl2w_id (v0:Zb) (h:szT (.sl (.pair (.int .i64) (.sl (.pair (.sl (.int .i64)) (.int .i64))))) v0≤1073741824):xl2w v0=some v0:=by
 have hlen:v0.length≤1073741824:=Nat.le_trans (szT_len (t:=(.pair (.int .i64) (.sl (.pair (.sl (.int .i64)) (.int .i64)))))) h
 have key:∀ i,i≤v0.length→∀ a:Zb,a.length=v0.length→a.take i=v0.take i→xl2w.l3 v0 a (i:Int)=some v0:=by
  refine upto ?_ ?_
  · intro a ha hh
    have ea:=take_all_eq ha hh
    subst ea
    exact xl2w.eq3 a a (a.length:Int) (by simp only [xl2w.t3,ix_lt,Nat.lt_irrefl,decide_false,cond_false])
  · intro i hi ih a ha hh
    have hc:=xl3h_id ((v0.getD i ((0:Int),[])).fst) ((v0.getD i ((0:Int),[])).snd) (Nat.le_trans (szT_mem (t:=(.pair (.int .i64) (.sl (.pair (.sl (.int .i64)) (.int .i64))))) (getD_mem ((0:Int),[]) hi)) h)
    have g:=ih (a.set i (v0.getD i ((0:Int),[]))) (by simp [ha]) (set_step hi ha hh)
    have hia:i<a.length:=by omega
    refine xl2w.eq3 v0 a (i:Int) ?_
    simp only [xl2w.t3,ix_lt,ix_nn,ix_nat,dec_t hi,dec_t hia,cond_true,hc,Option.bind_some,wrap_succ (show i<9223372036854775807 by omega)]
    exact g
 refine xl2w.eq v0 ?_
 have h3:((v0.length:Int)≤((4294967296:Nat):Int)):=by omega
 simp only [xl2w.t,decide_true,dec_t h3,cond_true,ix_nat]
 exact key 0 (Nat.zero_le _) _ (by simp) (by simp)
theorem xs0d_ok (v0:List Int) (p:Int→Bool) (hl:v0.length≤4611686018427387904) (hp:∀ x,x∈v0→xi0x (x)=some (p x)):∃ r:Int,xs0d v0=some r∧decide (r ≥ 0)=v0.any p:=by
 have key:∀ i,i≤v0.length→∃ r:Int,xs0d.l2 (v0) ((↑v0.length:Int)) (i:Int)=some r∧decide (r ≥ 0)=(v0.drop i).any p:=by
  refine upto ?_ ?_
  · exact ⟨-1,xs0d.eq2 (v0) ((↑v0.length:Int)) (v0.length:Int) (by simp only [xs0d.t2,ix_lt,Nat.lt_irrefl,decide_false,cond_false]),by simp⟩
  · intro i hi ih
    have hc:=hp _ (getD_mem (0:Int) hi)
    rw [drop_getD (0:Int) hi,List.any_cons]
    cases hx:p (v0.getD i (0:Int)) with
    | true => exact ⟨i,xs0d.eq2 (v0) ((↑v0.length:Int)) (i:Int) (by simp only [xs0d.t2,ix_lt,ix_nn,ix_nat,dec_t hi,cond_true,hc,hx,Option.bind_some]),by simp⟩
    | false =>
      obtain ⟨r,g0,g1⟩:=ih
      exact ⟨r,xs0d.eq2 (v0) ((↑v0.length:Int)) (i:Int) (by simp only [xs0d.t2,ix_lt,ix_nn,ix_nat,dec_t hi,cond_true,cond_false,hc,hx,Option.bind_some,wrap_succ (show i<9223372036854775807 by omega),g0]),by rw [g1,Bool.false_or]⟩
 obtain ⟨r,g0,g1⟩:=key 0 (Nat.zero_le _)
 exact ⟨r,xs0d.eq v0 (by simp only [xs0d.t]; exact g0),by simpa using g1⟩
theorem xs07_ok (v0:List Int) (p:Int→Bool) (hl:v0.length≤4611686018427387904) (hp:∀ x,x∈v0→xi0x (x)=some (p x)):xs07 v0=some (v0.any p):=by
 obtain ⟨r,g0,g1⟩:=xs0d_ok (v0) p hl hp
 exact xs07.eq v0 (by simp only [xs07.t,g0,Option.bind_some,g1])
theorem xi10_ok (v0:List Int) (p:Int→Bool) (hl:v0.length≤4611686018427387904) (hp:∀ x,x∈v0→xi2f ((x))=some (p x)):xi10 v0=some (v0.all p):=by
 have g:=xs07_ok (v0) (fun x => !p x) hl (fun x hx => xi0x.eq (x) (by simp only [xi0x.t,hp x hx,Option.bind_some]))
 exact xi10.eq v0 (by simp only [xi10.t,g,Option.bind_some,List.all_eq_not_any_not])
theorem xs03_ok (v0:Ze) (v1:Int) (p:(Int) × ((Int) × (Int))→Bool) (hl:v0.length≤4611686018427387904) (hp:∀ x,x∈v0→xi0p ((x).fst) ((x).snd.fst) ((x).snd.snd) (v1)=some (p x)):∃ r:Int,xs03 v0 v1=some r∧decide (r ≥ 0)=v0.any p:=by
 have key:∀ i,i≤v0.length→∃ r:Int,xs03.l2 (v0) (v1) ((↑v0.length:Int)) (i:Int)=some r∧decide (r ≥ 0)=(v0.drop i).any p:=by
  refine upto ?_ ?_
  · exact ⟨-1,xs03.eq2 (v0) (v1) ((↑v0.length:Int)) (v0.length:Int) (by simp only [xs03.t2,ix_lt,Nat.lt_irrefl,decide_false,cond_false]),by simp⟩
  · intro i hi ih
    have hc:=hp _ (getD_mem ((0:Int),(0:Int),(0:Int)) hi)
    rw [drop_getD ((0:Int),(0:Int),(0:Int)) hi,List.any_cons]
    cases hx:p (v0.getD i ((0:Int),(0:Int),(0:Int))) with
    | true => exact ⟨i,xs03.eq2 (v0) (v1) ((↑v0.length:Int)) (i:Int) (by simp only [xs03.t2,ix_lt,ix_nn,ix_nat,dec_t hi,cond_true,hc,hx,Option.bind_some]),by simp⟩
    | false =>
      obtain ⟨r,g0,g1⟩:=ih
      exact ⟨r,xs03.eq2 (v0) (v1) ((↑v0.length:Int)) (i:Int) (by simp only [xs03.t2,ix_lt,ix_nn,ix_nat,dec_t hi,cond_true,cond_false,hc,hx,Option.bind_some,wrap_succ (show i<9223372036854775807 by omega),g0]),by rw [g1,Bool.false_or]⟩
 obtain ⟨r,g0,g1⟩:=key 0 (Nat.zero_le _)
 exact ⟨r,xs03.eq v0 v1 (by simp only [xs03.t]; exact g0),by simpa using g1⟩
theorem xs02_ok (v0:Ze) (v1:Int) (p:(Int) × ((Int) × (Int))→Bool) (hl:v0.length≤4611686018427387904) (hp:∀ x,x∈v0→xi0p ((x).fst) ((x).snd.fst) ((x).snd.snd) (v1)=some (p x)):xs02 v0 v1=some (v0.any p):=by
 obtain ⟨r,g0,g1⟩:=xs03_ok (v0) (v1) p hl hp
 exact xs02.eq v0 v1 (by simp only [xs02.t,g0,Option.bind_some,g1])
theorem xi0r_ok (v0:Ze) (v1:Int) (p:(Int) × ((Int) × (Int))→Bool) (hl:v0.length≤4611686018427387904) (hp:∀ x,x∈v0→xi1s (((x).fst)) (((x).snd.fst)) (((x).snd.snd)) ((v1))=some (p x)):xi0r v0 v1=some (v0.all p):=by
 have g:=xs02_ok (v0) (v1) (fun x => !p x) hl (fun x hx => xi0p.eq ((x).fst) ((x).snd.fst) ((x).snd.snd) (v1) (by simp only [xi0p.t,hp x hx,Option.bind_some]))
 exact xi0r.eq v0 v1 (by simp only [xi0r.t,g,Option.bind_some,List.all_eq_not_any_not])
theorem xs08_ok (v0:List Int) (v1:Int) (p:Int→Bool) (hl:v0.length≤4611686018427387904) (hp:∀ x,x∈v0→xi0u (x) (v1)=some (p x)):∃ r:Int,xs08 v0 v1=some r∧decide (r ≥ 0)=v0.any p:=by
 have key:∀ i,i≤v0.length→∃ r:Int,xs08.l2 (v0) (v1) ((↑v0.length:Int)) (i:Int)=some r∧decide (r ≥ 0)=(v0.drop i).any p:=by
  refine upto ?_ ?_
  · exact ⟨-1,xs08.eq2 (v0) (v1) ((↑v0.length:Int)) (v0.length:Int) (by simp only [xs08.t2,ix_lt,Nat.lt_irrefl,decide_false,cond_false]),by simp⟩
  · intro i hi ih
    have hc:=hp _ (getD_mem (0:Int) hi)
    rw [drop_getD (0:Int) hi,List.any_cons]
    cases hx:p (v0.getD i (0:Int)) with
    | true => exact ⟨i,xs08.eq2 (v0) (v1) ((↑v0.length:Int)) (i:Int) (by simp only [xs08.t2,ix_lt,ix_nn,ix_nat,dec_t hi,cond_true,hc,hx,Option.bind_some]),by simp⟩
    | false =>
      obtain ⟨r,g0,g1⟩:=ih
      exact ⟨r,xs08.eq2 (v0) (v1) ((↑v0.length:Int)) (i:Int) (by simp only [xs08.t2,ix_lt,ix_nn,ix_nat,dec_t hi,cond_true,cond_false,hc,hx,Option.bind_some,wrap_succ (show i<9223372036854775807 by omega),g0]),by rw [g1,Bool.false_or]⟩
 obtain ⟨r,g0,g1⟩:=key 0 (Nat.zero_le _)
 exact ⟨r,xs08.eq v0 v1 (by simp only [xs08.t]; exact g0),by simpa using g1⟩
theorem xs05_ok (v0:List Int) (v1:Int) (p:Int→Bool) (hl:v0.length≤4611686018427387904) (hp:∀ x,x∈v0→xi0u (x) (v1)=some (p x)):xs05 v0 v1=some (v0.any p):=by
 obtain ⟨r,g0,g1⟩:=xs08_ok (v0) (v1) p hl hp
 exact xs05.eq v0 v1 (by simp only [xs05.t,g0,Option.bind_some,g1])
theorem xi0w_ok (v0:List Int) (v1:Int) (p:Int→Bool) (hl:v0.length≤4611686018427387904) (hp:∀ x,x∈v0→xi1p ((x)) ((v1))=some (p x)):xi0w v0 v1=some (v0.all p):=by
 have g:=xs05_ok (v0) (v1) (fun x => !p x) hl (fun x hx => xi0u.eq (x) (v1) (by simp only [xi0u.t,hp x hx,Option.bind_some]))
 exact xi0w.eq v0 v1 (by simp only [xi0w.t,g,Option.bind_some,List.all_eq_not_any_not])
theorem xs0b_ok (v0:Zg) (v1:Int) (v2:Int) (p:List Int→Bool) (hl:v0.length≤4611686018427387904) (hp:∀ x,x∈v0→xi0v (x) (v1) (v2)=some (p x)):∃ r:Int,xs0b v0 v1 v2=some r∧decide (r ≥ 0)=v0.any p:=by
 have key:∀ i,i≤v0.length→∃ r:Int,xs0b.l2 (v0) (v1) (v2) ((↑v0.length:Int)) (i:Int)=some r∧decide (r ≥ 0)=(v0.drop i).any p:=by
  refine upto ?_ ?_
  · exact ⟨-1,xs0b.eq2 (v0) (v1) (v2) ((↑v0.length:Int)) (v0.length:Int) (by simp only [xs0b.t2,ix_lt,Nat.lt_irrefl,decide_false,cond_false]),by simp⟩
  · intro i hi ih
    have hc:=hp _ (getD_mem [] hi)
    rw [drop_getD [] hi,List.any_cons]
    cases hx:p (v0.getD i []) with
    | true => exact ⟨i,xs0b.eq2 (v0) (v1) (v2) ((↑v0.length:Int)) (i:Int) (by simp only [xs0b.t2,ix_lt,ix_nn,ix_nat,dec_t hi,cond_true,hc,hx,Option.bind_some]),by simp⟩
    | false =>
      obtain ⟨r,g0,g1⟩:=ih
      exact ⟨r,xs0b.eq2 (v0) (v1) (v2) ((↑v0.length:Int)) (i:Int) (by simp only [xs0b.t2,ix_lt,ix_nn,ix_nat,dec_t hi,cond_true,cond_false,hc,hx,Option.bind_some,wrap_succ (show i<9223372036854775807 by omega),g0]),by rw [g1,Bool.false_or]⟩
 obtain ⟨r,g0,g1⟩:=key 0 (Nat.zero_le _)
 exact ⟨r,xs0b.eq v0 v1 v2 (by simp only [xs0b.t]; exact g0),by simpa using g1⟩
theorem xs06_ok (v0:Zg) (v1:Int) (v2:Int) (p:List Int→Bool) (hl:v0.length≤4611686018427387904) (hp:∀ x,x∈v0→xi0v (x) (v1) (v2)=some (p x)):xs06 v0 v1 v2=some (v0.any p):=by
 obtain ⟨r,g0,g1⟩:=xs0b_ok (v0) (v1) (v2) p hl hp
 exact xs06.eq v0 v1 v2 (by simp only [xs06.t,g0,Option.bind_some,g1])
theorem xi0z_ok (v0:Zg) (v1:Int) (v2:Int) (p:List Int→Bool) (hl:v0.length≤4611686018427387904) (hp:∀ x,x∈v0→xi24 ((x)) ((v1)) ((v2))=some (p x)):xi0z v0 v1 v2=some (v0.all p):=by
 have g:=xs06_ok (v0) (v1) (v2) (fun x => !p x) hl (fun x hx => xi0v.eq (x) (v1) (v2) (by simp only [xi0v.t,hp x hx,Option.bind_some]))
 exact xi0z.eq v0 v1 v2 (by simp only [xi0z.t,g,Option.bind_some,List.all_eq_not_any_not])
theorem xs0q_ok (v0:Zg) (v1:Int) (p:List Int→Bool) (hl:v0.length≤4611686018427387904) (hp:∀ x,x∈v0→xi25 (x) (v1)=some (p x)):∃ r:Int,xs0q v0 v1=some r∧decide (r ≥ 0)=v0.any p:=by
 have key:∀ i,i≤v0.length→∃ r:Int,xs0q.l2 (v0) (v1) ((↑v0.length:Int)) (i:Int)=some r∧decide (r ≥ 0)=(v0.drop i).any p:=by
  refine upto ?_ ?_
  · exact ⟨-1,xs0q.eq2 (v0) (v1) ((↑v0.length:Int)) (v0.length:Int) (by simp only [xs0q.t2,ix_lt,Nat.lt_irrefl,decide_false,cond_false]),by simp⟩
  · intro i hi ih
    have hc:=hp _ (getD_mem [] hi)
    rw [drop_getD [] hi,List.any_cons]
    cases hx:p (v0.getD i []) with
    | true => exact ⟨i,xs0q.eq2 (v0) (v1) ((↑v0.length:Int)) (i:Int) (by simp only [xs0q.t2,ix_lt,ix_nn,ix_nat,dec_t hi,cond_true,hc,hx,Option.bind_some]),by simp⟩
    | false =>
      obtain ⟨r,g0,g1⟩:=ih
      exact ⟨r,xs0q.eq2 (v0) (v1) ((↑v0.length:Int)) (i:Int) (by simp only [xs0q.t2,ix_lt,ix_nn,ix_nat,dec_t hi,cond_true,cond_false,hc,hx,Option.bind_some,wrap_succ (show i<9223372036854775807 by omega),g0]),by rw [g1,Bool.false_or]⟩
 obtain ⟨r,g0,g1⟩:=key 0 (Nat.zero_le _)
 exact ⟨r,xs0q.eq v0 v1 (by simp only [xs0q.t]; exact g0),by simpa using g1⟩
theorem xs0m_ok (v0:Zg) (v1:Int) (p:List Int→Bool) (hl:v0.length≤4611686018427387904) (hp:∀ x,x∈v0→xi25 (x) (v1)=some (p x)):xs0m v0 v1=some (v0.any p):=by
 obtain ⟨r,g0,g1⟩:=xs0q_ok (v0) (v1) p hl hp
 exact xs0m.eq v0 v1 (by simp only [xs0m.t,g0,Option.bind_some,g1])
theorem xs0g_ok (v0:List Int) (p:Int→Bool) (hl:v0.length≤4611686018427387904) (hp:∀ x,x∈v0→xi11 (x)=some (p x)):∃ r:Int,xs0g v0=some r∧decide (r ≥ 0)=v0.any p:=by
 have key:∀ i,i≤v0.length→∃ r:Int,xs0g.l2 (v0) ((↑v0.length:Int)) (i:Int)=some r∧decide (r ≥ 0)=(v0.drop i).any p:=by
  refine upto ?_ ?_
  · exact ⟨-1,xs0g.eq2 (v0) ((↑v0.length:Int)) (v0.length:Int) (by simp only [xs0g.t2,ix_lt,Nat.lt_irrefl,decide_false,cond_false]),by simp⟩
  · intro i hi ih
    have hc:=hp _ (getD_mem (0:Int) hi)
    rw [drop_getD (0:Int) hi,List.any_cons]
    cases hx:p (v0.getD i (0:Int)) with
    | true => exact ⟨i,xs0g.eq2 (v0) ((↑v0.length:Int)) (i:Int) (by simp only [xs0g.t2,ix_lt,ix_nn,ix_nat,dec_t hi,cond_true,hc,hx,Option.bind_some]),by simp⟩
    | false =>
      obtain ⟨r,g0,g1⟩:=ih
      exact ⟨r,xs0g.eq2 (v0) ((↑v0.length:Int)) (i:Int) (by simp only [xs0g.t2,ix_lt,ix_nn,ix_nat,dec_t hi,cond_true,cond_false,hc,hx,Option.bind_some,wrap_succ (show i<9223372036854775807 by omega),g0]),by rw [g1,Bool.false_or]⟩
 obtain ⟨r,g0,g1⟩:=key 0 (Nat.zero_le _)
 exact ⟨r,xs0g.eq v0 (by simp only [xs0g.t]; exact g0),by simpa using g1⟩
theorem xs0c_ok (v0:List Int) (p:Int→Bool) (hl:v0.length≤4611686018427387904) (hp:∀ x,x∈v0→xi11 (x)=some (p x)):xs0c v0=some (v0.any p):=by
 obtain ⟨r,g0,g1⟩:=xs0g_ok (v0) p hl hp
 exact xs0c.eq v0 (by simp only [xs0c.t,g0,Option.bind_some,g1])
theorem xi13_ok (v0:List Int) (p:Int→Bool) (hl:v0.length≤4611686018427387904) (hp:∀ x,x∈v0→xi3p ((x))=some (p x)):xi13 v0=some (v0.all p):=by
 have g:=xs0c_ok (v0) (fun x => !p x) hl (fun x hx => xi11.eq (x) (by simp only [xi11.t,hp x hx,Option.bind_some]))
 exact xi13.eq v0 (by simp only [xi13.t,g,Option.bind_some,List.all_eq_not_any_not])
theorem xs0e_ok (v0:Zg) (v1:List Int) (v2:List Int) (p:List Int→Bool) (hl:v0.length≤4611686018427387904) (hp:∀ x,x∈v0→xi0y (x) (v1) (v2)=some (p x)):∃ r:Int,xs0e v0 v1 v2=some r∧decide (r ≥ 0)=v0.any p:=by
 have key:∀ i,i≤v0.length→∃ r:Int,xs0e.l2 (v0) (v1) (v2) ((↑v0.length:Int)) (i:Int)=some r∧decide (r ≥ 0)=(v0.drop i).any p:=by
  refine upto ?_ ?_
  · exact ⟨-1,xs0e.eq2 (v0) (v1) (v2) ((↑v0.length:Int)) (v0.length:Int) (by simp only [xs0e.t2,ix_lt,Nat.lt_irrefl,decide_false,cond_false]),by simp⟩
  · intro i hi ih
    have hc:=hp _ (getD_mem [] hi)
    rw [drop_getD [] hi,List.any_cons]
    cases hx:p (v0.getD i []) with
    | true => exact ⟨i,xs0e.eq2 (v0) (v1) (v2) ((↑v0.length:Int)) (i:Int) (by simp only [xs0e.t2,ix_lt,ix_nn,ix_nat,dec_t hi,cond_true,hc,hx,Option.bind_some]),by simp⟩
    | false =>
      obtain ⟨r,g0,g1⟩:=ih
      exact ⟨r,xs0e.eq2 (v0) (v1) (v2) ((↑v0.length:Int)) (i:Int) (by simp only [xs0e.t2,ix_lt,ix_nn,ix_nat,dec_t hi,cond_true,cond_false,hc,hx,Option.bind_some,wrap_succ (show i<9223372036854775807 by omega),g0]),by rw [g1,Bool.false_or]⟩
 obtain ⟨r,g0,g1⟩:=key 0 (Nat.zero_le _)
 exact ⟨r,xs0e.eq v0 v1 v2 (by simp only [xs0e.t]; exact g0),by simpa using g1⟩
theorem xs09_ok (v0:Zg) (v1:List Int) (v2:List Int) (p:List Int→Bool) (hl:v0.length≤4611686018427387904) (hp:∀ x,x∈v0→xi0y (x) (v1) (v2)=some (p x)):xs09 v0 v1 v2=some (v0.any p):=by
 obtain ⟨r,g0,g1⟩:=xs0e_ok (v0) (v1) (v2) p hl hp
 exact xs09.eq v0 v1 v2 (by simp only [xs09.t,g0,Option.bind_some,g1])
theorem xi12_ok (v0:Zg) (v1:List Int) (v2:List Int) (p:List Int→Bool) (hl:v0.length≤4611686018427387904) (hp:∀ x,x∈v0→xi2q ((x)) ((v1)) ((v2))=some (p x)):xi12 v0 v1 v2=some (v0.all p):=by
 have g:=xs09_ok (v0) (v1) (v2) (fun x => !p x) hl (fun x hx => xi0y.eq (x) (v1) (v2) (by simp only [xi0y.t,hp x hx,Option.bind_some]))
 exact xi12.eq v0 v1 v2 (by simp only [xi12.t,g,Option.bind_some,List.all_eq_not_any_not])
theorem xs01_ok (v0:Ze) (v1:List Int) (v2:Int) (p:(Int) × ((Int) × (Int))→Bool) (hl:v0.length≤4611686018427387904) (hp:∀ x,x∈v0→xi0k ((x).fst) ((x).snd.fst) ((x).snd.snd) (v1) (v2)=some (p x)):∃ r:Int,xs01 v0 v1 v2=some r∧decide (r ≥ 0)=v0.any p:=by
 have key:∀ i,i≤v0.length→∃ r:Int,xs01.l2 (v0) (v1) (v2) ((↑v0.length:Int)) (i:Int)=some r∧decide (r ≥ 0)=(v0.drop i).any p:=by
  refine upto ?_ ?_
  · exact ⟨-1,xs01.eq2 (v0) (v1) (v2) ((↑v0.length:Int)) (v0.length:Int) (by simp only [xs01.t2,ix_lt,Nat.lt_irrefl,decide_false,cond_false]),by simp⟩
  · intro i hi ih
    have hc:=hp _ (getD_mem ((0:Int),(0:Int),(0:Int)) hi)
    rw [drop_getD ((0:Int),(0:Int),(0:Int)) hi,List.any_cons]
    cases hx:p (v0.getD i ((0:Int),(0:Int),(0:Int))) with
    | true => exact ⟨i,xs01.eq2 (v0) (v1) (v2) ((↑v0.length:Int)) (i:Int) (by simp only [xs01.t2,ix_lt,ix_nn,ix_nat,dec_t hi,cond_true,hc,hx,Option.bind_some]),by simp⟩
    | false =>
      obtain ⟨r,g0,g1⟩:=ih
      exact ⟨r,xs01.eq2 (v0) (v1) (v2) ((↑v0.length:Int)) (i:Int) (by simp only [xs01.t2,ix_lt,ix_nn,ix_nat,dec_t hi,cond_true,cond_false,hc,hx,Option.bind_some,wrap_succ (show i<9223372036854775807 by omega),g0]),by rw [g1,Bool.false_or]⟩
 obtain ⟨r,g0,g1⟩:=key 0 (Nat.zero_le _)
 exact ⟨r,xs01.eq v0 v1 v2 (by simp only [xs01.t]; exact g0),by simpa using g1⟩
theorem xs00_ok (v0:Ze) (v1:List Int) (v2:Int) (p:(Int) × ((Int) × (Int))→Bool) (hl:v0.length≤4611686018427387904) (hp:∀ x,x∈v0→xi0k ((x).fst) ((x).snd.fst) ((x).snd.snd) (v1) (v2)=some (p x)):xs00 v0 v1 v2=some (v0.any p):=by
 obtain ⟨r,g0,g1⟩:=xs01_ok (v0) (v1) (v2) p hl hp
 exact xs00.eq v0 v1 v2 (by simp only [xs00.t,g0,Option.bind_some,g1])
theorem xi0l_ok (v0:Ze) (v1:List Int) (v2:Int) (p:(Int) × ((Int) × (Int))→Bool) (hl:v0.length≤4611686018427387904) (hp:∀ x,x∈v0→xi14 (((x).fst)) (((x).snd.fst)) (((x).snd.snd)) ((v1)) ((v2))=some (p x)):xi0l v0 v1 v2=some (v0.all p):=by
 have g:=xs00_ok (v0) (v1) (v2) (fun x => !p x) hl (fun x hx => xi0k.eq ((x).fst) ((x).snd.fst) ((x).snd.snd) (v1) (v2) (by simp only [xi0k.t,hp x hx,Option.bind_some]))
 exact xi0l.eq v0 v1 v2 (by simp only [xi0l.t,g,Option.bind_some,List.all_eq_not_any_not])
theorem xl3t_rf (v0:List Int) (h:szT (.sl (.int .i64)) v0≤1073741824):xl3t v0 v0=some true:=by
 have hlen:v0.length≤1073741824:=Nat.le_trans (szT_len (t:=(.int .i64))) h
 have key:∀ i,i≤v0.length→xl3t.l4 v0 v0 (i:Int)=some true:=by
  refine upto ?_ ?_
  · exact xl3t.eq4 v0 v0 (v0.length:Int) (by simp only [xl3t.t4,ix_lt,Nat.lt_irrefl,decide_false,cond_false])
  · intro i hi ih
    exact xl3t.eq4 v0 v0 (i:Int) (by simp only [xl3t.t4,ix_lt,ix_nn,ix_nat,dec_t hi,cond_true,cond_false,bne_ref,beq_ref,bang_t,wrap_succ (show i<9223372036854775807 by omega),ih])
 exact xl3t.eq v0 v0 (by simp only [xl3t.t,bne_ref,cond_false]; exact key 0 (Nat.zero_le _))
theorem xl4b_rf (v0:List Int) (h:szT (.sl (.int .i64)) v0≤1073741824):xl4b v0 v0=some true:=by
 have e1:=xl3t_rf v0 (by simp only [szT] at h ⊢; omega)
 exact xl4b.eq v0 v0 (by simp only [xl4b.t,e1,Option.bind_some,bne_ref,beq_ref,bang_t,cond_false])
theorem xl26_rf (v0:List Int) (v1:Int) (h:szT (.pair (.sl (.int .i64)) (.int .i64)) (v0,v1)≤1073741824):xl26 v0 v1 v0 v1=some true:=by
 have e1:=xl4b_rf v0 (by simp only [szT] at h ⊢; omega)
 exact xl26.eq v0 v1 v0 v1 (by simp only [xl26.t,e1,Option.bind_some,bne_ref,beq_ref,bang_t,cond_false])
theorem xl1w_rf (v0:Zd) (h:szT (.sl (.pair (.sl (.int .i64)) (.int .i64))) v0≤1073741824):xl1w v0 v0=some true:=by
 have hlen:v0.length≤1073741824:=Nat.le_trans (szT_len (t:=(.pair (.sl (.int .i64)) (.int .i64)))) h
 have key:∀ i,i≤v0.length→xl1w.l4 v0 v0 (i:Int)=some true:=by
  refine upto ?_ ?_
  · exact xl1w.eq4 v0 v0 (v0.length:Int) (by simp only [xl1w.t4,ix_lt,Nat.lt_irrefl,decide_false,cond_false])
  · intro i hi ih
    have hc:=xl26_rf ((v0.getD i ([],(0:Int))).fst) ((v0.getD i ([],(0:Int))).snd) (Nat.le_trans (szT_mem (t:=(.pair (.sl (.int .i64)) (.int .i64))) (getD_mem ([],(0:Int)) hi)) h)
    exact xl1w.eq4 v0 v0 (i:Int) (by simp only [xl1w.t4,ix_lt,ix_nn,ix_nat,dec_t hi,cond_true,cond_false,bne_ref,beq_ref,bang_t,hc,Option.bind_some,bang_t,wrap_succ (show i<9223372036854775807 by omega),ih])
 exact xl1w.eq v0 v0 (by simp only [xl1w.t,bne_ref,cond_false]; exact key 0 (Nat.zero_le _))
theorem xl39_rf (v0:Int) (v1:Zd) (h:szT (.pair (.int .i64) (.sl (.pair (.sl (.int .i64)) (.int .i64)))) (v0,v1)≤1073741824):xl39 v0 v1 v0 v1=some true:=by
 have e1:=xl1w_rf v1 (by simp only [szT] at h ⊢; omega)
 exact xl39.eq v0 v1 v0 v1 (by simp only [xl39.t,e1,Option.bind_some,bne_ref,beq_ref,bang_t,cond_false])
theorem xl2t_rf (v0:Zb) (h:szT (.sl (.pair (.int .i64) (.sl (.pair (.sl (.int .i64)) (.int .i64))))) v0≤1073741824):xl2t v0 v0=some true:=by
 have hlen:v0.length≤1073741824:=Nat.le_trans (szT_len (t:=(.pair (.int .i64) (.sl (.pair (.sl (.int .i64)) (.int .i64)))))) h
 have key:∀ i,i≤v0.length→xl2t.l4 v0 v0 (i:Int)=some true:=by
  refine upto ?_ ?_
  · exact xl2t.eq4 v0 v0 (v0.length:Int) (by simp only [xl2t.t4,ix_lt,Nat.lt_irrefl,decide_false,cond_false])
  · intro i hi ih
    have hc:=xl39_rf ((v0.getD i ((0:Int),[])).fst) ((v0.getD i ((0:Int),[])).snd) (Nat.le_trans (szT_mem (t:=(.pair (.int .i64) (.sl (.pair (.sl (.int .i64)) (.int .i64))))) (getD_mem ((0:Int),[]) hi)) h)
    exact xl2t.eq4 v0 v0 (i:Int) (by simp only [xl2t.t4,ix_lt,ix_nn,ix_nat,dec_t hi,cond_true,cond_false,bne_ref,beq_ref,bang_t,hc,Option.bind_some,bang_t,wrap_succ (show i<9223372036854775807 by omega),ih])
 exact xl2t.eq v0 v0 (by simp only [xl2t.t,bne_ref,cond_false]; exact key 0 (Nat.zero_le _))
theorem xl3v_rf (v0:Int) (v1:Int) (v2:Int) (h:szT (.pair (.int .i64) (.pair (.int .i64) (.int .i64))) (v0,(v1,v2))≤1073741824):xl3v v0 v1 v2 v0 v1 v2=some true:=by
 exact xl3v.eq v0 v1 v2 v0 v1 v2 (by simp only [xl3v.t,Option.bind_some,bne_ref,beq_ref,bang_t,cond_false])
theorem xl3a_rf (v0:Ze) (h:szT (.sl (.pair (.int .i64) (.pair (.int .i64) (.int .i64)))) v0≤1073741824):xl3a v0 v0=some true:=by
 have hlen:v0.length≤1073741824:=Nat.le_trans (szT_len (t:=(.pair (.int .i64) (.pair (.int .i64) (.int .i64))))) h
 have key:∀ i,i≤v0.length→xl3a.l4 v0 v0 (i:Int)=some true:=by
  refine upto ?_ ?_
  · exact xl3a.eq4 v0 v0 (v0.length:Int) (by simp only [xl3a.t4,ix_lt,Nat.lt_irrefl,decide_false,cond_false])
  · intro i hi ih
    have hc:=xl3v_rf ((v0.getD i ((0:Int),(0:Int),(0:Int))).fst) ((v0.getD i ((0:Int),(0:Int),(0:Int))).snd.fst) ((v0.getD i ((0:Int),(0:Int),(0:Int))).snd.snd) (Nat.le_trans (szT_mem (t:=(.pair (.int .i64) (.pair (.int .i64) (.int .i64)))) (getD_mem ((0:Int),(0:Int),(0:Int)) hi)) h)
    exact xl3a.eq4 v0 v0 (i:Int) (by simp only [xl3a.t4,ix_lt,ix_nn,ix_nat,dec_t hi,cond_true,cond_false,bne_ref,beq_ref,bang_t,hc,Option.bind_some,bang_t,wrap_succ (show i<9223372036854775807 by omega),ih])
 exact xl3a.eq v0 v0 (by simp only [xl3a.t,bne_ref,cond_false]; exact key 0 (Nat.zero_le _))
theorem xl37_rf (v0:Zg) (h:szT (.sl (.sl (.int .i64))) v0≤1073741824):xl37 v0 v0=some true:=by
 have hlen:v0.length≤1073741824:=Nat.le_trans (szT_len (t:=(.sl (.int .i64)))) h
 have key:∀ i,i≤v0.length→xl37.l4 v0 v0 (i:Int)=some true:=by
  refine upto ?_ ?_
  · exact xl37.eq4 v0 v0 (v0.length:Int) (by simp only [xl37.t4,ix_lt,Nat.lt_irrefl,decide_false,cond_false])
  · intro i hi ih
    have hc:=xl3t_rf (v0.getD i []) (Nat.le_trans (szT_mem (t:=(.sl (.int .i64))) (getD_mem [] hi)) h)
    exact xl37.eq4 v0 v0 (i:Int) (by simp only [xl37.t4,ix_lt,ix_nn,ix_nat,dec_t hi,cond_true,cond_false,bne_ref,beq_ref,bang_t,hc,Option.bind_some,bang_t,wrap_succ (show i<9223372036854775807 by omega),ih])
 exact xl37.eq v0 v0 (by simp only [xl37.t,bne_ref,cond_false]; exact key 0 (Nat.zero_le _))
theorem xl3u_rf (v0:Int) (v1:Int) (v2:Int) (v3:Ze) (v4:List Int) (v5:Zg) (h:szT (.pair (.int .i64) (.pair (.int .i64) (.pair (.int .i64) (.pair (.sl (.pair (.int .i64) (.pair (.int .i64) (.int .i64)))) (.pair (.sl (.int .i64)) (.sl (.sl (.int .i64)))))))) (v0,(v1,(v2,(v3,(v4,v5)))))≤1073741824):xl3u v0 v1 v2 v3 v4 v5 v0 v1 v2 v3 v4 v5=some true:=by
 have e1:=xl3a_rf v3 (by simp only [szT] at h ⊢; omega)
 have e2:=xl3t_rf v4 (by simp only [szT] at h ⊢; omega)
 have e3:=xl37_rf v5 (by simp only [szT] at h ⊢; omega)
 exact xl3u.eq v0 v1 v2 v3 v4 v5 v0 v1 v2 v3 v4 v5 (by simp only [xl3u.t,e1,e2,e3,Option.bind_some,bne_ref,beq_ref,bang_t,cond_false])
theorem xl38_rf (v0:Za) (h:szT (.sl (.pair (.int .i64) (.pair (.int .i64) (.pair (.int .i64) (.pair (.sl (.pair (.int .i64) (.pair (.int .i64) (.int .i64)))) (.pair (.sl (.int .i64)) (.sl (.sl (.int .i64))))))))) v0≤1073741824):xl38 v0 v0=some true:=by
 have hlen:v0.length≤1073741824:=Nat.le_trans (szT_len (t:=(.pair (.int .i64) (.pair (.int .i64) (.pair (.int .i64) (.pair (.sl (.pair (.int .i64) (.pair (.int .i64) (.int .i64)))) (.pair (.sl (.int .i64)) (.sl (.sl (.int .i64)))))))))) h
 have key:∀ i,i≤v0.length→xl38.l4 v0 v0 (i:Int)=some true:=by
  refine upto ?_ ?_
  · exact xl38.eq4 v0 v0 (v0.length:Int) (by simp only [xl38.t4,ix_lt,Nat.lt_irrefl,decide_false,cond_false])
  · intro i hi ih
    have hc:=xl3u_rf ((v0.getD i ((0:Int),(0:Int),(0:Int),[],[],[])).fst) ((v0.getD i ((0:Int),(0:Int),(0:Int),[],[],[])).snd.fst) ((v0.getD i ((0:Int),(0:Int),(0:Int),[],[],[])).snd.snd.fst) ((v0.getD i ((0:Int),(0:Int),(0:Int),[],[],[])).snd.snd.snd.fst) ((v0.getD i ((0:Int),(0:Int),(0:Int),[],[],[])).snd.snd.snd.snd.fst) ((v0.getD i ((0:Int),(0:Int),(0:Int),[],[],[])).snd.snd.snd.snd.snd) (Nat.le_trans (szT_mem (t:=(.pair (.int .i64) (.pair (.int .i64) (.pair (.int .i64) (.pair (.sl (.pair (.int .i64) (.pair (.int .i64) (.int .i64)))) (.pair (.sl (.int .i64)) (.sl (.sl (.int .i64))))))))) (getD_mem ((0:Int),(0:Int),(0:Int),[],[],[]) hi)) h)
    exact xl38.eq4 v0 v0 (i:Int) (by simp only [xl38.t4,ix_lt,ix_nn,ix_nat,dec_t hi,cond_true,cond_false,bne_ref,beq_ref,bang_t,hc,Option.bind_some,bang_t,wrap_succ (show i<9223372036854775807 by omega),ih])
 exact xl38.eq v0 v0 (by simp only [xl38.t,bne_ref,cond_false]; exact key 0 (Nat.zero_le _))
theorem xl3w_rf (v0:List Int) (v1:Za) (h:szT (.pair (.sl (.int .i64)) (.sl (.pair (.int .i64) (.pair (.int .i64) (.pair (.int .i64) (.pair (.sl (.pair (.int .i64) (.pair (.int .i64) (.int .i64)))) (.pair (.sl (.int .i64)) (.sl (.sl (.int .i64)))))))))) (v0,v1)≤1073741824):xl3w v0 v1 v0 v1=some true:=by
 have e1:=xl3t_rf v0 (by simp only [szT] at h ⊢; omega)
 have e2:=xl38_rf v1 (by simp only [szT] at h ⊢; omega)
 exact xl3w.eq v0 v1 v0 v1 (by simp only [xl3w.t,e1,e2,Option.bind_some,bne_ref,beq_ref,bang_t,cond_false])
theorem xl1q_ok (v0:List Int) (v1:Int) (h0:0≤v1) (h1:v1+(cntT (.sl (.int .i64)) v0:Int)≤4611686018427387904) (h2:szT (.sl (.int .i64)) v0≤1073741824):xl1q v0 v1=some ((mrL (mrE (.int .i64)) v0 v1).2,(mrL (mrE (.int .i64)) v0 v1).1):=by
 have key : ∀ (rest pre : List Int) (k : Int), 0 ≤ k → k + (cntT (.sl (.int .i64)) rest : Int) ≤ 4611686018427387904 → pre.length + szT (.sl (.int .i64)) rest ≤ 1073741824 →
  xl1q.l2 (pre ++ rest) k (pre.length:Int)=some ((mrL (mrE (.int .i64)) rest k).2,pre ++ (mrL (mrE (.int .i64)) rest k).1):=by
  intro rest
  induction rest with
  | nil =>
    intro pre k _ _ _
    exact xl1q.eq2 _ _ _ (by simp only [xl1q.t2,List.append_nil,ix_lt,Nat.lt_irrefl,decide_false,cond_false,mrL_nil])
  | cons x r ih =>
    intro pre k hk hb hl
    rw [cnt_cons] at hb
    simp only [cntT] at hb
    simp only [szT,List.length_cons,List.map_cons,List.sum_cons] at hl
    have g:=ih (pre ++ [(mrE (.int .i64) x k).1]) (mrE (.int .i64) x k).2 (by rw [mrE_cnt]; omega) (by rw [mrE_cnt]; simp only [cntT] at hb ⊢; omega) (by simp only [szT,List.length_append,List.length_cons,List.length_nil] at hl ⊢; omega)
    refine xl1q.eq2 _ _ _ ?_
    simp only [mrL_cons,mrE_int,mrE_bool,mrE_sl,mrE_pair]
    simp only [xl1q.t2,lenI_mid,ix_nn,ix_nat,len_mid,set_mid,getD_mid,cond_true,cond_false,bne_ref,beq_ref,bang_t,wrap_k (k:=k) (by omega) (by omega),wrap_succ (show pre.length<9223372036854775807 by omega),Option.bind_some,dec_rfl,Bool.and_true]
    rw [push_mid]
    simpa [mrE_int,mrE_bool,mrE_sl,mrE_pair] using g
 exact xl1q.eq v0 v1 (by simp only [xl1q.t]; exact key v0 [] v1 h0 h1 (by simpa using h2))
theorem xl1k_ok (v0:Zg) (v1:Int) (h0:0≤v1) (h1:v1+(cntT (.sl (.sl (.int .i64))) v0:Int)≤4611686018427387904) (h2:szT (.sl (.sl (.int .i64))) v0≤1073741824):xl1k v0 v1=some ((mrL (mrE (.sl (.int .i64))) v0 v1).2,(mrL (mrE (.sl (.int .i64))) v0 v1).1):=by
 have key : ∀ (rest pre : Zg) (k : Int), 0 ≤ k → k + (cntT (.sl (.sl (.int .i64))) rest : Int) ≤ 4611686018427387904 → pre.length + szT (.sl (.sl (.int .i64))) rest ≤ 1073741824 →
  xl1k.l2 (pre ++ rest) k (pre.length:Int)=some ((mrL (mrE (.sl (.int .i64))) rest k).2,pre ++ (mrL (mrE (.sl (.int .i64))) rest k).1):=by
  intro rest
  induction rest with
  | nil =>
    intro pre k _ _ _
    exact xl1k.eq2 _ _ _ (by simp only [xl1k.t2,List.append_nil,ix_lt,Nat.lt_irrefl,decide_false,cond_false,mrL_nil])
  | cons x r ih =>
    intro pre k hk hb hl
    rw [cnt_cons] at hb
    simp only [cntT] at hb
    simp only [szT,List.length_cons,List.map_cons,List.sum_cons] at hl
    have n1:=mrL_cnt (t:=(.int .i64)) x k
    simp only [cntT] at n1
    have c1:=xl1q_ok x k (by omega) (by simp only [cntT]; omega) (by simp only [szT]; omega)
    have g:=ih (pre ++ [(mrE (.sl (.int .i64)) x k).1]) (mrE (.sl (.int .i64)) x k).2 (by rw [mrE_cnt]; omega) (by rw [mrE_cnt]; simp only [cntT] at hb ⊢; omega) (by simp only [szT,List.length_append,List.length_cons,List.length_nil] at hl ⊢; omega)
    refine xl1k.eq2 _ _ _ ?_
    simp only [mrL_cons,mrE_int,mrE_bool,mrE_sl,mrE_pair]
    simp only [xl1k.t2,lenI_mid,ix_nn,ix_nat,len_mid,set_mid,getD_mid,cond_true,cond_false,bne_ref,beq_ref,bang_t,c1,wrap_succ (show pre.length<9223372036854775807 by omega),Option.bind_some,dec_rfl,Bool.and_true]
    rw [push_mid]
    simpa [mrE_int,mrE_bool,mrE_sl,mrE_pair] using g
 exact xl1k.eq v0 v1 (by simp only [xl1k.t]; exact key v0 [] v1 h0 h1 (by simpa using h2))
theorem xl1n_ok (v0:Ze) (v1:Int) (h0:0≤v1) (h1:v1+(cntT (.sl (.pair (.int .i64) (.pair (.int .i64) (.int .i64)))) v0:Int)≤4611686018427387904) (h2:szT (.sl (.pair (.int .i64) (.pair (.int .i64) (.int .i64)))) v0≤1073741824):xl1n v0 v1=some ((mrL (mrE (.pair (.int .i64) (.pair (.int .i64) (.int .i64)))) v0 v1).2,(mrL (mrE (.pair (.int .i64) (.pair (.int .i64) (.int .i64)))) v0 v1).1):=by
 have key : ∀ (rest pre : Ze) (k : Int), 0 ≤ k → k + (cntT (.sl (.pair (.int .i64) (.pair (.int .i64) (.int .i64)))) rest : Int) ≤ 4611686018427387904 → pre.length + szT (.sl (.pair (.int .i64) (.pair (.int .i64) (.int .i64)))) rest ≤ 1073741824 →
  xl1n.l2 (pre ++ rest) k (pre.length:Int)=some ((mrL (mrE (.pair (.int .i64) (.pair (.int .i64) (.int .i64)))) rest k).2,pre ++ (mrL (mrE (.pair (.int .i64) (.pair (.int .i64) (.int .i64)))) rest k).1):=by
  intro rest
  induction rest with
  | nil =>
    intro pre k _ _ _
    exact xl1n.eq2 _ _ _ (by simp only [xl1n.t2,List.append_nil,ix_lt,Nat.lt_irrefl,decide_false,cond_false,mrL_nil])
  | cons x r ih =>
    intro pre k hk hb hl
    rw [cnt_cons] at hb
    simp only [cntT] at hb
    simp only [szT,List.length_cons,List.map_cons,List.sum_cons] at hl
    have g:=ih (pre ++ [(mrE (.pair (.int .i64) (.pair (.int .i64) (.int .i64))) x k).1]) (mrE (.pair (.int .i64) (.pair (.int .i64) (.int .i64))) x k).2 (by rw [mrE_cnt]; omega) (by rw [mrE_cnt]; simp only [cntT] at hb ⊢; omega) (by simp only [szT,List.length_append,List.length_cons,List.length_nil] at hl ⊢; omega)
    refine xl1n.eq2 _ _ _ ?_
    simp only [mrL_cons,mrE_int,mrE_bool,mrE_sl,mrE_pair]
    simp only [xl1n.t2,lenI_mid,ix_nn,ix_nat,len_mid,set_mid,getD_mid,cond_true,cond_false,bne_ref,beq_ref,bang_t,wrap_k (k:=k) (by omega) (by omega),wrap_k (k:=(k+1)) (by omega) (by omega),wrap_k (k:=((k+1)+1)) (by omega) (by omega),wrap_succ (show pre.length<9223372036854775807 by omega),Option.bind_some,dec_rfl,Bool.and_true]
    rw [push_mid]
    simpa [mrE_int,mrE_bool,mrE_sl,mrE_pair] using g
 exact xl1n.eq v0 v1 (by simp only [xl1n.t]; exact key v0 [] v1 h0 h1 (by simpa using h2))
theorem xl1l_ok (v0:Za) (v1:Int) (h0:0≤v1) (h1:v1+(cntT (.sl (.pair (.int .i64) (.pair (.int .i64) (.pair (.int .i64) (.pair (.sl (.pair (.int .i64) (.pair (.int .i64) (.int .i64)))) (.pair (.sl (.int .i64)) (.sl (.sl (.int .i64))))))))) v0:Int)≤4611686018427387904) (h2:szT (.sl (.pair (.int .i64) (.pair (.int .i64) (.pair (.int .i64) (.pair (.sl (.pair (.int .i64) (.pair (.int .i64) (.int .i64)))) (.pair (.sl (.int .i64)) (.sl (.sl (.int .i64))))))))) v0≤1073741824):xl1l v0 v1=some ((mrL (mrE (.pair (.int .i64) (.pair (.int .i64) (.pair (.int .i64) (.pair (.sl (.pair (.int .i64) (.pair (.int .i64) (.int .i64)))) (.pair (.sl (.int .i64)) (.sl (.sl (.int .i64))))))))) v0 v1).2,(mrL (mrE (.pair (.int .i64) (.pair (.int .i64) (.pair (.int .i64) (.pair (.sl (.pair (.int .i64) (.pair (.int .i64) (.int .i64)))) (.pair (.sl (.int .i64)) (.sl (.sl (.int .i64))))))))) v0 v1).1):=by
 have key : ∀ (rest pre : Za) (k : Int), 0 ≤ k → k + (cntT (.sl (.pair (.int .i64) (.pair (.int .i64) (.pair (.int .i64) (.pair (.sl (.pair (.int .i64) (.pair (.int .i64) (.int .i64)))) (.pair (.sl (.int .i64)) (.sl (.sl (.int .i64))))))))) rest : Int) ≤ 4611686018427387904 → pre.length + szT (.sl (.pair (.int .i64) (.pair (.int .i64) (.pair (.int .i64) (.pair (.sl (.pair (.int .i64) (.pair (.int .i64) (.int .i64)))) (.pair (.sl (.int .i64)) (.sl (.sl (.int .i64))))))))) rest ≤ 1073741824 →
  xl1l.l2 (pre ++ rest) k (pre.length:Int)=some ((mrL (mrE (.pair (.int .i64) (.pair (.int .i64) (.pair (.int .i64) (.pair (.sl (.pair (.int .i64) (.pair (.int .i64) (.int .i64)))) (.pair (.sl (.int .i64)) (.sl (.sl (.int .i64))))))))) rest k).2,pre ++ (mrL (mrE (.pair (.int .i64) (.pair (.int .i64) (.pair (.int .i64) (.pair (.sl (.pair (.int .i64) (.pair (.int .i64) (.int .i64)))) (.pair (.sl (.int .i64)) (.sl (.sl (.int .i64))))))))) rest k).1):=by
  intro rest
  induction rest with
  | nil =>
    intro pre k _ _ _
    exact xl1l.eq2 _ _ _ (by simp only [xl1l.t2,List.append_nil,ix_lt,Nat.lt_irrefl,decide_false,cond_false,mrL_nil])
  | cons x r ih =>
    intro pre k hk hb hl
    rw [cnt_cons] at hb
    simp only [cntT] at hb
    simp only [szT,List.length_cons,List.map_cons,List.sum_cons] at hl
    have n1:=mrL_cnt (t:=(.pair (.int .i64) (.pair (.int .i64) (.int .i64)))) x.2.2.2.1 (((k+1)+1)+1)
    simp only [cntT] at n1
    have c1:=xl1n_ok x.2.2.2.1 (((k+1)+1)+1) (by omega) (by simp only [cntT]; omega) (by simp only [szT]; omega)
    have n2:=mrL_cnt (t:=(.int .i64)) x.2.2.2.2.1 (mrL (mrE (.pair (.int .i64) (.pair (.int .i64) (.int .i64)))) x.2.2.2.1 (((k+1)+1)+1)).2
    simp only [cntT] at n2
    have c2:=xl1q_ok x.2.2.2.2.1 (mrL (mrE (.pair (.int .i64) (.pair (.int .i64) (.int .i64)))) x.2.2.2.1 (((k+1)+1)+1)).2 (by omega) (by simp only [cntT]; omega) (by simp only [szT]; omega)
    have n3:=mrL_cnt (t:=(.sl (.int .i64))) x.2.2.2.2.2 (mrL (mrE (.int .i64)) x.2.2.2.2.1 (mrL (mrE (.pair (.int .i64) (.pair (.int .i64) (.int .i64)))) x.2.2.2.1 (((k+1)+1)+1)).2).2
    simp only [cntT] at n3
    have c3:=xl1k_ok x.2.2.2.2.2 (mrL (mrE (.int .i64)) x.2.2.2.2.1 (mrL (mrE (.pair (.int .i64) (.pair (.int .i64) (.int .i64)))) x.2.2.2.1 (((k+1)+1)+1)).2).2 (by omega) (by simp only [cntT]; omega) (by simp only [szT]; omega)
    have g:=ih (pre ++ [(mrE (.pair (.int .i64) (.pair (.int .i64) (.pair (.int .i64) (.pair (.sl (.pair (.int .i64) (.pair (.int .i64) (.int .i64)))) (.pair (.sl (.int .i64)) (.sl (.sl (.int .i64)))))))) x k).1]) (mrE (.pair (.int .i64) (.pair (.int .i64) (.pair (.int .i64) (.pair (.sl (.pair (.int .i64) (.pair (.int .i64) (.int .i64)))) (.pair (.sl (.int .i64)) (.sl (.sl (.int .i64)))))))) x k).2 (by rw [mrE_cnt]; omega) (by rw [mrE_cnt]; simp only [cntT] at hb ⊢; omega) (by simp only [szT,List.length_append,List.length_cons,List.length_nil] at hl ⊢; omega)
    refine xl1l.eq2 _ _ _ ?_
    simp only [mrL_cons,mrE_int,mrE_bool,mrE_sl,mrE_pair]
    simp only [xl1l.t2,lenI_mid,ix_nn,ix_nat,len_mid,set_mid,getD_mid,cond_true,cond_false,bne_ref,beq_ref,bang_t,wrap_k (k:=k) (by omega) (by omega),wrap_k (k:=(k+1)) (by omega) (by omega),wrap_k (k:=((k+1)+1)) (by omega) (by omega),c1,c2,c3,wrap_succ (show pre.length<9223372036854775807 by omega),Option.bind_some,dec_rfl,Bool.and_true]
    refine xl1l.eq2000004 _ _ _ ?_
    simp only [xl1l.t2000004,lenI_mid,ix_nn,ix_nat,len_mid,set_mid,getD_mid,cond_true,cond_false,bne_ref,beq_ref,bang_t,wrap_k (k:=k) (by omega) (by omega),wrap_k (k:=(k+1)) (by omega) (by omega),wrap_k (k:=((k+1)+1)) (by omega) (by omega),c1,c2,c3,wrap_succ (show pre.length<9223372036854775807 by omega),Option.bind_some,dec_rfl,Bool.and_true]
    refine xl1l.eq2000005 _ _ _ ?_
    simp only [xl1l.t2000005,lenI_mid,ix_nn,ix_nat,len_mid,set_mid,getD_mid,cond_true,cond_false,bne_ref,beq_ref,bang_t,wrap_k (k:=k) (by omega) (by omega),wrap_k (k:=(k+1)) (by omega) (by omega),wrap_k (k:=((k+1)+1)) (by omega) (by omega),c1,c2,c3,wrap_succ (show pre.length<9223372036854775807 by omega),Option.bind_some,dec_rfl,Bool.and_true]
    refine xl1l.eq2000006 _ _ _ ?_
    simp only [xl1l.t2000006,lenI_mid,ix_nn,ix_nat,len_mid,set_mid,getD_mid,cond_true,cond_false,bne_ref,beq_ref,bang_t,wrap_k (k:=k) (by omega) (by omega),wrap_k (k:=(k+1)) (by omega) (by omega),wrap_k (k:=((k+1)+1)) (by omega) (by omega),c1,c2,c3,wrap_succ (show pre.length<9223372036854775807 by omega),Option.bind_some,dec_rfl,Bool.and_true]
    refine xl1l.eq2000007 _ _ _ ?_
    simp only [xl1l.t2000007,lenI_mid,ix_nn,ix_nat,len_mid,set_mid,getD_mid,cond_true,cond_false,bne_ref,beq_ref,bang_t,wrap_k (k:=k) (by omega) (by omega),wrap_k (k:=(k+1)) (by omega) (by omega),wrap_k (k:=((k+1)+1)) (by omega) (by omega),c1,c2,c3,wrap_succ (show pre.length<9223372036854775807 by omega),Option.bind_some,dec_rfl,Bool.and_true]
    refine xl1l.eq2000008 _ _ _ ?_
    simp only [xl1l.t2000008,lenI_mid,ix_nn,ix_nat,len_mid,set_mid,getD_mid,cond_true,cond_false,bne_ref,beq_ref,bang_t,wrap_k (k:=k) (by omega) (by omega),wrap_k (k:=(k+1)) (by omega) (by omega),wrap_k (k:=((k+1)+1)) (by omega) (by omega),c1,c2,c3,wrap_succ (show pre.length<9223372036854775807 by omega),Option.bind_some,dec_rfl,Bool.and_true]
    refine xl1l.eq2000009 _ _ _ ?_
    simp only [xl1l.t2000009,lenI_mid,ix_nn,ix_nat,len_mid,set_mid,getD_mid,cond_true,cond_false,bne_ref,beq_ref,bang_t,wrap_k (k:=k) (by omega) (by omega),wrap_k (k:=(k+1)) (by omega) (by omega),wrap_k (k:=((k+1)+1)) (by omega) (by omega),c1,c2,c3,wrap_succ (show pre.length<9223372036854775807 by omega),Option.bind_some,dec_rfl,Bool.and_true]
    refine xl1l.eq2000010 _ _ _ ?_
    simp only [xl1l.t2000010,lenI_mid,ix_nn,ix_nat,len_mid,set_mid,getD_mid,cond_true,cond_false,bne_ref,beq_ref,bang_t,wrap_k (k:=k) (by omega) (by omega),wrap_k (k:=(k+1)) (by omega) (by omega),wrap_k (k:=((k+1)+1)) (by omega) (by omega),c1,c2,c3,wrap_succ (show pre.length<9223372036854775807 by omega),Option.bind_some,dec_rfl,Bool.and_true]
    refine xl1l.eq2000011 _ _ _ ?_
    simp only [xl1l.t2000011,lenI_mid,ix_nn,ix_nat,len_mid,set_mid,getD_mid,cond_true,cond_false,bne_ref,beq_ref,bang_t,wrap_k (k:=k) (by omega) (by omega),wrap_k (k:=(k+1)) (by omega) (by omega),wrap_k (k:=((k+1)+1)) (by omega) (by omega),c1,c2,c3,wrap_succ (show pre.length<9223372036854775807 by omega),Option.bind_some,dec_rfl,Bool.and_true]
    refine xl1l.eq2000012 _ _ _ ?_
    simp only [xl1l.t2000012,lenI_mid,ix_nn,ix_nat,len_mid,set_mid,getD_mid,cond_true,cond_false,bne_ref,beq_ref,bang_t,wrap_k (k:=k) (by omega) (by omega),wrap_k (k:=(k+1)) (by omega) (by omega),wrap_k (k:=((k+1)+1)) (by omega) (by omega),c1,c2,c3,wrap_succ (show pre.length<9223372036854775807 by omega),Option.bind_some,dec_rfl,Bool.and_true]
    refine xl1l.eq2000003 _ _ _ ?_
    simp only [xl1l.t2000003,lenI_mid,ix_nn,ix_nat,len_mid,set_mid,getD_mid,cond_true,cond_false,bne_ref,beq_ref,bang_t,wrap_k (k:=k) (by omega) (by omega),wrap_k (k:=(k+1)) (by omega) (by omega),wrap_k (k:=((k+1)+1)) (by omega) (by omega),c1,c2,c3,wrap_succ (show pre.length<9223372036854775807 by omega),Option.bind_some,dec_rfl,Bool.and_true]
    rw [push_mid]
    simpa [mrE_int,mrE_bool,mrE_sl,mrE_pair] using g
 exact xl1l.eq v0 v1 (by simp only [xl1l.t]; exact key v0 [] v1 h0 h1 (by simpa using h2))
theorem xl1r_ok (v0:List Int) (v1:Za) (v2:Int) (h0:0≤v2) (h1:v2+(cntT (.pair (.sl (.int .i64)) (.sl (.pair (.int .i64) (.pair (.int .i64) (.pair (.int .i64) (.pair (.sl (.pair (.int .i64) (.pair (.int .i64) (.int .i64)))) (.pair (.sl (.int .i64)) (.sl (.sl (.int .i64)))))))))) (v0,v1):Int)≤4611686018427387904) (h2:szT (.pair (.sl (.int .i64)) (.sl (.pair (.int .i64) (.pair (.int .i64) (.pair (.int .i64) (.pair (.sl (.pair (.int .i64) (.pair (.int .i64) (.int .i64)))) (.pair (.sl (.int .i64)) (.sl (.sl (.int .i64)))))))))) (v0,v1)≤1073741824):xl1r v0 v1 v2=some ((mrT (.pair (.sl (.int .i64)) (.sl (.pair (.int .i64) (.pair (.int .i64) (.pair (.int .i64) (.pair (.sl (.pair (.int .i64) (.pair (.int .i64) (.int .i64)))) (.pair (.sl (.int .i64)) (.sl (.sl (.int .i64)))))))))) (v0,v1) v2).2,(mrT (.pair (.sl (.int .i64)) (.sl (.pair (.int .i64) (.pair (.int .i64) (.pair (.int .i64) (.pair (.sl (.pair (.int .i64) (.pair (.int .i64) (.int .i64)))) (.pair (.sl (.int .i64)) (.sl (.sl (.int .i64)))))))))) (v0,v1) v2).1.1,(mrT (.pair (.sl (.int .i64)) (.sl (.pair (.int .i64) (.pair (.int .i64) (.pair (.int .i64) (.pair (.sl (.pair (.int .i64) (.pair (.int .i64) (.int .i64)))) (.pair (.sl (.int .i64)) (.sl (.sl (.int .i64)))))))))) (v0,v1) v2).1.2):=by
 simp only [cntT] at h1
 simp only [szT] at h2
 have n1:=mrL_cnt (t:=(.int .i64)) v0 v2
 have n1b:=n1
 simp only [cntT] at n1b
 have c1:=xl1q_ok v0 v2 (by omega) (by simp only [cntT]; omega) (by simp only [szT]; omega)
 have n2:=mrL_cnt (t:=(.pair (.int .i64) (.pair (.int .i64) (.pair (.int .i64) (.pair (.sl (.pair (.int .i64) (.pair (.int .i64) (.int .i64)))) (.pair (.sl (.int .i64)) (.sl (.sl (.int .i64))))))))) v1 (mrL (mrE (.int .i64)) v0 v2).2
 have n2b:=n2
 simp only [cntT] at n2b
 have c2:=xl1l_ok v1 (mrL (mrE (.int .i64)) v0 v2).2 (by omega) (by simp only [cntT]; omega) (by simp only [szT]; omega)
 try simp only [mrT] at c1 c2
 refine xl1r.eq _ _ _ ?_
 simp only [xl1r.t,mrT,c1,c2,Option.bind_some,cond_false]
theorem xl16_ok (v0:Zd) (v1:Int) (h0:0≤v1) (h1:v1+(cntT (.sl (.pair (.sl (.int .i64)) (.int .i64))) v0:Int)≤4611686018427387904) (h2:szT (.sl (.pair (.sl (.int .i64)) (.int .i64))) v0≤1073741824):xl16 v0 v1=some ((mrL (mrE (.pair (.sl (.int .i64)) (.int .i64))) v0 v1).2,(mrL (mrE (.pair (.sl (.int .i64)) (.int .i64))) v0 v1).1):=by
 have key : ∀ (rest pre : Zd) (k : Int), 0 ≤ k → k + (cntT (.sl (.pair (.sl (.int .i64)) (.int .i64))) rest : Int) ≤ 4611686018427387904 → pre.length + szT (.sl (.pair (.sl (.int .i64)) (.int .i64))) rest ≤ 1073741824 →
  xl16.l2 (pre ++ rest) k (pre.length:Int)=some ((mrL (mrE (.pair (.sl (.int .i64)) (.int .i64))) rest k).2,pre ++ (mrL (mrE (.pair (.sl (.int .i64)) (.int .i64))) rest k).1):=by
  intro rest
  induction rest with
  | nil =>
    intro pre k _ _ _
    exact xl16.eq2 _ _ _ (by simp only [xl16.t2,List.append_nil,ix_lt,Nat.lt_irrefl,decide_false,cond_false,mrL_nil])
  | cons x r ih =>
    intro pre k hk hb hl
    rw [cnt_cons] at hb
    simp only [cntT] at hb
    simp only [szT,List.length_cons,List.map_cons,List.sum_cons] at hl
    have n1:=mrL_cnt (t:=(.int .i64)) x.1 k
    simp only [cntT] at n1
    have c1:=xl1q_ok x.1 k (by omega) (by simp only [cntT]; omega) (by simp only [szT]; omega)
    have g:=ih (pre ++ [(mrE (.pair (.sl (.int .i64)) (.int .i64)) x k).1]) (mrE (.pair (.sl (.int .i64)) (.int .i64)) x k).2 (by rw [mrE_cnt]; omega) (by rw [mrE_cnt]; simp only [cntT] at hb ⊢; omega) (by simp only [szT,List.length_append,List.length_cons,List.length_nil] at hl ⊢; omega)
    refine xl16.eq2 _ _ _ ?_
    simp only [mrL_cons,mrE_int,mrE_bool,mrE_sl,mrE_pair]
    simp only [xl16.t2,lenI_mid,ix_nn,ix_nat,len_mid,set_mid,getD_mid,cond_true,cond_false,bne_ref,beq_ref,bang_t,wrap_k (k:=(mrL (mrE (.int .i64)) x.1 k).2) (by omega) (by omega),c1,wrap_succ (show pre.length<9223372036854775807 by omega),Option.bind_some,dec_rfl,Bool.and_true]
    rw [push_mid]
    simpa [mrE_int,mrE_bool,mrE_sl,mrE_pair] using g
 exact xl16.eq v0 v1 (by simp only [xl16.t]; exact key v0 [] v1 h0 h1 (by simpa using h2))
theorem xl1h_ok (v0:Zb) (v1:Int) (h0:0≤v1) (h1:v1+(cntT (.sl (.pair (.int .i64) (.sl (.pair (.sl (.int .i64)) (.int .i64))))) v0:Int)≤4611686018427387904) (h2:szT (.sl (.pair (.int .i64) (.sl (.pair (.sl (.int .i64)) (.int .i64))))) v0≤1073741824):xl1h v0 v1=some ((mrL (mrE (.pair (.int .i64) (.sl (.pair (.sl (.int .i64)) (.int .i64))))) v0 v1).2,(mrL (mrE (.pair (.int .i64) (.sl (.pair (.sl (.int .i64)) (.int .i64))))) v0 v1).1):=by
 have key : ∀ (rest pre : Zb) (k : Int), 0 ≤ k → k + (cntT (.sl (.pair (.int .i64) (.sl (.pair (.sl (.int .i64)) (.int .i64))))) rest : Int) ≤ 4611686018427387904 → pre.length + szT (.sl (.pair (.int .i64) (.sl (.pair (.sl (.int .i64)) (.int .i64))))) rest ≤ 1073741824 →
  xl1h.l2 (pre ++ rest) k (pre.length:Int)=some ((mrL (mrE (.pair (.int .i64) (.sl (.pair (.sl (.int .i64)) (.int .i64))))) rest k).2,pre ++ (mrL (mrE (.pair (.int .i64) (.sl (.pair (.sl (.int .i64)) (.int .i64))))) rest k).1):=by
  intro rest
  induction rest with
  | nil =>
    intro pre k _ _ _
    exact xl1h.eq2 _ _ _ (by simp only [xl1h.t2,List.append_nil,ix_lt,Nat.lt_irrefl,decide_false,cond_false,mrL_nil])
  | cons x r ih =>
    intro pre k hk hb hl
    rw [cnt_cons] at hb
    simp only [cntT] at hb
    simp only [szT,List.length_cons,List.map_cons,List.sum_cons] at hl
    have n1:=mrL_cnt (t:=(.pair (.sl (.int .i64)) (.int .i64))) x.2 (k+1)
    simp only [cntT] at n1
    have c1:=xl16_ok x.2 (k+1) (by omega) (by simp only [cntT]; omega) (by simp only [szT]; omega)
    have g:=ih (pre ++ [(mrE (.pair (.int .i64) (.sl (.pair (.sl (.int .i64)) (.int .i64)))) x k).1]) (mrE (.pair (.int .i64) (.sl (.pair (.sl (.int .i64)) (.int .i64)))) x k).2 (by rw [mrE_cnt]; omega) (by rw [mrE_cnt]; simp only [cntT] at hb ⊢; omega) (by simp only [szT,List.length_append,List.length_cons,List.length_nil] at hl ⊢; omega)
    refine xl1h.eq2 _ _ _ ?_
    simp only [mrL_cons,mrE_int,mrE_bool,mrE_sl,mrE_pair]
    simp only [xl1h.t2,lenI_mid,ix_nn,ix_nat,len_mid,set_mid,getD_mid,cond_true,cond_false,bne_ref,beq_ref,bang_t,wrap_k (k:=k) (by omega) (by omega),c1,wrap_succ (show pre.length<9223372036854775807 by omega),Option.bind_some,dec_rfl,Bool.and_true]
    rw [push_mid]
    simpa [mrE_int,mrE_bool,mrE_sl,mrE_pair] using g
 exact xl1h.eq v0 v1 (by simp only [xl1h.t]; exact key v0 [] v1 h0 h1 (by simpa using h2))
theorem xl2u_ok (v0:List Int) (v1:Int) (h0:0≤v1) (h1:v1+(cntT (.sl (.int .i64)) v0:Int)≤4611686018427387904) (h2:szT (.sl (.int .i64)) v0≤1073741824):xl2u (mrL (mrE (.int .i64)) v0 v1).1 v1=some (mrL (mrE (.int .i64)) v0 v1).2:=by
 have key : ∀ (rest pre : List Int) (k : Int), 0 ≤ k → k + (cntT (.sl (.int .i64)) rest : Int) ≤ 4611686018427387904 → pre.length + szT (.sl (.int .i64)) rest ≤ 1073741824 →
  xl2u.l2 (pre ++ (mrL (mrE (.int .i64)) rest k).1) k (pre.length:Int)=some (mrL (mrE (.int .i64)) rest k).2:=by
  intro rest
  induction rest with
  | nil =>
    intro pre k _ _ _
    exact xl2u.eq2 _ _ _ (by simp only [xl2u.t2,List.append_nil,ix_lt,Nat.lt_irrefl,decide_false,cond_false,mrL_nil])
  | cons x r ih =>
    intro pre k hk hb hl
    rw [cnt_cons] at hb
    simp only [cntT] at hb
    simp only [szT,List.length_cons,List.map_cons,List.sum_cons] at hl
    have g:=ih (pre ++ [(mrE (.int .i64) x k).1]) (mrE (.int .i64) x k).2 (by rw [mrE_cnt]; omega) (by rw [mrE_cnt]; simp only [cntT] at hb ⊢; omega) (by simp only [szT,List.length_append,List.length_cons,List.length_nil] at hl ⊢; omega)
    refine xl2u.eq2 _ _ _ ?_
    simp only [mrL_cons,mrE_int,mrE_bool,mrE_sl,mrE_pair]
    simp only [xl2u.t2,lenI_mid,ix_nn,ix_nat,len_mid,set_mid,getD_mid,cond_true,cond_false,bne_ref,beq_ref,bang_t,wrap_k (k:=k) (by omega) (by omega),wrap_succ (show pre.length<9223372036854775807 by omega),Option.bind_some,dec_rfl,Bool.and_true]
    rw [push_mid]
    simpa [mrE_int,mrE_bool,mrE_sl,mrE_pair] using g
 exact xl2u.eq _ v1 (by simp only [xl2u.t]; exact key v0 [] v1 h0 h1 (by simpa using h2))
theorem xl1j_ok (v0:Zd) (v1:Int) (h0:0≤v1) (h1:v1+(cntT (.sl (.pair (.sl (.int .i64)) (.int .i64))) v0:Int)≤4611686018427387904) (h2:szT (.sl (.pair (.sl (.int .i64)) (.int .i64))) v0≤1073741824):xl1j (mrL (mrE (.pair (.sl (.int .i64)) (.int .i64))) v0 v1).1 v1=some (mrL (mrE (.pair (.sl (.int .i64)) (.int .i64))) v0 v1).2:=by
 have key : ∀ (rest pre : Zd) (k : Int), 0 ≤ k → k + (cntT (.sl (.pair (.sl (.int .i64)) (.int .i64))) rest : Int) ≤ 4611686018427387904 → pre.length + szT (.sl (.pair (.sl (.int .i64)) (.int .i64))) rest ≤ 1073741824 →
  xl1j.l2 (pre ++ (mrL (mrE (.pair (.sl (.int .i64)) (.int .i64))) rest k).1) k (pre.length:Int)=some (mrL (mrE (.pair (.sl (.int .i64)) (.int .i64))) rest k).2:=by
  intro rest
  induction rest with
  | nil =>
    intro pre k _ _ _
    exact xl1j.eq2 _ _ _ (by simp only [xl1j.t2,List.append_nil,ix_lt,Nat.lt_irrefl,decide_false,cond_false,mrL_nil])
  | cons x r ih =>
    intro pre k hk hb hl
    rw [cnt_cons] at hb
    simp only [cntT] at hb
    simp only [szT,List.length_cons,List.map_cons,List.sum_cons] at hl
    have n1:=mrL_cnt (t:=(.int .i64)) x.1 k
    simp only [cntT] at n1
    have c1:=xl2u_ok x.1 k (by omega) (by simp only [cntT]; omega) (by simp only [szT]; omega)
    have g1:¬ (mrL (mrE (.int .i64)) x.1 k).2<0:=by omega
    have g:=ih (pre ++ [(mrE (.pair (.sl (.int .i64)) (.int .i64)) x k).1]) (mrE (.pair (.sl (.int .i64)) (.int .i64)) x k).2 (by rw [mrE_cnt]; omega) (by rw [mrE_cnt]; simp only [cntT] at hb ⊢; omega) (by simp only [szT,List.length_append,List.length_cons,List.length_nil] at hl ⊢; omega)
    refine xl1j.eq2 _ _ _ ?_
    simp only [mrL_cons,mrE_int,mrE_bool,mrE_sl,mrE_pair]
    simp only [xl1j.t2,lenI_mid,ix_nn,ix_nat,len_mid,set_mid,getD_mid,cond_true,cond_false,bne_ref,beq_ref,bang_t,wrap_k (k:=(mrL (mrE (.int .i64)) x.1 k).2) (by omega) (by omega),c1,dec_f g1,wrap_succ (show pre.length<9223372036854775807 by omega),Option.bind_some,dec_rfl,Bool.and_true]
    rw [push_mid]
    simpa [mrE_int,mrE_bool,mrE_sl,mrE_pair] using g
 exact xl1j.eq _ v1 (by simp only [xl1j.t]; exact key v0 [] v1 h0 h1 (by simpa using h2))
theorem xl1m_ok (v0:Int) (v1:Zd) (v2:Int) (h0:0≤v2) (h1:v2+(cntT (.pair (.int .i64) (.sl (.pair (.sl (.int .i64)) (.int .i64)))) (v0,v1):Int)≤4611686018427387904) (h2:szT (.pair (.int .i64) (.sl (.pair (.sl (.int .i64)) (.int .i64)))) (v0,v1)≤1073741824):xl1m v0 v1 v2=some ((mrT (.pair (.int .i64) (.sl (.pair (.sl (.int .i64)) (.int .i64)))) (v0,v1) v2).2,(mrT (.pair (.int .i64) (.sl (.pair (.sl (.int .i64)) (.int .i64)))) (v0,v1) v2).1.1,(mrT (.pair (.int .i64) (.sl (.pair (.sl (.int .i64)) (.int .i64)))) (v0,v1) v2).1.2):=by
 simp only [cntT] at h1
 simp only [szT] at h2
 have n1:=mrL_cnt (t:=(.pair (.sl (.int .i64)) (.int .i64))) v1 v2
 have n1b:=n1
 simp only [cntT] at n1b
 have c1:=xl16_ok v1 v2 (by omega) (by simp only [cntT]; omega) (by simp only [szT]; omega)
 try simp only [mrT] at c1
 refine xl1m.eq _ _ _ ?_
 simp only [xl1m.t,mrT,c1,Option.bind_some,cond_false]
theorem xl2g_ok (v0:Int) (v1:Zd) (v2:Int) (h0:0≤v2) (h1:v2+(cntT (.pair (.int .i64) (.sl (.pair (.sl (.int .i64)) (.int .i64)))) (v0,v1):Int)≤4611686018427387904) (h2:szT (.pair (.int .i64) (.sl (.pair (.sl (.int .i64)) (.int .i64)))) (v0,v1)≤1073741824):xl2g ((mrT (.pair (.int .i64) (.sl (.pair (.sl (.int .i64)) (.int .i64)))) (v0,v1) v2).1.1) ((mrT (.pair (.int .i64) (.sl (.pair (.sl (.int .i64)) (.int .i64)))) (v0,v1) v2).1.2) v2=some (mrT (.pair (.int .i64) (.sl (.pair (.sl (.int .i64)) (.int .i64)))) (v0,v1) v2).2:=by
 simp only [cntT] at h1
 simp only [szT] at h2
 have n1:=mrL_cnt (t:=(.pair (.sl (.int .i64)) (.int .i64))) v1 v2
 have n1b:=n1
 simp only [cntT] at n1b
 have c1:=xl1j_ok v1 v2 (by omega) (by simp only [cntT]; omega) (by simp only [szT]; omega)
 have g1:¬ (mrL (mrE (.pair (.sl (.int .i64)) (.int .i64))) v1 v2).2<0:=by omega
 try simp only [mrT] at c1 g1
 refine xl2g.eq _ _ _ ?_
 simp only [xl2g.t,mrT,c1,dec_f g1,Option.bind_some,cond_false]
end GoV

/- Small words of the program and of its specification. -/
namespace GoV
open Go
theorem xi3s_eq (x lo hi:Int):xi3s x lo hi=some (inB lo hi x):=by
 refine xi3s.eq x lo hi ?_
 simp only [xi3s.t,inB]
 by_cases h:lo≤x <;> simp [h]
theorem xs4h_eq (x lo hi:Int):xs4h x lo hi=some (inB lo hi x):=by
 refine xs4h.eq x lo hi ?_
 simp only [xs4h.t,inB]
 by_cases h:lo≤x <;> simp [h]
end GoV
