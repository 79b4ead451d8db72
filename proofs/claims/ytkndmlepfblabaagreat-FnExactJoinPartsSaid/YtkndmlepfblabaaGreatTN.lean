/- A part of the proof of FnExactJoinParts: an interpreter of the model over plain data, its soundness, and what it makes of the functions that the statement reaches. Conditions: none beyond what the given statement itself says. -/
import Derived.Test.YtkndmlepfblabaaGreatTM
set_option linter.unusedVariables false
set_option linter.unusedSimpArgs false
set_option linter.unnecessarySimpa false
set_option linter.unusedSectionVars false
/- Rows compared, good rows, good tables: alike for the program and its specification. -/
namespace GoV
open Go
theorem xs29_eq (r:List Int) (hl:r.length≤1073741824):xs29 r=some (goodR r):=by
 refine xs29.eq r ?_
 simp only [xs29.t]
 have:=all_loop r 0 (fun i => xs29.l2 r r (r.length:Int) (i:Int)) (inB (-100000) 100000) false (decide (r.length≤6)) ?_ ?_ ?_
 · refine Eq.trans this ?_
   simp only [goodR]
   cases r.all (inB (-100000) 100000) <;> rfl
 · refine xs29.eq2 _ _ _ _ ?_
   simp only [xs29.t2,ix_lt,Nat.lt_irrefl,decide_false,cond_false]
   congr 1
   exact bool_eq (by simp only [decide_eq_true_eq]; omega)
 · intro i hi hb
   exact xs29.eq2 _ _ _ _ (by simp only [xs29.t2,ix_lt,ix_nn,ix_nat,dec_t hi,cond_true,xs2v_eq,Option.bind_some,hb,bang_f])
 · intro i c hi hb hc
   exact xs29.eq2 _ _ _ _ (by simp only [xs29.t2,ix_lt,ix_nn,ix_nat,dec_t hi,cond_true,cond_false,xs2v_eq,Option.bind_some,hb,bang_t,wrap_succ (show i<9223372036854775807 by omega)]; exact hc)
theorem xi2b_eq (x:Int):xi2b x=some (inB (-100000) 100000 x):=xi2b.eq x (by simp only [xi2b.t,xi2g_eq,Option.bind_some])
theorem xi1y_eq (r:List Int) (hl:r.length≤1073741824):xi1y r=some (goodR r):=by
 refine xi1y.eq r ?_
 simp only [xi1y.t,xi0l_ok r (inB (-100000) 100000) (by omega) (fun x _ => xi2b_eq x),Option.bind_some,goodR]
 by_cases h:r.length≤6
 · have : (r.length : Int) ≤ 6 := by omega
   simp only [dec_t h,dec_t this,cond_true,Bool.and_true]
 · have : ¬ (r.length : Int) ≤ 6 := by omega
   simp only [dec_f h,dec_f this,cond_false,Bool.and_false]
theorem cmpL_drop {a b:List Int} {i:Nat} (ha:i<a.length) (hb:i<b.length):cmpL (a.drop i) (b.drop i)=if a.getD i 0<b.getD i 0 then -1 else if a.getD i 0 > b.getD i 0 then 1 else cmpL (a.drop (i+1)) (b.drop (i+1)):=by
 rw [drop_getD 0 ha,drop_getD 0 hb]
 rfl
theorem cmpL_end {a b:List Int} {i:Nat} (ha:i≤a.length) (hb:i≤b.length) (h:i=a.length∨i=b.length):cmpL (a.drop i) (b.drop i)=if a.length<b.length then -1 else if a.length > b.length then 1 else 0:=by
 rcases h with h | h
 · by_cases e : i < b.length
   · rw [h, List.drop_length, drop_getD 0 (by omega : a.length < b.length), if_pos (by omega)]
     rfl
   · have e1 : a.drop i = [] := by rw [h, List.drop_length]
     have e2:b.drop i=[]:=by rw [List.drop_eq_nil_iff]; omega
     rw [e1,e2,if_neg (by omega),if_neg (by omega)]
     rfl
 · by_cases e : i < a.length
   · rw [h, List.drop_length, drop_getD 0 (by omega : b.length < a.length), if_neg (by omega), if_pos (by omega)]
     rfl
   · have e1 : b.drop i = [] := by rw [h, List.drop_length]
     have e2:a.drop i=[]:=by rw [List.drop_eq_nil_iff]; omega
     rw [e1,e2,if_neg (by omega),if_neg (by omega)]
     rfl
theorem xs1l_eq (a b:List Int) (ha:a.length≤1073741824) (hb:b.length≤1073741824):xs1l a b=some (cmpL a b):=by
 have key:∀ i,i≤min a.length b.length→xs1l.l2 a b (i:Int)=some (cmpL (a.drop i) (b.drop i)):=by
  refine upto ?_ ?_
  · refine xs1l.eq2 _ _ _ ?_
    rw [cmpL_end (by omega) (by omega) (by omega)]
    have hlt:decide ((a.length:Int)<(b.length:Int))=decide (a.length<b.length):=ix_lt _ _
    have hgt:decide ((a.length:Int) > (b.length:Int))=decide (b.length<a.length):=ix_lt _ _
    simp only [xs1l.t2,ix_lt,hgt]
    by_cases h1:a.length<b.length
    · have h2 : ¬ min a.length b.length < a.length := by omega
      simp only [dec_f h2,dec_t h1,cond_false,cond_true,if_pos h1]
    · have h2 : ¬ min a.length b.length < b.length := by omega
      by_cases h3:b.length<a.length
      · have h4 : min a.length b.length < a.length := by omega
        have h5:a.length > b.length:=h3
        simp only [dec_t h4,dec_f h2,dec_f h1,dec_t h3,cond_false,cond_true,if_neg h1,if_pos h5]
      · have h4 : ¬ min a.length b.length < a.length := by omega
        have h5:¬ a.length > b.length:=h3
        simp only [dec_f h4,dec_f h1,dec_f h3,cond_false,if_neg h1,if_neg h5]
  · intro i hi ih
    have h1:i<a.length:=by omega
    have h2:i<b.length:=by omega
    refine xs1l.eq2 _ _ _ ?_
    rw [cmpL_drop h1 h2]
    simp only [xs1l.t2,ix_lt,ix_nn,ix_nat,dec_t h1,dec_t h2,cond_true,wrap_succ (show i<9223372036854775807 by omega),ih]
    by_cases h3:a.getD i 0<b.getD i 0
    · simp only [dec_t h3,cond_true,if_pos h3]
    · by_cases h4 : a.getD i 0 > b.getD i 0
      · simp only [dec_f h3,dec_t h4,cond_true,cond_false,if_neg h3,if_pos h4]
      · simp only [dec_f h3,dec_f h4,cond_false,if_neg h3,if_neg h4]
 exact xs1l.eq a b (by simp only [xs1l.t]; exact key 0 (Nat.zero_le _))
theorem xc15_eq (x y:Int):xc15 x y=some (if x<y then -1 else if x > y then 1 else 0):=by
 have e:∀ z:Int,xc1m z=some false:=fun z => xc1m.eq z (by simp only [xc1m.t,bne_ref])
 refine xc15.eq x y ?_
 simp only [xc15.t,e,Option.bind_some,cond_false]
 by_cases h3:x<y
 · simp only [dec_t h3,cond_true,if_pos h3]
 · by_cases h4 : x > y
   · simp only [dec_f h3,dec_t h4,cond_true,cond_false,if_neg h3,if_pos h4]
   · simp only [dec_f h3,dec_f h4,cond_false,if_neg h3,if_neg h4]
theorem xs0o_eq (a b:List Int) (ha:a.length≤1073741824) (hb:b.length≤1073741824):xs0o a b=some (cmpL a b):=by
 have stop:∀ i,i≤a.length→b.length≤i→i=b.length→xs0o.l2 a b a (a.length:Int) (i:Int)=some (cmpL (a.drop i) (b.drop i)):=by
  intro i hi hbi hib
  refine xs0o.eq2 _ _ _ _ _ ?_
  rw [cmpL_end hi (by omega) (.inr hib)]
  have hge:decide ((i:Int) ≥ (b.length:Int))=true:=dec_t (by omega)
  by_cases h1:i<a.length
  · have h2 : ¬ a.length < b.length := by omega
    have h3:a.length > b.length:=by omega
    simp only [xs0o.t2,ix_lt,ix_nn,ix_nat,dec_t h1,cond_true,hge,if_neg h2,if_pos h3]
  · have h2 : ¬ a.length < b.length := by omega
    have h3:¬ a.length > b.length:=by omega
    simp only [xs0o.t2,ix_lt,dec_f h1,dec_f h2,cond_false,if_neg h2,if_neg h3]
 have key:∀ i,i≤min a.length b.length→xs0o.l2 a b a (a.length:Int) (i:Int)=some (cmpL (a.drop i) (b.drop i)):=by
  refine upto ?_ ?_
  · by_cases hc : b.length ≤ a.length
    · exact stop _ (by omega) (by omega) (by omega)
    · have e : min a.length b.length = a.length := by omega
      rw [e]
      refine xs0o.eq2 _ _ _ _ _ ?_
      rw [cmpL_end (Nat.le_refl _) (by omega) (.inl rfl)]
      have h1:a.length<b.length:=by omega
      simp only [xs0o.t2,ix_lt,Nat.lt_irrefl,decide_false,cond_false,dec_t h1,cond_true,if_pos h1]
  · intro i hi ih
    have h1:i<a.length:=by omega
    have h2:i<b.length:=by omega
    have h2':¬ (i:Int) ≥ (b.length:Int):=by omega
    refine xs0o.eq2 _ _ _ _ _ ?_
    rw [cmpL_drop h1 h2]
    simp only [xs0o.t2,ix_lt,ix_nn,ix_nat,dec_t h1,dec_t h2,dec_f h2',cond_true,cond_false,xc15_eq,Option.bind_some,wrap_succ (show i<9223372036854775807 by omega),ih]
    by_cases h3:a.getD i 0<b.getD i 0
    · simp only [if_pos h3]; rfl
    · by_cases h4 : a.getD i 0 > b.getD i 0
      · simp only [if_neg h3,if_pos h4]; rfl
      · simp only [if_neg h3,if_neg h4,bne_ref,cond_false]
 exact xs0o.eq a b (by simp only [xs0o.t]; exact key 0 (Nat.zero_le _))
theorem xi11_eq (a b:List Int) (ha:a.length≤1073741824) (hb:b.length≤1073741824):xi11 a b=some (cmpL a b) :=
 xi11.eq a b (by simp only [xi11.t,xs0o_eq a b ha hb,Option.bind_some])
/-! ## Tables -/
theorem xs1x_eq (n:Int):xs1x n=some (inB (-1000000) 1000000 n):=xs1x.eq n (by simp only [xs1x.t,xs2v_eq,Option.bind_some])
theorem xi1o_eq (n:Int):xi1o n=some (inB (-1000000) 1000000 n):=xi1o.eq n (by simp only [xi1o.t,xi2g_eq,Option.bind_some])
theorem xi1g_eq (n:Int):xi1g n=some (inB 0 6 n):=xi1g.eq n (by simp only [xi1g.t,xi2g_eq,Option.bind_some])
theorem xi21_eq (r:List Int) (c:Int) (hl:r.length≤1073741824):xi21 r c=some (goodR r && ((r.length:Int) == c)):=by
 refine xi21.eq r c ?_
 simp only [xi21.t,xi1y_eq r hl,Option.bind_some]
 cases goodR r <;> rfl
theorem tabB_split (c:Int) (l:List WRow) (i:Nat):tabB c l i=(goodR (l.getD i ([],0)).1 && (((l.getD i ([],0)).1.length:Int) == c) && inB (-1000000) 1000000 (l.getD i ([],0)).2 && !((l.getD i ([],0)).2 == 0) && (decide (i=0) || decide (cmpL (l.getD (i - 1) ([],0)).1 (l.getD i ([],0)).1<0))):=by
 simp only [tabB,rowB,goodW]
 refine bool_eq ?_
 simp only [Bool.and_eq_true,decide_eq_true_eq,beq_iff_eq,Bool.not_eq_true',beq_eq_false_iff_ne,ne_eq,and_assoc]
section
variable {c:Int} {l:List WRow} (hl:l.length≤1073741824) (hr:∀ w,w∈l→w.1.length≤1073741824)
include hl hr
theorem xs1j_eq:xs1j c l=some (goodT c l):=by
 have key:∀ i,i≤l.length→xs1j.l2 c l l (l.length:Int) (i:Int)=some (allR (tabB c l) i l.length && (inB 0 6 c && decide (l.length≤60))):=by
  refine upto ?_ ?_
  · refine xs1j.eq2 _ _ _ _ _ ?_
    simp only [xs1j.t2,ix_lt,Nat.lt_irrefl,decide_false,cond_false,xs2v_eq,Option.bind_some,allR_end,Bool.true_and]
    have:decide ((l.length:Int)≤60)=decide (l.length≤60):=bool_eq (by simp only [decide_eq_true_eq]; omega)
    rw [this]
    cases inB 0 6 c <;> rfl
  · intro i hi ih
    have h1:=hr _ (getD_mem ([],0) hi)
    refine xs1j.eq2 _ _ _ _ _ ?_
    rw [allR_step _ hi,tabB_split]
    simp only [xs1j.t2,ix_lt,ix_nn,ix_nat,dec_t hi,cond_true,xs29_eq _ h1,xs1x_eq,Option.bind_some,wrap_succ (show i<9223372036854775807 by omega),ih,bne]
    cases goodR (l.getD i ([],0)).1
    · rfl
    · cases ((l.getD i ([], 0)).1.length : Int) == c
      · rfl
      · cases inB (-1000000) 1000000 (l.getD i ([], 0)).2
        · rfl
        · cases (l.getD i ([], 0)).2 == 0
          · by_cases h0 : i = 0
            · subst h0; simp
            · have h2 : 0 < i := by omega
              have h3:i - 1<l.length:=by omega
              have h4:(i:Int) > 0:=by omega
              have h5:=hr _ (getD_mem ([],0) h3)
              simp only [dec_t h4,dec_f h0,bang_t,bang_f,cond_true,cond_false,wrap_pred h2 (by omega),ix_nn,ix_nat,dec_t h3,xs1l_eq _ _ h5 h1,Option.bind_some,Bool.true_and,Bool.false_or]
              by_cases h6:cmpL (l.getD (i - 1) ([],0)).1 (l.getD i ([],0)).1 ≥ 0
              · have h7 : ¬ cmpL (l.getD (i - 1) ([], 0)).1 (l.getD i ([], 0)).1 < 0 := by omega
                simp only [dec_t h6,dec_f h7,cond_true,Bool.false_and]
              · have h7 : cmpL (l.getD (i - 1) ([], 0)).1 (l.getD i ([], 0)).1 < 0 := by omega
                simp only [dec_f h6,dec_t h7,cond_false,Bool.true_and]
          · rfl
 exact xs1j.eq c l (by simp only [xs1j.t]; exact key 0 (Nat.zero_le _))
theorem xi1d_eq:xi1d c l=some (goodT c l):=by
 have key:∀ i,i≤l.length→xi1d.l4 c l l (l.length:Int) (i:Int)=some (allR (tabB c l) i l.length):=by
  refine upto ?_ ?_
  · exact xi1d.eq4 _ _ _ _ _ (by simp only [xi1d.t4,ix_lt,Nat.lt_irrefl,decide_false,cond_false,allR_end])
  · intro i hi ih
    have h1:=hr _ (getD_mem ([],0) hi)
    refine xi1d.eq4 _ _ _ _ _ ?_
    rw [allR_step _ hi,tabB_split]
    simp only [xi1d.t4,ix_lt,ix_nn,ix_nat,dec_t hi,cond_true,xi21_eq _ _ h1,xi1o_eq,Option.bind_some,wrap_succ (show i<9223372036854775807 by omega),ih]
    cases goodR (l.getD i ([],0)).1
    · rfl
    · cases ((l.getD i ([], 0)).1.length : Int) == c
      · rfl
      · cases inB (-1000000) 1000000 (l.getD i ([], 0)).2
        · rfl
        · cases (l.getD i ([], 0)).2 == 0
          · by_cases h0 : i = 0
            · subst h0; simp
            · have h2 : 0 < i := by omega
              have h3:i - 1<l.length:=by omega
              have h4:(i:Int) > 0:=by omega
              have h5:=hr _ (getD_mem ([],0) h3)
              simp only [dec_t h4,dec_f h0,bang_t,bang_f,cond_true,cond_false,wrap_pred h2 (by omega),ix_nn,ix_nat,dec_t h3,xi11_eq _ _ h5 h1,Option.bind_some,Bool.true_and,Bool.false_or]
              by_cases h6:cmpL (l.getD (i - 1) ([],0)).1 (l.getD i ([],0)).1 ≥ 0
              · have h7 : ¬ cmpL (l.getD (i - 1) ([], 0)).1 (l.getD i ([], 0)).1 < 0 := by omega
                simp only [dec_t h6,dec_f h7,cond_true,Bool.false_and]
              · have h7 : cmpL (l.getD (i - 1) ([], 0)).1 (l.getD i ([], 0)).1 < 0 := by omega
                simp only [dec_f h6,dec_t h7,cond_false,Bool.true_and]
          · rfl
 refine xi1d.eq c l ?_
 simp only [xi1d.t,xi1g_eq,Option.bind_some,goodT]
 cases inB 0 6 c
 · simp
 · by_cases h : l.length ≤ 60
   · have h' : ¬ (l.length : Int) > 60 := by omega
     simp only [dec_f h',dec_t h,bang_t,cond_false,Bool.and_true]
     exact key 0 (Nat.zero_le _)
   · have h' : (l.length : Int) > 60 := by omega
     simp only [dec_t h',dec_f h,bang_t,cond_false,cond_true,Bool.and_false]
end
/-! ## A table told anew -/
theorem xs1w_eq (r:List Int) (hl:r.length≤1073741824):xs1w r=some r:=by
 refine xs1w.eq r ?_
 have:([]:List Int).length+r.length≤4294967296:=by simp; omega
 simp only [xs1w.t,dec_t this,cond_true,List.nil_append]
theorem xs2l_eq (c:Int) (l:List WRow) (hl:l.length≤1073741824) (hr:∀ w,w∈l→w.1.length≤1073741824):xs2l c l=some (bif goodT c l then (c,l,true) else (0,[],false)):=by
 have key:∀ (rest pre:List WRow),l=pre ++ rest→xs2l.l3 0 [] c pre l (l.length:Int) (pre.length:Int)=some (bif goodT c l then (c,l,true) else (0,[],false)):=by
  intro rest
  induction rest with
  | nil =>
    intro pre hp
    have e:pre=l:=by rw [hp]; simp
    subst e
    refine xs2l.eq3 _ _ _ _ _ _ _ ?_
    simp only [xs2l.t3,ix_lt,Nat.lt_irrefl,decide_false,cond_false,xs1j_eq hl hr,Option.bind_some]
    cases goodT c pre <;> rfl
  | cons w r ih =>
    intro pre hp
    have hi:pre.length<l.length:=by rw [hp]; simp
    have hg:l.getD pre.length ([],0)=w:=by rw [hp]; exact getD_mid pre r w _
    have hw:=hr w (by rw [hp]; simp)
    have hb:pre.length+[(w.1,w.2)].length≤4294967296:=by simp only [List.length_cons,List.length_nil]; omega
    refine xs2l.eq3 _ _ _ _ _ _ _ ?_
    simp only [xs2l.t3,ix_lt,ix_nn,ix_nat,dec_t hi,cond_true,hg,xs1w_eq _ hw,Option.bind_some,dec_t hb,wrap_succ (show pre.length<9223372036854775807 by omega)]
    have:=ih (pre ++ [w]) (by rw [hp]; simp)
    rw [List.length_append,List.length_singleton] at this
    exact this
 exact xs2l.eq c l (by simp only [xs2l.t]; exact key l [] rfl)
end GoV
