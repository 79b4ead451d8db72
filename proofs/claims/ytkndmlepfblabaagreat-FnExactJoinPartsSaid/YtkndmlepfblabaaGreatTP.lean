/- A part of the proof of FnExactJoinParts: an interpreter of the model over plain data, its soundness, and what it makes of the functions that the statement reaches. Conditions: none beyond what the given statement itself says. -/
import Derived.Test.YtkndmlepfblabaaGreatTO
set_option linter.unusedVariables false
set_option linter.unusedSimpArgs false
set_option linter.unnecessarySimpa false
set_option linter.unusedSectionVars false
/- A row put into a sorted table; all rows of a list. -/
namespace GoV
open Go
section
variable {l:List WRow} {r:List Int} {n:Int} (hl:l.length≤1073741824) (hr:∀ w,w∈l→w.1.length≤1073741824) (hx:r.length≤1073741824) (hn:∀ w,w∈l→IntKind.i64.wrap (n+w.2)=n+w.2)
include hl hr hx hn
theorem xs2t_eq:xs2t l r n=some (putL l r n):=by
 have key:∀ (rest pre:List WRow),l=pre ++ rest→xs2t.l2 l n r (pre.length:Int)=some (pre ++ putL rest r n):=by
  intro rest
  induction rest with
  | nil =>
    intro pre hp
    have e:pre=l:=by rw [hp]; simp
    subst e
    refine xs2t.eq2 _ _ _ _ ?_
    have h1:(0:Int)≤(pre.length:Int):=by omega
    have h2:(pre.length:Int)≤(pre.length:Int):=Int.le_refl _
    have h3:List.take ((pre.length:Int) - 0).toNat (List.drop (0:Int).toNat pre)=pre:=by
        rw [show ((pre.length:Int) - 0).toNat=pre.length by omega,show (0:Int).toNat=0 from rfl,List.drop_zero,List.take_length]
    have h4:pre.length≤4294967296:=by omega
    have h5:pre.length+[(r,n)].length≤4294967296:=by simp only [List.length_cons,List.length_nil]; omega
    have h6:(pre ++ [(r,n)]).length+([]:List WRow).length≤4294967296:=by simp only [List.length_append,List.length_cons,List.length_nil]; omega
    have h7:pre.length+([]:List WRow).length≤4294967296:=by simp only [List.length_nil]; omega
    simp only [xs2t.t2,ix_lt,Nat.lt_irrefl,decide_false,cond_false,Option.getD_none,Option.getD_some,dec_t h1,dec_t h2,h3,dec_t h4,cond_true,xs1w_eq _ hx,Option.bind_some,ix_nat,List.drop_length,dec_t h5,dec_t h6,dec_t h7,putL,oneW]
    by_cases h0:n=0
    · subst h0
      have:((0:Int) != 0)=false:=rfl
      simp only [this,cond_false,if_true]
    · have : (n != 0) = true := bne_iff_ne.2 h0
      simp only [this,cond_true,if_neg h0,List.append_nil]
  | cons w rest ih =>
    intro pre hp
    have hi:pre.length<l.length:=by rw [hp]; simp
    have hg:l.getD pre.length ([],0)=w:=by rw [hp]; exact getD_mid pre rest w _
    have hwm:w∈l:=by rw [hp]; simp
    have hw:=hr w hwm
    have hwr:=hn w hwm
    have h1:(0:Int)≤(pre.length:Int):=by omega
    have h2:(pre.length:Int)≤(l.length:Int):=by omega
    have h2':((pre.length+1:Nat):Int)≤(l.length:Int):=by omega
    have h2'':(0:Int)≤((pre.length+1:Nat):Int):=by omega
    have h3:List.take ((pre.length:Int) - 0).toNat (List.drop (0:Int).toNat l)=pre:=by
        rw [show ((pre.length:Int) - 0).toNat=pre.length by omega,show (0:Int).toNat=0 from rfl,List.drop_zero,hp,List.take_left]
    have h4:pre.length≤4294967296:=by omega
    have hdr:List.drop pre.length l=w::rest:=by rw [hp,List.drop_left]
    have hdr1:List.drop (pre.length+1) l=rest:=by rw [← List.drop_drop,hdr]; rfl
    have hrl:rest.length+1+pre.length=l.length:=by rw [hp]; simp; omega
    have hone:∀ m:Int,pre.length+[(r,m)].length≤4294967296:=fun m => by simp only [List.length_cons,List.length_nil]; omega
    have hall:∀ (m:Int),(pre ++ [(r,m)]).length+(w::rest).length≤4294967296:=fun m => by simp only [List.length_append,List.length_cons,List.length_nil]; omega
    have hall1:∀ (m:Int),(pre ++ [(r,m)]).length+rest.length≤4294967296:=fun m => by simp only [List.length_append,List.length_cons,List.length_nil]; omega
    have hsh:pre.length+(w::rest).length≤4294967296:=by simp only [List.length_cons]; omega
    have hsh1:pre.length+rest.length≤4294967296:=by omega
    refine xs2t.eq2 _ _ _ _ ?_
    simp only [xs2t.t2,ix_lt,ix_nn,ix_nat,dec_t hi,cond_true,hg,xs1l_eq _ _ hw hx,Option.bind_some,wrap_succ (show pre.length<9223372036854775807 by omega),Option.getD_none,Option.getD_some,dec_t h1,dec_t h2,dec_t h2',dec_t h2'',h3,dec_t h4,xs1w_eq _ hx,hwr,hdr,hdr1,dec_t (hone _),dec_t (hall _),dec_t (hall1 _),dec_t hsh,dec_t hsh1,putL]
    by_cases hc:cmpL w.1 r<0
    · simp only [dec_t hc, cond_true, if_pos hc]
      have:=ih (pre ++ [w]) (by rw [hp]; simp)
      rw [List.length_append,List.length_singleton,List.append_assoc] at this
      exact this
    · simp only [dec_f hc, cond_false, if_neg hc]
      by_cases hz:cmpL w.1 r=0
      · have : (cmpL w.1 r == 0) = true := by rw [hz]; rfl
        simp only [this,cond_true,if_pos hz,oneW]
        by_cases h0:n+w.2=0
        · have : (n + w.2 != 0) = false := by rw [h0]; rfl
          simp only [this,cond_false,if_pos h0,List.nil_append]
        · have : (n + w.2 != 0) = true := bne_iff_ne.2 h0
          simp only [this,cond_true,if_neg h0,List.append_assoc]
      · have : (cmpL w.1 r == 0) = false := beq_eq_false_iff_ne.2 hz
        simp only [this,cond_false,if_neg hz,oneW]
        by_cases h0:n=0
        · have : (n != 0) = false := by rw [h0]; rfl
          simp only [this,cond_false,if_pos h0,List.nil_append]
        · have : (n != 0) = true := bne_iff_ne.2 h0
          simp only [this,cond_true,if_neg h0,List.append_assoc]
 refine xs2t.eq l r n ?_
 simp only [xs2t.t]
 exact key l [] rfl
end
/-- What the sums of a table keep to. -/
structure PutOK (M : Int) (N : Nat) (l : List WRow) : Prop where
 len:l.length≤N
 row:∀ w,w∈l→w.1.length≤1073741824
 wt:∀ w,w∈l→-M≤w.2∧w.2≤M
theorem putL_wt {l:List WRow} {r:List Int} {n:Int} {w:WRow} (h:w∈putL l r n):(∃ u,u∈l∧w.2=u.2)∨w.2=n∨∃ u,u∈l∧w.2=n+u.2:=by
 induction l with
 | nil => exact .inr (.inl (by rw [(oneW_mem h).1]))
 | cons u l ih =>
   simp only [putL] at h
   split at h
   · rcases List.mem_cons.1 h with rfl | h
     · exact .inl ⟨w,by simp,rfl⟩
     · exact (ih h).imp (fun ⟨x,hx,e⟩ => ⟨x,List.mem_cons_of_mem _ hx,e⟩) (Or.imp id fun ⟨x,hx,e⟩ => ⟨x,List.mem_cons_of_mem _ hx,e⟩)
   · split at h
     · rcases List.mem_append.1 h with h | h
       · exact .inr (.inr ⟨u,by simp,by rw [(oneW_mem h).1]⟩)
       · exact .inl ⟨w,List.mem_cons_of_mem _ h,rfl⟩
     · rcases List.mem_append.1 h with h | h
       · exact .inr (.inl (by rw [(oneW_mem h).1]))
       · exact .inl ⟨w,h,rfl⟩
theorem PutOK.put {M m:Int} {N:Nat} {l:List WRow} {r:List Int} {n:Int} (h:PutOK M N l) (hr:r.length≤1073741824) (hn:-m≤n∧n≤m) (hm:0≤M) (hm2:0≤m):PutOK (M+m) (N+1) (putL l r n) :=
 ⟨Nat.le_trans (putL_len l r n) (by have:=h.len; omega),fun w hw => (putL_mem hw).elim (h.row w) fun e => by rw [e]; exact hr,fun w hw => by
  rcases putL_wt hw with ⟨u,hu,e⟩ | e | ⟨u,hu,e⟩
  · have:=h.wt u hu; omega
  · omega
  · have:=h.wt u hu; omega⟩
theorem PutOK.wraps {M m:Int} {N:Nat} {l:List WRow} (h:PutOK M N l) {n:Int} (hn:-m≤n∧n≤m) (hM:M+m≤9223372036854775807):∀ w,w∈l→IntKind.i64.wrap (n+w.2)=n+w.2:=fun w hw => by
 have:=h.wt w hw
 rw [wrap_id] <;> omega
end GoV

/- Tables with all weights times a number, and tables handed on if they are good. -/
namespace GoV
open Go
theorem xs0s_eq (r:List Int) (hl:r.length≤1073741824):xs0s r=some r:=by
 refine xs0s.eq r ?_
 have:r.length≤4294967296:=by omega
 simp only [xs0s.t,dec_t this,cond_true]
theorem xi1z_eq (r:List Int) (hl:r.length≤1073741824):xi1z r=some r:=xi1z.eq r (by simp only [xi1z.t,xs0s_eq r hl,Option.bind_some])
end GoV

/- Lists put together; rows of the same kind added up. -/
namespace GoV
open Go
theorem grow_n (n:Nat):IntKind.i64.wrap ((n:Int) - IntKind.i64.wrap ((0:Int) - (0:Int)))=IntKind.i64.wrap (n:Int):=by
 have:IntKind.i64.wrap ((0:Int) - (0:Int))=0:=rfl
 rw [this,Int.sub_zero]
theorem slices_Grow_W_eq (n:Nat) (h:n≤1073741824):xs0d (n:Int)=some []:=by
 refine xs0d.eq _ ?_
 have h0:¬ (n:Int)<0:=by omega
 have hw:IntKind.i64.wrap (n:Int)=(n:Int):=wrap_id (by omega) (by omega)
 simp only [xs0d.t,dec_f h0,cond_false,grow_n,hw]
 by_cases h1:(n:Int) > 0
 · have h2 : (1 : Int) ≤ (n : Int) := by omega
   have h3:(n:Int)≤((4294967296:Nat):Int):=by omega
   simp only [dec_t h1,dec_t h2,dec_t h3,cond_true,Option.getD_none]
   rfl
 · simp only [dec_f h1,cond_false]
theorem slices_Grow_int_eq (n:Nat) (h:n≤1073741824):xs0m (n:Int)=some []:=by
 refine xs0m.eq _ ?_
 have h0:¬ (n:Int)<0:=by omega
 have hw:IntKind.i64.wrap (n:Int)=(n:Int):=wrap_id (by omega) (by omega)
 simp only [xs0m.t,dec_f h0,cond_false,grow_n,hw]
 by_cases h1:(n:Int) > 0
 · have h2 : (1 : Int) ≤ (n : Int) := by omega
   have h3:(n:Int)≤((4294967296:Nat):Int):=by omega
   simp only [dec_t h1,dec_t h2,dec_t h3,cond_true,Option.getD_none]
   rfl
 · simp only [dec_f h1,cond_false]
theorem flatten_drop {α:Type} {ls:List (List α)} {i:Nat} (h:i<ls.length):(ls.drop i).flatten=ls.getD i [] ++ (ls.drop (i+1)).flatten:=by
 rw [drop_getD [] h,List.flatten_cons]
theorem slices_Concat_W_eq (ls:List (List WRow)) (h:ls.flatten.length≤1073741824) (hl:ls.length≤1073741824):xs0f ls=some ls.flatten:=by
 have k2:∀ i,i≤ls.length→∀ acc:List WRow,acc.length+(ls.drop i).flatten.length≤1073741824→xs0f.l11 acc ls (ls.length:Int) (i:Int)=some (acc ++ (ls.drop i).flatten):=by
  refine upto ?_ ?_
  · intro acc _
    refine xs0f.eq11 _ _ _ _ ?_
    rw [List.drop_length,List.flatten_nil,List.append_nil]
    simp only [xs0f.t11,ix_lt,Nat.lt_irrefl,decide_false,cond_false]
  · intro i hi ih acc ha
    rw [flatten_drop hi,List.length_append] at ha
    refine xs0f.eq11 _ _ _ _ ?_
    have hb:acc.length+(ls.getD i []).length≤4294967296:=by omega
    simp only [xs0f.t11,ix_lt,ix_nn,ix_nat,dec_t hi,cond_true,dec_t hb,wrap_succ (show i<9223372036854775807 by omega)]
    rw [ih _ (by rw [List.length_append]; omega),flatten_drop hi,List.append_assoc]
 have k1:∀ i,i≤ls.length→∀ n:Nat,n+(ls.drop i).flatten.length≤1073741824→xs0f.l3 ls (n:Int) ls (ls.length:Int) (i:Int)=some ls.flatten:=by
  refine upto ?_ ?_
  · intro n hn
    refine xs0f.eq3 _ _ _ _ _ ?_
    have:=k2 0 (Nat.zero_le _) [] (by simpa using h)
    rw [List.drop_zero,List.nil_append] at this
    simp only [xs0f.t3,ix_lt,Nat.lt_irrefl,decide_false,cond_false,slices_Grow_W_eq n (by omega),Option.bind_some]
    exact this
  · intro i hi ih n hn
    rw [flatten_drop hi,List.length_append] at hn
    refine xs0f.eq3 _ _ _ _ _ ?_
    have hw:IntKind.i64.wrap ((n:Int)+((ls.getD i []).length:Int))=((n+(ls.getD i []).length:Nat):Int):=by rw [wrap_id] <;> omega
    have h0:¬ ((n+(ls.getD i []).length:Nat):Int)<0:=by omega
    simp only [xs0f.t3,ix_lt,ix_nn,ix_nat,dec_t hi,cond_true,hw,dec_f h0,cond_false,wrap_succ (show i<9223372036854775807 by omega)]
    exact ih _ (by omega)
 refine xs0f.eq ls ?_
 simp only [xs0f.t]
 exact k1 0 (Nat.zero_le _) 0 (by simpa using h)
theorem slices_Concat_int_eq (ls:List (List Int)) (h:ls.flatten.length≤1073741824) (hl:ls.length≤1073741824):xs0q ls=some ls.flatten:=by
 have k2:∀ i,i≤ls.length→∀ acc:List Int,acc.length+(ls.drop i).flatten.length≤1073741824→xs0q.l11 acc ls (ls.length:Int) (i:Int)=some (acc ++ (ls.drop i).flatten):=by
  refine upto ?_ ?_
  · intro acc _
    refine xs0q.eq11 _ _ _ _ ?_
    rw [List.drop_length,List.flatten_nil,List.append_nil]
    simp only [xs0q.t11,ix_lt,Nat.lt_irrefl,decide_false,cond_false]
  · intro i hi ih acc ha
    rw [flatten_drop hi,List.length_append] at ha
    refine xs0q.eq11 _ _ _ _ ?_
    have hb:acc.length+(ls.getD i []).length≤4294967296:=by omega
    simp only [xs0q.t11,ix_lt,ix_nn,ix_nat,dec_t hi,cond_true,dec_t hb,wrap_succ (show i<9223372036854775807 by omega)]
    rw [ih _ (by rw [List.length_append]; omega),flatten_drop hi,List.append_assoc]
 have k1:∀ i,i≤ls.length→∀ n:Nat,n+(ls.drop i).flatten.length≤1073741824→xs0q.l3 ls (n:Int) ls (ls.length:Int) (i:Int)=some ls.flatten:=by
  refine upto ?_ ?_
  · intro n hn
    refine xs0q.eq3 _ _ _ _ _ ?_
    have:=k2 0 (Nat.zero_le _) [] (by simpa using h)
    rw [List.drop_zero,List.nil_append] at this
    simp only [xs0q.t3,ix_lt,Nat.lt_irrefl,decide_false,cond_false,slices_Grow_int_eq n (by omega),Option.bind_some]
    exact this
  · intro i hi ih n hn
    rw [flatten_drop hi,List.length_append] at hn
    refine xs0q.eq3 _ _ _ _ _ ?_
    have hw:IntKind.i64.wrap ((n:Int)+((ls.getD i []).length:Int))=((n+(ls.getD i []).length:Nat):Int):=by rw [wrap_id] <;> omega
    have h0:¬ ((n+(ls.getD i []).length:Nat):Int)<0:=by omega
    simp only [xs0q.t3,ix_lt,ix_nn,ix_nat,dec_t hi,cond_true,hw,dec_f h0,cond_false,wrap_succ (show i<9223372036854775807 by omega)]
    exact ih _ (by omega)
 refine xs0q.eq ls ?_
 simp only [xs0q.t]
 exact k1 0 (Nat.zero_le _) 0 (by simpa using h)
/-- Behind the sort: stretches added up. -/
theorem groups_ok {d : List WRow} {c M : Int} (hl : d.length ≤ 1073741824) (hr : ∀ w, w ∈ d → w.1.length ≤ 1073741824) (hM : 0 ≤ M) (hw : ∀ w, w ∈ d → -M ≤ w.2 ∧ w.2 ≤ M) (hbig : M * (d.length : Int) ≤ 9223372036854775807) :
 ∀ k, k ≤ d.length → (∀ out : List WRow, out.length ≤ k → xi2f.l5 0 [] c out d (k : Int) = some (c, out ++ groupW (d.drop k))) ∧
   (∀ (i:Nat) (s:Int) (out:List WRow),i<k→i<d.length→out.length≤i→-(M * (k:Int))≤s→s≤M * (k:Int)→xi2f.l7 0 [] c out d (i:Int) s (k:Int)=some (c,out ++ runW (d.getD i ([],0)).1 s (d.drop k))):=by
 have push : ∀ (i k : Nat) (s : Int) (out : List WRow), i < k → i < d.length → out.length ≤ i → k ≤ d.length → (∀ out : List WRow, out.length ≤ k → xi2f.l5 0 [] c out d (k : Int) = some (c, out ++ groupW (d.drop k))) →
  (bif s != (0:Int) then (some (d.getD i ([],0)).1).bind fun (r3:List Int) => bif decide (out.length+[(r3,s)].length≤4294967296) then xi2f.l5 0 [] c (out ++ [(r3,s)]) d (k:Int) else none else xi2f.l5 0 [] c out d (k:Int))=some (c,out ++ (oneW (d.getD i ([],0)).1 s ++ groupW (d.drop k))):=by
  intro i k s out h1 h2 h3 h4 hA
  by_cases h0:s=0
  · have : (s != 0) = false := by rw [h0]; rfl
    rw [this,cond_false,hA out (by omega),oneW,if_pos h0,List.nil_append]
  · have : (s != 0) = true := bne_iff_ne.2 h0
    have hb:out.length+[((d.getD i ([],0)).1,s)].length≤4294967296:=by simp only [List.length_cons,List.length_nil]; omega
    simp only [this,cond_true,Option.bind_some,dec_t hb]
    rw [hA _ (by rw [List.length_append,List.length_singleton]; omega),oneW,if_neg h0,List.append_assoc]
 refine upto ?_ ?_
 · have hA:∀ out:List WRow,out.length≤d.length→xi2f.l5 0 [] c out d (d.length:Int)=some (c,out ++ groupW (d.drop d.length)):=by
    intro out _
    refine xi2f.eq5 _ _ _ _ _ _ ?_
    rw [List.drop_length,groupW,List.append_nil]
    simp only [xi2f.t5,ix_lt,Nat.lt_irrefl,decide_false,cond_false]
   refine ⟨hA,fun i s out h1 h2 h3 _ _ => ?_⟩
   refine xi2f.eq7 _ _ _ _ _ _ _ _ ?_
   have:=push i d.length s out h1 h2 h3 (Nat.le_refl _) hA
   rw [List.drop_length,groupW,List.append_nil] at this
   simp only [xi2f.t7,ix_lt,Nat.lt_irrefl,decide_false,cond_false,ix_nn,ix_nat,dec_t h2,cond_true,xi1z_eq _ (hr _ (getD_mem ([],0) h2))]
   rw [List.drop_length,runW]
   exact this
 · intro k hk ih
   obtain ⟨ihA,ihB⟩:=ih
   have hkm:=getD_mem (([]:List Int),(0:Int)) hk
   have hwk:=hw _ hkm
   have e:M * ((k+1:Nat):Int)=M * (k:Int)+M:=by rw [Int.natCast_succ,Int.mul_add,Int.mul_one]
   have h0:0≤M * (k:Int):=Int.mul_nonneg hM (by omega)
   have hle:M * ((k+1:Nat):Int)≤M * (d.length:Int):=Int.mul_le_mul_of_nonneg_left (by omega) hM
   have hA:∀ out:List WRow,out.length≤k→xi2f.l5 0 [] c out d (k:Int)=some (c,out ++ groupW (d.drop k)):=by
    intro out hout
    refine xi2f.eq5 _ _ _ _ _ _ ?_
    simp only [xi2f.t5,ix_lt,dec_t hk,cond_true]
    refine xi2f.eq7 _ _ _ _ _ _ _ _ ?_
    have hz:(cmpL (d.getD k ([],0)).1 (d.getD k ([],0)).1 == 0)=true:=by rw [cmpL_refl]; rfl
    have hwr:IntKind.i64.wrap (0+(d.getD k ([],0)).2)=(d.getD k ([],0)).2:=by rw [Int.zero_add,wrap_id] <;> omega
    simp only [xi2f.t7,ix_lt,ix_nn,ix_nat,dec_t hk,cond_true,xi11_eq _ _ (hr _ hkm) (hr _ hkm),Option.bind_some,hz,hwr,wrap_succ (show k<9223372036854775807 by omega)]
    rw [ihB k _ out (by omega) hk hout (by omega) (by omega),drop_getD ([],0) hk,groupW]
   refine ⟨hA,fun i s out h1 h2 h3 h4 h5 => ?_⟩
   refine xi2f.eq7 _ _ _ _ _ _ _ _ ?_
   have hp:=push i k s out h1 h2 h3 (Nat.le_of_lt hk) hA
   have him:=getD_mem (([]:List Int),(0:Int)) h2
   have hwr:IntKind.i64.wrap (s+(d.getD k ([],0)).2)=s+(d.getD k ([],0)).2:=by rw [wrap_id] <;> omega
   simp only [xi2f.t7,ix_lt,ix_nn,ix_nat,dec_t hk,dec_t h2,cond_true,xi11_eq _ _ (hr _ hkm) (hr _ him),Option.bind_some,hwr,wrap_succ (show k<9223372036854775807 by omega),xi1z_eq _ (hr _ him)]
   rw [drop_getD ([],0) hk,runW]
   by_cases hz:cmpL (d.getD k ([],0)).1 (d.getD i ([],0)).1=0
   · have : (cmpL (d.getD k ([], 0)).1 (d.getD i ([], 0)).1 == 0) = true := by rw [hz]; rfl
     rw [this,cond_true,if_pos hz]
     exact ihB i _ out (by omega) h2 h3 (by omega) (by omega)
   · have : (cmpL (d.getD k ([], 0)).1 (d.getD i ([], 0)).1 == 0) = false := beq_eq_false_iff_ne.2 hz
     rw [this,cond_false,if_neg hz]
     rw [drop_getD ([],0) hk,groupW] at hp
     exact hp
end GoV
