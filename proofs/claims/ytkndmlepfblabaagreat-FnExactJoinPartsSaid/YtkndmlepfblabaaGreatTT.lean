/- A part of the proof of FnExactJoinParts: an interpreter of the model over plain data, its soundness, and what it makes of the functions that the statement reaches. Conditions: none beyond what the given statement itself says. -/
import Derived.Test.YtkndmlepfblabaaGreatTS
set_option linter.unusedVariables false
set_option linter.unusedSimpArgs false
set_option linter.unnecessarySimpa false
set_option linter.unusedSectionVars false
/- Rising numbers; sets as bits. -/
namespace GoV
open Go
theorem ix_pos (i:Nat):decide ((i:Int) > (0:Int))=decide (0<i):=by
 by_cases h:0<i <;> simp [h] <;> omega
/-- One of the places of rising numbers below n. -/
def placeB (n:Int) (l:List Int) (k:Nat):Bool:=(decide (0≤l.getD k 0) && decide (l.getD k 0<n)) && (decide (k=0) || decide (l.getD (k - 1) 0<l.getD k 0))
def someB (n:Int) (l:List Int):Bool:=allR (placeB n l) 0 l.length
theorem some_rises {n:Int} {l:List Int} (h:someB n l=true):risesB (-1) l=true∧∀ x,x∈l→0≤x∧x<n:=by
 simp only [someB,allR_iff,placeB,Bool.and_eq_true,Bool.or_eq_true,decide_eq_true_eq] at h
 have key:∀ (r pre:List Int),l=pre ++ r→risesB (if pre=[] then -1 else pre.getLastD 0) r=true:=by
  intro r
  induction r with
  | nil => intro pre _; rfl
  | cons x r ih =>
    intro pre hl
    have hk:=h pre.length (Nat.zero_le _) (by rw [hl]; simp)
    have hx:l.getD pre.length 0=x:=by rw [hl]; exact getD_mid pre r x 0
    rw [hx] at hk
    have ih':=ih (pre ++ [x]) (by rw [hl]; simp)
    simp only [risesB,Bool.and_eq_true,decide_eq_true_eq]
    refine ⟨?_,by simpa using ih'⟩
    cases pre with
    | nil => simp; omega
    | cons y pre =>
      simp only [List.cons_ne_nil,if_false]
      have h2:l.getD ((y::pre).length - 1) 0=(y::pre).getLastD 0:=by
       rw [hl]
       simp only [List.getLastD_eq_getLast?,List.getLast?_eq_getElem?,List.getD]
       rw [List.getElem?_append_left (by simp)]
      rw [h2] at hk
      rcases hk.2 with h3 | h3
      · simp at h3
      · exact h3
 refine ⟨by simpa using key l [] rfl,fun x hx => ?_⟩
 obtain ⟨i,hi,rfl⟩:=List.mem_iff_getElem.1 hx
 have:=(h i (Nat.zero_le _) hi).1
 rwa [getD_of_lt hi] at this
theorem xi20_eq (x n:Int):xi20 x n=some (decide (0≤x) && decide (x<n)):=by
 refine xi20.eq x n ?_
 simp only [xi20.t]
 by_cases h:0≤x <;> simp [h]
theorem xi1f_eq (l:List Int) (n:Int) (hl:l.length≤1073741824):xi1f l n=some (someB n l):=by
 have key:∀ i,i≤l.length→xi1f.l2 l n l (l.length:Int) (i:Int)=some (allR (placeB n l) i l.length):=by
  refine upto ?_ ?_
  · exact xi1f.eq2 _ _ _ _ _ (by simp only [xi1f.t2,ix_lt,Nat.lt_irrefl,decide_false,cond_false,allR_end])
  · intro i hi ih
    refine xi1f.eq2 _ _ _ _ _ ?_
    rw [allR_step _ hi]
    simp only [xi1f.t2,ix_lt,ix_nn,ix_nat,ix_pos,dec_t hi,cond_true,xi20_eq,Option.bind_some,wrap_succ (show i<9223372036854775807 by omega),ih]
    simp only [placeB]
    cases e:(decide (0≤l.getD i 0) && decide (l.getD i 0<n))
    · simp
    · by_cases h0 : i = 0
      · subst h0; simp
      · have h1 : 0 < i := by omega
        have h2:i - 1<l.length:=by omega
        simp only [dec_t h1,dec_f h0,bang_t,cond_false,cond_true,wrap_pred h1 (by omega),ix_nn,ix_nat,dec_t h2,Bool.false_or,Bool.true_and]
        by_cases h3:l.getD i 0≤l.getD (i - 1) 0
        · have h4 : ¬ l.getD (i - 1) 0 < l.getD i 0 := by omega
          simp only [dec_t h3,dec_f h4,cond_true,Bool.false_and]
        · have h4 : l.getD (i - 1) 0 < l.getD i 0 := by omega
          simp only [dec_f h3,dec_t h4,cond_false,Bool.true_and]
 exact xi1f.eq l n (by simp only [xi1f.t]; exact key 0 (Nat.zero_le _))
theorem xs2k_eq (l:List Int) (n:Int) (hl:l.length≤1073741824):xs2k l n=some (someB n l):=by
 have key:∀ i,i≤l.length→xs2k.l2 l n l (l.length:Int) (i:Int)=some (allR (placeB n l) i l.length):=by
  refine upto ?_ ?_
  · exact xs2k.eq2 _ _ _ _ _ (by simp only [xs2k.t2,ix_lt,Nat.lt_irrefl,decide_false,cond_false,allR_end])
  · intro i hi ih
    refine xs2k.eq2 _ _ _ _ _ ?_
    rw [allR_step _ hi]
    simp only [xs2k.t2,ix_lt,ix_nn,ix_nat,ix_pos,dec_t hi,cond_true,wrap_succ (show i<9223372036854775807 by omega),ih]
    simp only [placeB]
    by_cases ha:0≤l.getD i 0
    · have ha' : ¬ l.getD i 0 < 0 := by omega
      by_cases hb:l.getD i 0<n
      · have hb' : ¬ l.getD i 0 ≥ n := by omega
        simp only [dec_f ha',dec_f hb',dec_t ha,dec_t hb,cond_false]
        by_cases h0:i=0
        · subst h0; simp
        · have h1 : 0 < i := by omega
          have h2:i - 1<l.length:=by omega
          simp only [dec_t h1,dec_f h0,cond_false,cond_true,wrap_pred h1 (by omega),ix_nn,ix_nat,dec_t h2,Bool.false_or,Bool.true_and]
          by_cases h3:l.getD (i - 1) 0 ≥ l.getD i 0
          · have h4 : ¬ l.getD (i - 1) 0 < l.getD i 0 := by omega
            simp only [dec_t h3,dec_f h4,cond_true,Bool.false_and]
          · have h4 : l.getD (i - 1) 0 < l.getD i 0 := by omega
            simp only [dec_f h3,dec_t h4,cond_false,Bool.true_and]
      · have hb' : l.getD i 0 ≥ n := by omega
        simp only [dec_f ha',dec_t hb',dec_f hb,cond_true,cond_false,Bool.and_false,Bool.false_and]
    · have ha' : l.getD i 0 < 0 := by omega
      simp only [dec_t ha',dec_f ha,cond_true,Bool.false_and]
 exact xs2k.eq l n (by simp only [xs2k.t]; exact key 0 (Nat.zero_le _))
theorem xi2n_eq (l:List Int) (hl:l.length≤1073741824) (hr:∀ x,x∈l→0≤x∧x<62):xi2n l=some ((maskN 0 l:Nat):Int):=by
 have key:∀ i,i≤l.length→∀ m:Nat,m<4611686018427387904→xi2n.l3 (m:Int) l (l.length:Int) (i:Int)=some ((maskN m (l.drop i):Nat):Int):=by
  refine upto ?_ ?_
  · intro m _
    exact xi2n.eq3 _ _ _ _ (by simp only [xi2n.t3,ix_lt,Nat.lt_irrefl,decide_false,cond_false,List.drop_length]; rfl)
  · intro i hi ih m hm
    have hx:=hr _ (getD_mem 0 hi)
    obtain ⟨x,hx'⟩:∃ x:Nat,l.getD i 0=(x:Int):=⟨(l.getD i 0).toNat,by omega⟩
    have hlt:x<62:=by omega
    have g:=ih (m ||| 2 ^ x) (or_lt hm (pow_lt hlt))
    refine xi2n.eq3 _ _ _ _ ?_
    rw [drop_getD 0 hi,maskN_cons]
    simp only [xi2n.t3,ix_lt,ix_nn,ix_nat,dec_t hi,cond_true,hx',one_shl hlt,or_nat hm (pow_lt hlt),wrap_succ (show i<9223372036854775807 by omega)]
    exact g
 exact xi2n.eq l (by simp only [xi2n.t]; exact key 0 (Nat.zero_le _) 0 (by omega))
end GoV

/- Sets as rising lists: numbers put to their place. -/
namespace GoV
open Go
theorem xs2s_eq (l:List Int) (n:Int) (hl:l.length≤1073741824):xs2s l n=some (l.any fun x => x == n):=by
 have key:∀ i,i≤l.length→xs2s.l2 n l (l.length:Int) (i:Int)=some ((l.drop i).any fun x => x == n):=by
  refine upto ?_ ?_
  · exact xs2s.eq2 _ _ _ _ (by simp only [xs2s.t2,ix_lt,Nat.lt_irrefl,decide_false,cond_false,List.drop_length,List.any_nil])
  · intro i hi ih
    refine xs2s.eq2 _ _ _ _ ?_
    rw [drop_getD 0 hi,List.any_cons]
    simp only [xs2s.t2,ix_lt,ix_nn,ix_nat,dec_t hi,cond_true,wrap_succ (show i<9223372036854775807 by omega),ih]
    cases (l.getD i 0 == n) <;> rfl
 exact xs2s.eq l n (by simp only [xs2s.t]; exact key 0 (Nat.zero_le _))
theorem xs2u_eq (l:List Int) (n:Int) (hl:l.length≤1073741824):xs2u l n=some (bif l.any (fun x => x == n) then l else putS n l):=by
 have key:∀ k,k≤l.length→xs2u.l4 l n (k:Int)=some (l.take k ++ (l.drop k).takeWhile (fun x => decide (x<n)) ++ [n] ++ (l.drop k).dropWhile (fun x => decide (x<n))):=by
  have fin : ∀ k, k ≤ l.length → (decide ((none : Option Int).getD (0 : Int) ≤ (k : Int)) = true ∧ decide ((k : Int) ≤ (l.length : Int)) = true ∧ decide ((l.take k).length ≤ 4294967296) = true ∧ decide ((l.take k).length + [n].length ≤ 4294967296) = true ∧
        decide ((l.take k ++ [n]).length+(l.drop k).length≤4294967296)=true):=by
   intro k hk
   refine ⟨by simp,by simpa using hk, ?_, ?_, ?_⟩ <;> simp <;> omega
  refine upto ?_ ?_
  · obtain ⟨f1, f2, f3, f4, f5⟩ := fin l.length (Nat.le_refl _)
    refine xs2u.eq4 _ _ _ ?_
    simp only [xs2u.t4,ix_lt,ix_nn,ix_nat,Nat.lt_irrefl,decide_false,cond_false,cond_true,Option.getD_none,Option.getD_some,Int.sub_zero,Int.toNat_zero,List.drop_zero,f2,f3,f4,f5]
    simp
  · intro k hk ih
    obtain ⟨f1,f2,f3,f4,f5⟩:=fin k (by omega)
    refine xs2u.eq4 _ _ _ ?_
    rw [drop_getD 0 hk]
    simp only [xs2u.t4,ix_lt,ix_nn,ix_nat,dec_t hk,cond_true,wrap_succ (show k<9223372036854775807 by omega),ih,List.takeWhile_cons,List.dropWhile_cons]
    by_cases h:l.getD k 0<n
    · simp only [dec_t h, cond_true, if_true]
      congr 1
      have:l.take (k+1)=l.take k ++ [l.getD k 0]:=by rw [List.take_add_one]; simp [List.getD,hk]
      rw [this]
      simp
    · simp only [dec_f h, cond_false, cond_true, Option.getD_none, Option.getD_some, Int.sub_zero, Int.toNat_zero, List.drop_zero, ix_nn, ix_nat, f2, f3, f4, f5, Bool.false_eq_true, if_false]
      simp only [List.append_nil]
      rw [drop_getD 0 hk]
 refine xs2u.eq l n ?_
 simp only [xs2u.t,xs2s_eq l n hl,Option.bind_some]
 cases h:l.any (fun x => x == n) with
 | true => rfl
 | false =>
   simp only [cond_false]
   have:=key 0 (Nat.zero_le _)
   simpa [putS] using this
/-- A number put into a set that is told as a rising list. -/
theorem l7Put_bits {m x:Nat} (hx:x<62):xs2u (bitsF m 0 62) (x:Int)=some (bitsF (m ||| 2 ^ x) 0 62):=by
 have hl:=bitsF_len m 0 62
 rw [xs2u_eq _ _ (by omega)]
 cases h:m.testBit x with
 | true =>
   have:(bitsF m 0 62).any (fun y => y == (x:Int))=true:=by
    rw [List.any_eq_true]
    exact ⟨(x:Int),bitsF_mem.2 ⟨x,rfl,by omega,by omega,h⟩,by simp⟩
   rw [this,or_same h]
   rfl
 | false =>
   have:(bitsF m 0 62).any (fun y => y == (x:Int))=false:=by
    rw [Bool.eq_false_iff]
    intro ha
    rw [List.any_eq_true] at ha
    obtain ⟨y,hy,he⟩:=ha
    obtain ⟨k,rfl,_,_,hk⟩:=bitsF_mem.1 hy
    have:k=x:=by
        have he2:(k:Int)=(x:Int):=by simpa using he
        omega
    rw [this,h] at hk
    cases hk
   rw [this]
   simp only [cond_false]
   rw [putS_bits 62 0 m x (by omega) (by omega) h]
end GoV

/- Parts of columns: alike for the program and its specification. -/
namespace GoV
open Go
def partB (c:Int) (p:List Int):Bool:=someB c p && !((p.length:Int) == 0)
def unionM (m:Nat) (ps:List (List Int)):Nat:=ps.foldl (fun m p => maskN m p) m
def partsB (c:Int) (ps:List (List Int)):Bool:=((inB 1 6 c && inB 1 8 (ps.length:Int)) && ps.all (partB c)) && ((unionM 0 ps:Nat):Int) == (2:Int) ^ c.toNat - 1
theorem partB_fit {c:Int} {p:List Int} (h:partB c p=true):someB c p=true∧p≠[]:=by
 simp only [partB,Bool.and_eq_true] at h
 refine ⟨h.1,fun e => ?_⟩
 rw [e] at h
 exact absurd h.2 (by simp)
theorem maskN_below {n : Nat} : ∀ {l : List Int} {m : Nat}, m < 2 ^ n → (∀ x, x ∈ l → 0 ≤ x ∧ x < (n : Int)) → maskN m l < 2 ^ n
 | [],m,hm,_ => hm
 | x::l,m,hm,h => by
   rw [maskN_cons]
   have hx:=h x (by simp)
   have h1:2 ^ x.toNat<2 ^ n:=Nat.pow_lt_pow_right (by omega) (by omega)
   exact maskN_below (Nat.or_lt_two_pow hm h1) fun y hy => h y (List.mem_cons_of_mem _ hy)
theorem maskN_acc' : ∀ (l : List Int) (m : Nat), maskN m l = m ||| maskN 0 l
 | [],m => by simp [maskN]
 | x::l,m => by rw [maskN_cons,maskN_cons,maskN_acc' l (m ||| 2 ^ x.toNat),maskN_acc' l (0 ||| 2 ^ x.toNat),Nat.zero_or,Nat.or_assoc]
theorem full_set:∀ c:Fin 7,∀ m:Fin 64,m.val<2 ^ c.val→((bitsF m.val 0 62).length=c.val↔m.val=2 ^ c.val - 1):=by decide
theorem full_bits {c:Int} {m:Nat} (h1:1≤c) (h6:c≤6) (hm:m<2 ^ c.toNat):(((bitsF m 0 62).length:Int) == c)=(((m:Nat):Int) == (2:Int) ^ c.toNat - 1):=by
 have h7:c.toNat<7:=by omega
 have h64:(2:Nat) ^ c.toNat≤64:=Nat.pow_le_pow_right (by omega) (show c.toNat≤6 by omega)
 have k:=full_set ⟨c.toNat,h7⟩ ⟨m,by omega⟩ hm
 simp only at k
 have hp:(1:Nat)≤2 ^ c.toNat:=Nat.one_le_two_pow
 have e:(2:Int) ^ c.toNat=((2 ^ c.toNat:Nat):Int):=by simp
 rw [e]
 refine bool_eq ?_
 rw [beq_iff_eq,beq_iff_eq]
 constructor
 · intro h; have:=k.1 (by omega); omega
 · intro h; have:=k.2 (by omega); omega
section
variable {c:Int} {ps:List (List Int)} (hl:ps.length≤1073741824) (hr:∀ p,p∈ps→p.length≤1073741824)
include hl hr
theorem xs1i_eq (hs:(ps.map List.length).sum≤1073741824):xs1i ps c=some (partsB c ps):=by
 refine xs1i.eq ps c ?_
 simp only [xs1i.t]
 by_cases hc:1≤c∧c≤6
 · have hfit:∀ p,partB c p=true→∀ x,x∈p→0≤x∧x<62:=fun p hp x hx => by
    have:=(some_rises (partB_fit hp).1).2 x hx
    omega
   have inner:∀ (p:List Int) (i m:Nat) (b:Bool),p.length≤1073741824→i<ps.length→partB c p=true→xs1i.l3 ps c (bitsF (maskN m p) 0 62) ps (ps.length:Int) ((i+1:Nat):Int)=some b→xs1i.l8 ps c (bitsF m 0 62) ps (ps.length:Int) (i:Int) p (p.length:Int) 0=some b:=by
    intro p i m b hpl hi hp hb
    refine fold_loop (σ:=Nat) p 0 (fun m j => xs1i.l8 ps c (bitsF m 0 62) ps (ps.length:Int) (i:Int) p (p.length:Int) (j:Int)) (fun m x => m ||| 2 ^ x.toNat) (fun _ => True) (fun m => xs1i.l3 ps c (bitsF m 0 62) ps (ps.length:Int) ((i+1:Nat):Int)) ?_ (fun _ _ _ _ => trivial) ?_ m b trivial hb
    · intro m b _ hb
      exact xs1i.eq8 _ _ _ _ _ _ _ _ _ (by simp only [xs1i.t8,ix_lt,Nat.lt_irrefl,decide_false,cond_false,wrap_succ (show i<9223372036854775807 by omega)]; exact hb)
    · intro m j b hj _ hb
      have hx:=hfit p hp _ (getD_mem 0 hj)
      obtain ⟨x,hxe⟩:∃ x:Nat,p.getD j 0=(x:Int):=⟨(p.getD j 0).toNat,by omega⟩
      refine xs1i.eq8 _ _ _ _ _ _ _ _ _ ?_
      rw [hxe,Int.toNat_natCast] at hb
      simp only [xs1i.t8,ix_lt,ix_nn,ix_nat,dec_t hj,cond_true,hxe,l7Put_bits (m:=m) (show x<62 by omega),Option.bind_some,wrap_succ (show j<9223372036854775807 by omega)]
      exact hb
   have e:∀ m:Nat,((bitsF m 0 62).length:Int)≤62:=fun m => by have:=bitsF_len m 0 62; omega
   have key:∀ i,i≤ps.length→∀ m:Nat,m<2 ^ c.toNat→xs1i.l3 ps c (bitsF m 0 62) ps (ps.length:Int) (i:Int)=some ((ps.drop i).all (partB c) && (inB 1 8 (ps.length:Int) && ((unionM m (ps.drop i):Nat):Int) == (2:Int) ^ c.toNat - 1)):=by
    refine upto ?_ ?_
    · intro m hm
      rw [List.drop_length]
      refine xs1i.eq3 _ _ _ _ _ _ ?_
      have hcb:inB 1 6 c=true:=inB_iff.2 hc
      simp only [xs1i.t3,ix_lt,Nat.lt_irrefl,decide_false,cond_false,xs2v_eq,Option.bind_some,hcb,cond_true,List.all_nil,Bool.true_and,unionM,List.foldl_nil,full_bits hc.1 hc.2 hm]
      cases inB 1 8 (ps.length:Int) <;> rfl
    · intro i hi ih m hm
      have hpl:=hr _ (getD_mem [] hi)
      rw [drop_getD [] hi,List.all_cons]
      refine xs1i.eq3 _ _ _ _ _ _ ?_
      simp only [xs1i.t3,ix_lt,ix_nn,ix_nat,dec_t hi,cond_true,xs2k_eq _ _ hpl,Option.bind_some]
      cases h1:someB c (ps.getD i [])
      · simp only [partB,h1,Bool.false_and]; rfl
      · cases h2 : ((ps.getD i []).length : Int) == 0
        · have hp : partB c (ps.getD i []) = true := by simp only [partB, h1, h2]; rfl
          rw [hp]
          simp only [bang_t,cond_false]
          refine inner _ i m _ hpl hi hp ?_
          have hm2:maskN m (ps.getD i [])<2 ^ c.toNat:=maskN_below hm fun x hx => by
            have:=(some_rises h1).2 x hx
            omega
          rw [ih _ hm2]
          rfl
        · have hp : partB c (ps.getD i []) = false := by simp only [partB, h1, h2]; rfl
          simp only [hp,Bool.false_and,bang_t,cond_false,cond_true]
   have k:=key 0 (Nat.zero_le _) 0 (Nat.two_pow_pos _)
   have hcb:inB 1 6 c=true:=inB_iff.2 hc
   have e0:bitsF 0 0 62=[]:=bitsF_none (by simp)
   rw [e0,List.drop_zero] at k
   refine Eq.trans k ?_
   rw [partsB,hcb]
   cases ps.all (partB c) <;> cases inB 1 8 (ps.length:Int) <;> rfl
 · -- out of bounds: whatever the parts are
   have hcb:inB 1 6 c=false:=by
    cases h:inB 1 6 c with
    | false => rfl
    | true => exact absurd (inB_iff.1 h) hc
   have hP:partsB c ps=false:=by rw [partsB,hcb]; rfl
   rw [hP]
   have step8 : ∀ (p : List Int) (i T : Nat) (b : Bool), T ≤ 1073741824 → p.length ≤ 1073741824 → i < ps.length → (∀ acc : List Int, acc.length ≤ T → xs1i.l3 ps c acc ps (ps.length : Int) ((i + 1 : Nat) : Int) = some b) →
        ∀ j,j≤p.length→∀ acc:List Int,acc.length+(p.length - j)≤T→xs1i.l8 ps c acc ps (ps.length:Int) (i:Int) p (p.length:Int) (j:Int)=some b:=by
    intro p i T b hT hpl hi hb
    refine upto ?_ ?_
    · intro acc ha
      exact xs1i.eq8 _ _ _ _ _ _ _ _ _ (by simp only [xs1i.t8,ix_lt,Nat.lt_irrefl,decide_false,cond_false,wrap_succ (show i<9223372036854775807 by omega)]; exact hb acc (by omega))
    · intro j hj ih acc ha
      refine xs1i.eq8 _ _ _ _ _ _ _ _ _ ?_
      simp only [xs1i.t8,ix_lt,ix_nn,ix_nat,dec_t hj,cond_true,xs2u_eq acc (p.getD j 0) (by omega),Option.bind_some,wrap_succ (show j<9223372036854775807 by omega)]
      refine ih _ ?_
      have hput:(putS (p.getD j 0) acc).length=acc.length+1:=by
       have h:=congrArg List.length (List.takeWhile_append_dropWhile (p:=fun x => decide (x<p.getD j 0)) (l:=acc))
       rw [List.length_append] at h
       simp only [putS,List.length_append,List.length_singleton]
       omega
      cases acc.any (fun x => x == p.getD j 0)
      · simp only [cond_false,hput]; omega
      · simp only [cond_true]; omega
   have key:∀ i,i≤ps.length→∀ acc:List Int,acc.length+((ps.drop i).map List.length).sum≤1073741824→xs1i.l3 ps c acc ps (ps.length:Int) (i:Int)=some false:=by
    refine upto ?_ ?_
    · intro acc _
      refine xs1i.eq3 _ _ _ _ _ _ ?_
      simp only [xs1i.t3,ix_lt,Nat.lt_irrefl,decide_false,cond_false,xs2v_eq,Option.bind_some,hcb]
    · intro i hi ih acc ha
      have hpl:=hr _ (getD_mem [] hi)
      rw [drop_getD [] hi,List.map_cons,List.sum_cons] at ha
      refine xs1i.eq3 _ _ _ _ _ _ ?_
      simp only [xs1i.t3,ix_lt,ix_nn,ix_nat,dec_t hi,cond_true,xs2k_eq _ _ hpl,Option.bind_some]
      cases h1:someB c (ps.getD i [])
      · rfl
      · cases h2 : ((ps.getD i []).length : Int) == 0
        · simp only [bang_t, cond_false]
          exact step8 _ i (acc.length+(ps.getD i []).length) false (by omega) hpl hi (fun acc' h' => ih acc' (by omega)) 0 (Nat.zero_le _) acc (by omega)
        · rfl
   exact key 0 (Nat.zero_le _) [] (by rw [List.drop_zero]; simpa using hs)
theorem xi1c_eq:xi1c ps c=some (partsB c ps):=by
 refine xi1c.eq ps c ?_
 simp only [xi1c.t,xi2g_eq,Option.bind_some]
 cases h6:inB 1 6 c with
 | false => rw [partsB,h6]; rfl
 | true =>
   cases h8:inB 1 8 (ps.length:Int) with
   | false => rw [partsB,h6,h8]; rfl
   | true =>
     have hc:=inB_iff.1 h6
     simp only [bang_t,cond_false]
     have key:∀ i,i≤ps.length→∀ m:Nat,m<2 ^ c.toNat→xi1c.l5 c (m:Int) ps (ps.length:Int) (i:Int)=some ((ps.drop i).all (partB c) && ((unionM m (ps.drop i):Nat):Int) == (2:Int) ^ c.toNat - 1):=by
        have hsm:∀ m:Nat,m<2 ^ c.toNat→m<4611686018427387904:=fun m hm => by
         have:(2:Nat) ^ c.toNat≤64:=Nat.pow_le_pow_right (by omega) (show c.toNat≤6 by omega)
         omega
        have hwhole:xi2o c=some ((2:Int) ^ c.toNat - 1):=by
         refine xi2o.eq c ?_
         have h0:0≤c:=by omega
         have hlt:c.toNat<62:=by omega
         have h64:(2:Nat) ^ c.toNat≤64:=Nat.pow_le_pow_right (by omega) (show c.toNat≤6 by omega)
         have hp:(1:Nat)≤2 ^ c.toNat:=Nat.one_le_two_pow
         have e:(2:Int) ^ c.toNat=((2 ^ c.toNat:Nat):Int):=by simp
         simp only [xi2o.t,dec_t h0,cond_true,one_shl hlt]
         rw [e,wrap_id (by omega) (by omega)]
        refine upto ?_ ?_
        · intro m hm
          rw [List.drop_length]
          refine xi1c.eq5 _ _ _ _ _ ?_
          simp only [xi1c.t5,ix_lt,Nat.lt_irrefl,decide_false,cond_false,hwhole,Option.bind_some,List.all_nil,Bool.true_and,unionM,List.foldl_nil]
        · intro i hi ih m hm
          have hpl:=hr _ (getD_mem [] hi)
          rw [drop_getD [] hi,List.all_cons]
          refine xi1c.eq5 _ _ _ _ _ ?_
          have e1:xi2d (ps.getD i []) c=some (partB c (ps.getD i [])):=by
           refine xi2d.eq _ _ ?_
           simp only [xi2d.t,xi1f_eq _ _ hpl,Option.bind_some,partB]
           by_cases h0:((ps.getD i []).length:Int) > 0
           · have h1 : (((ps.getD i []).length : Int) == 0) = false := beq_eq_false_iff_ne.2 (by omega)
             simp only [dec_t h0,cond_true,h1,bang_f,Bool.and_true]
           · have h1 : (((ps.getD i []).length : Int) == 0) = true := beq_iff_eq.2 (by omega)
             simp only [dec_f h0,cond_false,h1,bang_t,Bool.and_false]
          simp only [xi1c.t5,ix_lt,ix_nn,ix_nat,dec_t hi,cond_true,e1,Option.bind_some]
          cases hp:partB c (ps.getD i [])
          · rfl
          · have h1 := (partB_fit hp).1
            have hin:=(some_rises h1).2
            have hm2:maskN m (ps.getD i [])<2 ^ c.toNat:=maskN_below hm fun x hx => by have:=hin x hx; omega
            have e2:=xi2n_eq (ps.getD i []) hpl (fun x hx => by have:=hin x hx; omega)
            have hk:maskN 0 (ps.getD i [])<2 ^ c.toNat:=maskN_below (Nat.two_pow_pos _) fun x hx => by have:=hin x hx; omega
            have e3:maskN m (ps.getD i [])=m ||| maskN 0 (ps.getD i []):=maskN_acc' _ _
            simp only [bang_t,cond_false,e2,Option.bind_some,or_nat (hsm _ hm) (hsm _ hk),wrap_succ (show i<9223372036854775807 by omega),Bool.true_and]
            rw [← e3,ih _ hm2]
            rfl
     have k:=key 0 (Nat.zero_le _) 0 (Nat.two_pow_pos _)
     rw [List.drop_zero] at k
     refine Eq.trans k ?_
     rw [partsB,h6,h8]
     rfl
end
end GoV

/- JoinParts: the program's answer is the specification's. -/
namespace GoV
open Go
theorem mask_bit : ∀ (l : List Int) (m k : Nat), (maskN m l).testBit k = (m.testBit k || l.any fun x => decide (x.toNat = k))
 | [],m,k => by simp [maskN]
 | x::l,m,k => by
   have e:maskN m (x::l)=maskN (m ||| 2 ^ x.toNat) l:=rfl
   rw [e,mask_bit l,Nat.testBit_or,Nat.testBit_two_pow,List.any_cons,Bool.or_assoc]
theorem union_bit : ∀ (ps : List (List Int)) (m k : Nat), (unionM m ps).testBit k = (m.testBit k || ps.any fun p => p.any fun x => decide (x.toNat = k))
 | [],m,k => by simp [unionM]
 | p::ps,m,k => by
   have e:unionM m (p::ps)=unionM (maskN m p) ps:=rfl
   rw [e,union_bit ps,mask_bit,List.any_cons,Bool.or_assoc]
theorem some_told {c:Nat} {l:List Int} (h:someB (c:Int) l=true):ToldOK c l:=by
 have h1:=allR_iff.1 h
 have mono:∀ j i,i<j→j<l.length→l.getD i 0<l.getD j 0:=by
  intro j
  induction j with
  | zero => intro i h; omega
  | succ j ih =>
    intro i hi hj
    have:=h1 (j+1) (Nat.zero_le _) hj
    simp only [placeB,Bool.and_eq_true,Bool.or_eq_true,decide_eq_true_eq,Nat.add_sub_cancel] at this
    have h2:l.getD j 0<l.getD (j+1) 0:=this.2.resolve_left (by omega)
    by_cases e:i=j
    · rw [e]; exact h2
    · exact Int.lt_trans (ih i (by omega) (by omega)) h2
 refine ⟨List.pairwise_iff_getElem.2 fun i j hi hj hij e => ?_,(some_rises h).2⟩
 have:=mono j i hij hj
 rw [getD_of_lt hi,getD_of_lt hj,e] at this
 omega
theorem parts_facts {c:Int} {ps:List (List Int)} (h:partsB c ps=true):(1≤c∧c≤6)∧(1≤ps.length∧ps.length≤8)∧(∀ p,p∈ps→ToldOK c.toNat p)∧∀ k:Nat,k<c.toNat→∃ p,p∈ps∧(k:Int)∈p:=by
 simp only [partsB,Bool.and_eq_true,inB_iff,List.all_eq_true,beq_iff_eq] at h
 obtain ⟨⟨⟨h1,h2⟩,h3⟩,h4⟩:=h
 have hc:((c.toNat:Nat):Int)=c:=by omega
 have ht:∀ p,p∈ps→ToldOK c.toNat p:=fun p hp => some_told (by rw [hc]; exact (partB_fit (h3 p hp)).1)
 refine ⟨h1,⟨by omega,by omega⟩,ht,fun k hk => ?_⟩
 have e:unionM 0 ps=2 ^ c.toNat - 1:=by
  have h5:(2:Int) ^ c.toNat=((2 ^ c.toNat:Nat):Int):=by simp
  have h6:=Nat.two_pow_pos c.toNat
  rw [h5] at h4
  omega
 have hb:=union_bit ps 0 k
 rw [e,Nat.testBit_two_pow_sub_one,decide_eq_true hk,Nat.zero_testBit,Bool.false_or] at hb
 obtain ⟨p,hp,hx⟩:=List.any_eq_true.1 hb.symm
 obtain ⟨x,hx,e2⟩:=List.any_eq_true.1 hx
 have e2:=of_decide_eq_true e2
 have:=(ht p hp).2 x hx
 exact ⟨p,hp,by rw [← e2,show ((x.toNat:Nat):Int)=x by omega]; exact hx⟩
theorem joinR_has {c:Nat} {a t:List Int} (ht:ToldOK c t):(∀ x,x∈a→x∈joinR a t (pairsP a t))∧∀ x,x∈t→x∈joinR a t (pairsP a t):=by
 refine ⟨fun x hx => List.mem_append.2 (.inl hx),fun x hx => ?_⟩
 by_cases h:x∈a
 · exact List.mem_append.2 (.inl h)
 · have hj := List.idxOf_lt_length_of_mem hx
   have e1:t.getD (t.idxOf x) 0=x:=by rw [getD_of_lt hj,List.getElem_idxOf]
   exact List.mem_append.2 (.inr (List.mem_map.2 ⟨_,unp_mem.2 ⟨_,hj,by rw [pair_any ht.1 hj,e1]; exact decide_eq_false h,rfl⟩,by rw [Int.toNat_natCast]; exact e1⟩))
theorem runJ_has {c : Nat} : ∀ (l : List (List Int × List WRow)) (a : List Int) (A : List WRow) (a' : List Int) (A' : List WRow), (∀ p, p ∈ l → ToldOK c p.1) → runJ l a A = some (a', A') → (∀ x, x ∈ a → x ∈ a') ∧ ∀ p, p ∈ l → ∀ x, x ∈ p.1 → x ∈ a'
 | [],a,A,a',A',_,h => by
   rw [runJ] at h
   obtain ⟨rfl,rfl⟩:=Prod.mk.inj (Option.some.inj h)
   exact ⟨fun x hx => hx,fun p hp => by cases hp⟩
 | p::l,a,A,a',A',ht,h => by
   rw [runJ] at h
   obtain ⟨j1,j2⟩:=joinR_has (a:=a) (ht p (by simp))
   cases hd:decide (((putsL [] (jnL A p.2 (pairsP a p.1))).length:Int) > 60) with
   | true => rw [hd] at h; cases h
   | false =>
     rw [hd,cond_false] at h
     obtain ⟨k1,k2⟩:=runJ_has l _ _ _ _ (fun q hq => ht q (by simp [hq])) h
     refine ⟨fun x hx => k1 x (j1 x hx),fun q hq x hx => ?_⟩
     rcases List.mem_cons.1 hq with rfl | hq
     · exact k1 x (j2 x hx)
     · exact k2 q hq x hx
theorem join_first {c:Nat} {t:List Int} {T:List WRow} (p:PartOK c t T):joinR [] t (pairsP [] t)=t∧putsL [] (jnL [([],1)] T (pairsP [] t))=T:=by
 have e0:pairsP [] t=[]:=rfl
 have er:∀ y:List Int,joinR [] y []=y:=fun y => by
  show [] ++ pickR y (unpL y.length [])=y
  have eu:unpL y.length []=(List.range y.length).map fun k:Nat => (k:Int):=by
   unfold unpL
   induction List.range y.length with
   | nil => rfl
   | cons k l ih => rw [List.flatMap_cons,List.map_cons,ih]; rfl
  rw [eu,List.nil_append]
  refine List.ext_getElem (by simp [pickR]) fun i h1 h2 => ?_
  simp [pickR,List.getD_eq_getElem?_getD,h2]
 have ej:jnL [([],1)] T []=T:=by
  show (T.flatMap (joinW [] ([],1))) ++ []=T
  rw [List.append_nil]
  have:∀ U:List WRow,(∀ y,y∈U→y∈T)→U.flatMap (joinW [] ([],1))=U:=by
   intro U
   induction U with
   | nil => intro _; rfl
   | cons y U ih =>
     intro hU
     rw [List.flatMap_cons,ih (fun z hz => hU z (by simp [hz]))]
     have h1:=(p.rows y (hU y (by simp))).2.2
     have e:joinW [] ([],1) y=[y]:=by
         show [(joinR [] y.1 [],IntKind.i64.wrap (1 * y.2))]=[y]
         rw [er,h1]
         show [(y.1,(1:Int))]=[y]
         rw [← h1]
     rw [e]; rfl
  exact this T fun y hy => hy
 rw [e0,ej]
 refine ⟨er t, ?_⟩
 obtain ⟨a1,a2,a3,_⟩:=putsL_ok T (l:=[]) .nil (fun w hw => by cases hw)
 exact norm_uniq a1 a2 p.srt (fun w hw => by rw [(p.rows w hw).2.2]; omega) fun r => by rw [a3]; simp [wsum]
/-! ## What is looked at first -/
def onceB (l:List WRow):Bool:=l.all fun w => w.2 == 1
def okJ (tabs:List (Int × List WRow)) (ps:List (List Int)) (i:Nat):Bool:=(goodT (tabs.getD i (0,[])).1 (tabs.getD i (0,[])).2 && onceB (tabs.getD i (0,[])).2) && ((tabs.getD i (0,[])).1 == ((ps.getD i []).length:Int))
theorem spec_plain_eq (c:Int) (l:List WRow) (hl:l.length≤1073741824):xs2a c l=some (onceB l):=by
 refine xs2a.eq c l ?_
 simp only [xs2a.t]
 have:=all_loop l ([],0) (fun i => xs2a.l2 l (l.length:Int) (i:Int)) (fun w => w.2 == 1) false true ?_ ?_ ?_
 · refine Eq.trans this ?_
   unfold onceB
   cases l.all (fun w => w.2 == 1) <;> rfl
 · exact xs2a.eq2 _ _ _ (by simp only [xs2a.t2,ix_lt,Nat.lt_irrefl,decide_false,cond_false])
 · intro i hi hb
   exact xs2a.eq2 _ _ _ (by simp only [xs2a.t2,ix_lt,ix_nn,ix_nat,dec_t hi,cond_true,bne,hb,Bool.not_false])
 · intro i b hi hb hc
   refine xs2a.eq2 _ _ _ ?_
   simp only [xs2a.t2,ix_lt,ix_nn,ix_nat,dec_t hi,cond_true,bne,hb,Bool.not_true,cond_false,wrap_succ (show i<9223372036854775807 by omega)]
   exact hc
theorem impl_once_eq (c:Int) (l:List WRow) (hl:l.length≤1073741824) (hr:∀ w,w∈l→w.1.length≤1073741824):xi2c c l=some (goodT c l && onceB l):=by
 have e:=xi1d_eq (c:=c) hl hr
 have e2:=xi0h_ok l (fun w => w.2 == 1) (by omega) (fun w _ => xi1n.eq w.1 w.2 rfl)
 refine xi2c.eq c l ?_
 simp only [xi2c.t,e,e2,Option.bind_some,onceB]
 cases goodT c l <;> rfl
section
variable {tabs:List (Int × List WRow)} {ps:List (List Int)} {c:Int} (hl:tabs.length=ps.length) (hn:tabs.length≤2000000) (hr:∀ t,t∈tabs→t.2.length≤1048576∧∀ w,w∈t.2→w.1.length≤1048576)
include hl hn hr
theorem spec_heads {S : List WRow} : (allR (okJ tabs ps) 0 tabs.length = true → ∀ b, xs1k.l16 ps c 0 [] S tabs (tabs.length : Int) 0 = some b → xs1k.l10 tabs ps c 0 [] S tabs (tabs.length : Int) 0 = some b) ∧
 (allR (okJ tabs ps) 0 tabs.length=false→xs1k.l10 tabs ps c 0 [] S tabs (tabs.length:Int) 0=some (0,[],false)):=by
 have step:∀ i,i<tabs.length→∀ b,(okJ tabs ps i=false→b=(0,[],false))→(okJ tabs ps i=true→xs1k.l10 tabs ps c 0 [] S tabs (tabs.length:Int) ((i+1:Nat):Int)=some b)→xs1k.l10 tabs ps c 0 [] S tabs (tabs.length:Int) (i:Int)=some b:=by
  intro i hi b hf ht
  have hm:=hr _ (getD_mem ((0,[]):Int × List WRow) hi)
  have gp:i<ps.length:=by omega
  have e:=xs1j_eq (c:=(tabs.getD i (0,[])).1) (l:=(tabs.getD i (0,[])).2) (by omega) (fun w hw => by have:=hm.2 w hw; omega)
  have e9:=spec_plain_eq (tabs.getD i (0,[])).1 (tabs.getD i (0,[])).2 (by omega)
  refine xs1k.eq10 _ _ _ _ _ _ _ _ _ ?_
  simp only [xs1k.t10,ix_lt,ix_nn,ix_nat,dec_t hi,dec_t gp,cond_true,e,e9,Option.bind_some,bne,wrap_succ (show i<9223372036854775807 by omega)]
  simp only [okJ] at hf ht
  cases h1:goodT (tabs.getD i (0,[])).1 (tabs.getD i (0,[])).2 with
  | false => rw [h1] at hf; simp only [bang_f,cond_true,hf rfl]
  | true =>
    cases h2:onceB (tabs.getD i (0,[])).2 with
    | false => rw [h1,h2] at hf; simp only [bang_t,bang_f,cond_true,cond_false,hf rfl]
    | true =>
      cases h3:(tabs.getD i (0,[])).1 == ((ps.getD i []).length:Int) with
      | false => rw [h1,h2,h3] at hf; simp only [bang_t,bang_f,cond_true,cond_false,hf rfl]
      | true => rw [h1,h2,h3] at ht; simp only [bang_t,cond_false]; exact ht rfl
 constructor
 · intro h b hb
   have:∀ i,i≤tabs.length→xs1k.l10 tabs ps c 0 [] S tabs (tabs.length:Int) (i:Int)=some b:=by
    refine upto ?_ ?_
    · exact xs1k.eq10 _ _ _ _ _ _ _ _ _ (by simp only [xs1k.t10,ix_lt,Nat.lt_irrefl,decide_false,cond_false]; exact hb)
    · intro i hi ih
      have hk:=allR_iff.1 h i (Nat.zero_le _) hi
      exact step i hi b (fun h => by rw [hk] at h; cases h) (fun _ => ih)
   exact this 0 (Nat.zero_le _)
 · intro h
   have:∀ i,i≤tabs.length→allR (okJ tabs ps) i tabs.length=false→xs1k.l10 tabs ps c 0 [] S tabs (tabs.length:Int) (i:Int)=some (0,[],false):=by
    refine upto ?_ ?_
    · intro h; rw [allR_end] at h; cases h
    · intro i hi ih h
      rw [allR_step _ hi] at h
      refine step i hi _ (fun _ => rfl) (fun hk => ih ?_)
      rw [hk,Bool.true_and] at h
      exact h
   exact this 0 (Nat.zero_le _) h
theorem impl_heads (h0 : 0 < tabs.length) : (allR (okJ tabs ps) 0 tabs.length = true → ∀ b, xi1e.l11 ps c 0 [] (tabs.getD 0 (0, [])).1 (tabs.getD 0 (0, [])).2 (ps.getD 0 []) (tabs.drop 1) ((tabs.drop 1).length : Int) 0 = some b → xi1e.l4 tabs ps c 0 [] tabs (tabs.length : Int) 0 = some b) ∧
 (allR (okJ tabs ps) 0 tabs.length=false→xi1e.l4 tabs ps c 0 [] tabs (tabs.length:Int) 0=some (0,[],false)):=by
 have step:∀ i,i<tabs.length→∀ b,(okJ tabs ps i=false→b=(0,[],false))→(okJ tabs ps i=true→xi1e.l4 tabs ps c 0 [] tabs (tabs.length:Int) ((i+1:Nat):Int)=some b)→xi1e.l4 tabs ps c 0 [] tabs (tabs.length:Int) (i:Int)=some b:=by
  intro i hi b hf ht
  have hm:=hr _ (getD_mem ((0,[]):Int × List WRow) hi)
  have gp:i<ps.length:=by omega
  have e:=impl_once_eq (tabs.getD i (0,[])).1 (tabs.getD i (0,[])).2 (by omega) (fun w hw => by have:=hm.2 w hw; omega)
  refine xi1e.eq4 _ _ _ _ _ _ _ _ ?_
  simp only [xi1e.t4,ix_lt,ix_nn,ix_nat,dec_t hi,dec_t gp,cond_true,e,Option.bind_some,bne,wrap_succ (show i<9223372036854775807 by omega)]
  simp only [okJ] at hf ht
  cases h1:goodT (tabs.getD i (0,[])).1 (tabs.getD i (0,[])).2 && onceB (tabs.getD i (0,[])).2 with
  | false => rw [h1] at hf; simp only [bang_f,cond_true,hf rfl]
  | true =>
    cases h3:(tabs.getD i (0,[])).1 == ((ps.getD i []).length:Int) with
    | false => rw [h1,h3] at hf; simp only [bang_t,bang_f,cond_true,cond_false,hf rfl]
    | true => rw [h1,h3] at ht; simp only [bang_t,cond_false]; exact ht rfl
 constructor
 · intro h b hb
   have:∀ i,i≤tabs.length→xi1e.l4 tabs ps c 0 [] tabs (tabs.length:Int) (i:Int)=some b:=by
    refine upto ?_ ?_
    · have g1 : Int.toNat 0 < tabs.length := h0
      have g2:Int.toNat 0<ps.length:=by rw [← hl]; exact h0
      have g3:(1:Int)≤(tabs.length:Int):=by omega
      exact xi1e.eq4 _ _ _ _ _ _ _ _ (by simp only [xi1e.t4,ix_lt,Nat.lt_irrefl,decide_false,cond_false,dec_t g1,dec_t g2,Option.getD_some,dec_t g3,cond_true]; exact hb)
    · intro i hi ih
      have hk:=allR_iff.1 h i (Nat.zero_le _) hi
      exact step i hi b (fun h => by rw [hk] at h; cases h) (fun _ => ih)
   exact this 0 (Nat.zero_le _)
 · intro h
   have:∀ i,i≤tabs.length→allR (okJ tabs ps) i tabs.length=false→xi1e.l4 tabs ps c 0 [] tabs (tabs.length:Int) (i:Int)=some (0,[],false):=by
    refine upto ?_ ?_
    · intro h; rw [allR_end] at h; cases h
    · intro i hi ih h
      rw [allR_step _ hi] at h
      refine step i hi _ (fun _ => rfl) (fun hk => ih ?_)
      rw [hk,Bool.true_and] at h
      exact h
   exact this 0 (Nat.zero_le _) h
end
theorem spec_blank {tabs : List (Int × List WRow)} {ps : List (List Int)} {c : Nat} (hc : c ≤ 6) {b : Int × List WRow × Bool} (hb : xs1k.l10 tabs ps (c : Int) 0 [] [(List.replicate c 100001, 1)] tabs (tabs.length : Int) 0 = some b) :
 ∀ (n i:Nat),i+n=c→xs1k.l5 tabs ps (c:Int) 0 [] (List.replicate i 100001) (i:Int)=some b
 | 0,i,hi => by
   have e:i=c:=by omega
   subst e
   exact xs1k.eq5 _ _ _ _ _ _ _ (by simp only [xs1k.t5,ix_lt,Nat.lt_irrefl,decide_false,cond_false]; exact hb)
 | n+1,i,hi => by
   have g:i<c:=by omega
   have g2:(List.replicate i (100001:Int)).length+[(100001:Int)].length≤4294967296:=by simp only [List.length_replicate,List.length_cons,List.length_nil]; omega
   have ih:=spec_blank hc hb n (i+1) (by omega)
   rw [List.replicate_succ'] at ih
   refine xs1k.eq5 _ _ _ _ _ _ _ ?_
   simp only [xs1k.t5,ix_lt,dec_t g,dec_t g2,cond_true,wrap_succ (show i<9223372036854775807 by omega)]
   exact ih
theorem ok_part {tabs:List (Int × List WRow)} {ps:List (List Int)} {c i:Nat} (ht:ToldOK c (ps.getD i [])) (h:okJ tabs ps i=true):(tabs.getD i (0,[])).1=((ps.getD i []).length:Int)∧PartOK c (ps.getD i []) (tabs.getD i (0,[])).2∧(tabs.getD i (0,[])).2.length≤60:=by
 simp only [okJ,Bool.and_eq_true,beq_iff_eq] at h
 obtain ⟨⟨h1,h2⟩,h3⟩:=h
 obtain ⟨_,g2,g3,g4⟩:=goodT_iff.1 h1
 refine ⟨h3,⟨ht,fun w hw => ?_,g4⟩,g2⟩
 obtain ⟨r1,r2,_⟩:=rowB_iff.1 (g3 w hw)
 simp only [goodR,Bool.and_eq_true,List.all_eq_true] at r1
 have h4:=List.all_eq_true.1 h2 w hw
 exact ⟨by omega,fun x hx => inB_iff.1 (r1.1 x hx),beq_iff_eq.1 h4⟩
theorem joinParts_both (v0 : List (Int × List WRow)) (v1 : List (List Int)) (v2 : Int) (hn : v0.length ≤ 2000000) (hr : ∀ t, t ∈ v0 → t.2.length ≤ 1048576 ∧ ∀ w, w ∈ t.2 → w.1.length ≤ 1048576)
 (eg:xs1i v1 v2=some (partsB v2 v1)) (ei:xi1c v1 v2=some (partsB v2 v1)) :
 ∃ (a:Int) (b:List WRow) (ok:Bool),xs1k v0 v1 v2=some (a,b,ok)∧xi1e v0 v1 v2=some (a,b,ok)∧szT (.pair (.int .i64) (.sl (.pair (.sl (.int .i64)) (.int .i64)))) (a,b)≤1073741824:=by
 have none:szT (.pair (.int .i64) (.sl (.pair (.sl (.int .i64)) (.int .i64)))) ((0:Int),([]:List WRow))≤1073741824:=by simp [szT]
 cases hp:partsB v2 v1 with
 | false =>
   rw [hp] at eg ei
   exact ⟨0,[],false,xs1k.eq _ _ _ (by simp only [xs1k.t,eg,Option.bind_some,bang_f,cond_true]),xi1e.eq _ _ _ (by simp only [xi1e.t,ei,Option.bind_some,bang_f,cond_true]),none⟩
 | true =>
   rw [hp] at eg ei
   obtain ⟨⟨c1,c6⟩,⟨n1,n8⟩,ht,hcov⟩:=parts_facts hp
   obtain ⟨c,rfl⟩:∃ c:Nat,v2=(c:Int):=⟨v2.toNat,by omega⟩
   rw [Int.toNat_natCast] at ht hcov
   cases hl:((v0.length:Int) != (v1.length:Int)) with
   | true => exact ⟨0,[],false,xs1k.eq _ _ _ (by simp only [xs1k.t,eg,hl,Option.bind_some,bang_t,cond_true,cond_false]),xi1e.eq _ _ _ (by simp only [xi1e.t,ei,hl,Option.bind_some,bang_t,cond_true,cond_false]),none⟩
   | false =>
     have hlen:v0.length=v1.length:=by
        have:=(bne_eq_false_iff_eq).1 hl
        omega
     obtain ⟨s1,s2⟩:=spec_heads (S:=[(List.replicate c 100001,1)]) (c:=(c:Int)) hlen hn hr
     obtain ⟨i1,i2⟩:=impl_heads (c:=(c:Int)) hlen hn hr (by omega)
     have sin:∀ b,xs1k.l10 v0 v1 (c:Int) 0 [] [(List.replicate c 100001,1)] v0 (v0.length:Int) 0=some b→xs1k v0 v1 (c:Int)=some b:=fun b hb => xs1k.eq _ _ _ (by
        simp only [xs1k.t,eg,hl,Option.bind_some,bang_t,cond_false]
        exact spec_blank (by omega) hb c 0 (by omega))
     have iin:∀ b,xi1e.l4 v0 v1 (c:Int) 0 [] v0 (v0.length:Int) 0=some b→xi1e v0 v1 (c:Int)=some b:=fun b hb => xi1e.eq _ _ _ (by
        simp only [xi1e.t,ei,hl,Option.bind_some,bang_t,cond_false]
        exact hb)
     cases hall:allR (okJ v0 v1) 0 v0.length with
     | false => exact ⟨0,[],false,sin _ (s2 hall),iin _ (i2 hall),none⟩
     | true =>
       have hok:∀ i,i<v1.length→(v0.getD i (0,[])).1=((v1.getD i []).length:Int)∧PartOK c (v1.getD i []) (v0.getD i (0,[])).2∧(v0.getD i (0,[])).2.length≤60:=fun i hi =>
        ok_part (ht _ (getD_mem [] hi)) (allR_iff.1 hall i (Nat.zero_le _) (by omega))
       have h0:StepOK c [] [([],1)] [(List.replicate c 100001,1)]:=by
        refine ⟨⟨List.nodup_nil,fun x hx => (by cases hx)⟩,fun w hw => ?_,List.pairwise_singleton _ _,List.pairwise_singleton _ _,fun w hw => ?_, ?_⟩
        · rw [List.mem_singleton.1 hw]; exact ⟨rfl,fun x hx => (by cases hx),rfl⟩
        · rw [List.mem_singleton.1 hw]
        · have:rowE c [] []=List.replicate c 100001:=by
           refine List.ext_getElem (by simp [rowE]) fun i h1 h2 => ?_
           simp [rowE,cellE]
          simp only [List.map_cons,List.map_nil,this]
          exact List.Perm.refl _
       obtain ⟨p0,q0,r0⟩:=hok 0 (by omega)
       obtain ⟨f1,f2⟩:=join_first q0
       obtain ⟨n0,_⟩:=step_next h0 q0
       rw [f1,f2] at n0
       have hg0:0<v1.length:=by omega
       have hg1:0<v0.length:=by omega
       have hrun:runJ ((v1.drop 0).zip ((v0.drop 0).map Prod.snd)) [] [([],1)]=runJ ((v1.drop (0+1)).zip (((v0.drop 1).drop 0).map Prod.snd)) (v1.getD 0 []) (v0.getD 0 (0,[])).2:=by
        rw [drop_getD ([]:List Int) hg0,drop_getD ((0,[]):Int × List WRow) hg1,List.map_cons,List.zip_cons_cons,runJ,f1,f2,dec_f (show ¬ ((v0.getD 0 (0,[])).2.length:Int) > 60 by omega),cond_false]
        rfl
       have hdl:(v0.drop 1).length+1=v1.length:=by rw [List.length_drop]; omega
       have hdp:∀ i,i<(v0.drop 1).length→(v0.drop 1).getD i (0,[])=(((v1.getD (i+1) []).length:Int),((v0.drop 1).getD i (0,[])).2)∧PartOK c (v1.getD (i+1) []) ((v0.drop 1).getD i (0,[])).2∧((v0.drop 1).getD i (0,[])).2.length≤60:=fun i hi => by
        have e:(v0.drop 1).getD i (0,[])=v0.getD (i+1) (0,[]):=by
           rw [List.getD_eq_getElem?_getD,List.getD_eq_getElem?_getD,List.getElem?_drop,Nat.add_comm]
        rw [e]
        obtain ⟨k1,k2,k3⟩:=hok (i+1) (by omega)
        exact ⟨Prod.ext k1 rfl,k2,k3⟩
       obtain ⟨m1,m2⟩:=impl_run (c:=c) (by omega) hdl (by omega) hdp (v0.drop 1).length 0 _ _ _ (by omega) n0 r0
       have hst:=spec_run (c:=c) (by omega) hlen (by omega) hok v1.length 0 [] [([],1)] [(List.replicate c 100001,1)] (by omega) h0 (by simp)
       rw [hrun] at hst
       have ik:∀ b,xi1e.l11 v1 (c:Int) 0 [] ((v1.getD 0 []).length:Int) (v0.getD 0 (0,[])).2 (v1.getD 0 []) (v0.drop 1) ((v0.drop 1).length:Int) 0=some b→xi1e v0 v1 (c:Int)=some b:=fun b hb => iin _ (i1 hall b (by rw [p0]; exact hb))
       rcases hst with ⟨k1,k2⟩ | ⟨a',A',S',k1,k2,k3,k4⟩
       · exact ⟨0,[],false,sin _ (s1 hall _ k2),ik _ (m1 k1),none⟩
       · have hall' : ∀ p, p ∈ (v1.drop (0 + 1)).zip (((v0.drop 1).drop 0).map Prod.snd) → ToldOK c p.1 := fun p hp => ht _ (List.mem_of_mem_drop (List.of_mem_zip hp).1)
         obtain ⟨j1,j2⟩:=runJ_has _ _ _ _ _ hall' k1
         have hcv:∀ k:Nat,k<c→(k:Int)∈a':=fun k hk => by
           obtain ⟨q,hq,hx⟩:=hcov k hk
           obtain ⟨i,hi,e⟩:=List.getElem_of_mem hq
           cases i with
           | zero => exact j1 _ (by rw [getD_of_lt hg0,e]; exact hx)
           | succ i =>
             have hz:(q,((v0.drop 1).map Prod.snd).getD i [])∈(v1.drop (0+1)).zip (((v0.drop 1).drop 0).map Prod.snd):=by
              refine List.mem_iff_getElem.2 ⟨i,by rw [List.length_zip,List.length_map,List.length_drop,List.length_drop,List.length_drop]; omega, ?_⟩
              rw [List.getElem_zip]
              refine Prod.ext ?_ ?_
              · rw [← e]; simp [Nat.add_comm]
              · show (((v0.drop 1).drop 0).map Prod.snd)[i]'_ = _
                rw [getD_of_lt (by rw [List.length_map,List.length_drop]; omega)]
                rfl
             exact j2 _ hz _ hx
         have es:=k4 _ (spec_last ⟨by omega,by omega⟩ k2 k3 hcv)
         have eim:=m2 _ _ k1 _ (impl_last ⟨by omega,by omega⟩ k2 k3 hcv)
         cases hgood:goodT (c:Int) S' with
         | false =>
           rw [hgood] at es eim
           exact ⟨0,[],false,sin _ (s1 hall _ es),ik _ eim,none⟩
         | true =>
           rw [hgood] at es eim
           refine ⟨(c:Int),S',true,sin _ (s1 hall _ es),ik _ eim, ?_⟩
           have:=goodT_size hgood
           show 0+szT (.sl (.pair (.sl (.int .i64)) (.int .i64))) S'≤_
           omega
theorem FnExactJoinParts_same (v0 : List (Int × List (List Int × Int))) (v1 : List (List Int)) (v2 : Int) (w0 : WfT (.sl (.pair (.int .i64) (.sl (.pair (.sl (.int .i64)) (.int .i64))))) v0) (hz0 : szT (.sl (.pair (.int .i64) (.sl (.pair (.sl (.int .i64)) (.int .i64))))) v0 ≤ 1048576)
 (w1:WfT (.sl (.sl (.int .i64))) v1) (hz1:szT (.sl (.sl (.int .i64))) v1≤1048576) (w2:WfT (.int .i64) v2) (hz2:szT (.int .i64) v2≤1048576) :
 ∃ (a:Int) (b:List (List Int × Int)) (ok:Bool),xs1k v0 v1 v2=some (a,b,ok)∧xi1e v0 v1 v2=some (a,b,ok)∧szT (.pair (.int .i64) (.sl (.pair (.sl (.int .i64)) (.int .i64)))) (a,b)≤1073741824:=by
 have h1:=szT_len (t:=.pair (.int .i64) (.sl (.pair (.sl (.int .i64)) (.int .i64)))) (l:=v0)
 have hr:∀ t,t∈v0→t.2.length≤1048576∧∀ w,w∈t.2→w.1.length≤1048576:=fun t ht => by
  have h2:=szT_mem (t:=.pair (.int .i64) (.sl (.pair (.sl (.int .i64)) (.int .i64)))) ht
  exact tab_len (c:=t.1) (l:=t.2) (n:=1048576) (Nat.le_trans h2 hz0)
 have hs:v1.length+(v1.map List.length).sum≤1048576:=by
  have e:szT (.sl (.sl (.int .i64))) v1=v1.length+(v1.map List.length).sum:=by
   simp only [szT]
   congr 2
   refine List.map_congr_left fun x _ => ?_
   have:=szT_sl_flat (t:=.int .i64) x rfl
   simpa [szT] using this
  omega
 have hl:v1.length≤1073741824:=by omega
 have hpr:∀ p,p∈v1→p.length≤1073741824:=fun p hp => by
  have h2:=szT_mem (t:=.sl (.int .i64)) hp
  have h3:=szT_len (t:=.int .i64) (l:=p)
  omega
 exact joinParts_both v0 v1 v2 (by omega) hr (xs1i_eq hl hpr (by omega)) (xi1c_eq hl hpr)
end GoV

/- FnExactJoinParts: the law out of its core. -/
namespace GoV
open Go
theorem FnExactJoinParts_true (v0:List (Int × List (List Int × Int))) (v1:List (List Int)) (v2:Int) (w0:WfT (.sl (.pair (.int .i64) (.sl (.pair (.sl (.int .i64)) (.int .i64))))) v0) (w1:WfT (.sl (.sl (.int .i64))) v1) (w2:WfT (.int .i64) v2):xl0p v0 v1 v2=some true:=by
 obtain ⟨left1,e1,a1,b1z⟩:=xl1u_ok (v0) ((1048576:Int)) w0 (by omega) (by omega)
 by_cases n1:left1<0
 · exact xl0p.eq v0 v1 v2 (by simp only [xl0p.t,e1,dec_t n1,cond_true,cond_false,Option.bind_some])
 have z1a:=b1z (by omega)
 obtain ⟨left2,e2,a2,b2z⟩:=xl25_ok (v1) (left1) w1 (by omega) (by omega)
 by_cases n2:left2<0
 · exact xl0p.eq v0 v1 v2 (by simp only [xl0p.t,e1,dec_f n1,e2,dec_t n2,cond_true,cond_false,Option.bind_some])
 have z2a:=b2z (by omega)
 have hz0:szT (.sl (.pair (.int .i64) (.sl (.pair (.sl (.int .i64)) (.int .i64))))) v0≤1048576:=by omega
 have hz1:szT (.sl (.sl (.int .i64))) v1≤1048576:=by omega
 have hz2:szT (.int .i64) v2≤1048576:=by simp only [szT]; omega
 obtain ⟨ga,gb,gc,hspec,himpl,hsm⟩:=FnExactJoinParts_same v0 v1 v2 w0 hz0 w1 hz1 w2 hz2
 -- the answer is small
 have e3:=xl1v_id (v0) (by omega)
 have e4:=xl27_id (v1) (by omega)
 have e6:=xl1v_id (v0) (by omega)
 have e7:=xl27_id (v1) (by omega)
 have e9:=xl24_rf (ga) (gb) (by first | omega | (simp only [szT] at *; omega))
 have e10:=xl1v_id (v0) (by omega)
 have e11:=xl1s_rf (v0) (by first | omega | (simp only [szT] at *; omega))
 have e12:=xl27_id (v1) (by omega)
 have e13:=xl23_rf (v1) (by first | omega | (simp only [szT] at *; omega))
 have q14:=cntT_le (T:=(.sl (.pair (.int .i64) (.sl (.pair (.sl (.int .i64)) (.int .i64)))))) v0 rfl
 simp only [Ty.size] at q14
 have e14:=xl0v_ok (v0) ((1:Int)) (by omega) (by omega) (by omega)
 have p14:=mrL_cnt (t:=(.pair (.int .i64) (.sl (.pair (.sl (.int .i64)) (.int .i64))))) v0 (1:Int)
 have g14:¬ (mrL (mrE (.pair (.int .i64) (.sl (.pair (.sl (.int .i64)) (.int .i64))))) v0 (1:Int)).2<0:=by omega
 have q15:=cntT_le (T:=(.sl (.sl (.int .i64)))) v1 rfl
 simp only [Ty.size] at q15
 have e15:=xl0y_ok (v1) ((mrL (mrE (.pair (.int .i64) (.sl (.pair (.sl (.int .i64)) (.int .i64))))) v0 (1:Int)).2) (by omega) (by omega) (by omega)
 have p15:=mrL_cnt (t:=(.sl (.int .i64))) v1 (mrL (mrE (.pair (.int .i64) (.sl (.pair (.sl (.int .i64)) (.int .i64))))) v0 (1:Int)).2
 have g15:¬ (mrL (mrE (.sl (.int .i64))) v1 (mrL (mrE (.pair (.int .i64) (.sl (.pair (.sl (.int .i64)) (.int .i64))))) v0 (1:Int)).2).2<0:=by omega
 have e16:=xl24_rf (ga) (gb) (by first | omega | (simp only [szT] at *; omega))
 have q17:=cntT_le (T:=(.pair (.int .i64) (.sl (.pair (.sl (.int .i64)) (.int .i64))))) (ga,gb) rfl
 simp only [Ty.size] at q17
 have e17:=xl0z_ok (ga) (gb) ((1:Int)) (by omega) (by omega) (by omega)
 have p17:=mrT_cnt (.pair (.int .i64) (.sl (.pair (.sl (.int .i64)) (.int .i64)))) (ga,gb) (1:Int)
 have g17:¬ (mrT (.pair (.int .i64) (.sl (.pair (.sl (.int .i64)) (.int .i64)))) (ga,gb) (1:Int)).2<0:=by omega
 have e18:xl1h (ga) ((mrT (.pair (.int .i64) (.sl (.pair (.sl (.int .i64)) (.int .i64)))) (ga,gb) (1:Int)).1.2) ((1:Int))=some (mrT (.pair (.int .i64) (.sl (.pair (.sl (.int .i64)) (.int .i64)))) (ga,gb) (1:Int)).2:=xl1h_ok (ga) (gb) (1:Int) (by omega) (by omega) (by omega)
 have e19:=xl1v_id (v0) (by omega)
 have e20:=xl27_id (v1) (by omega)
 have e22:=xl24_rf (ga) (gb) (by first | omega | (simp only [szT] at *; omega))
 have e23:xl1h (ga) ((mrT (.pair (.int .i64) (.sl (.pair (.sl (.int .i64)) (.int .i64)))) (ga,gb) (1:Int)).1.2) ((1:Int))=some (mrT (.pair (.int .i64) (.sl (.pair (.sl (.int .i64)) (.int .i64)))) (ga,gb) (1:Int)).2:=xl1h_ok (ga) (gb) (1:Int) (by omega) (by omega) (by omega)
 refine xl0p.eq v0 v1 v2 ?_
 simp only [xl0p.t,e1,dec_f n1,e2,dec_f n2,e3,e4,e6,e7,e9,e10,e11,e12,e13,e14,dec_f g14,e15,dec_f g15,e16,e17,dec_f g17,e18,e19,e20,e22,e23,hspec,himpl,cond_true,cond_false,Option.bind_some,bne_ref,beq_ref,bang_t]
end GoV
