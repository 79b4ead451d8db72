/- A part of the proof of FnExactConflictsOf: an interpreter of the model over plain data, its soundness, and what it makes of the functions that the statement reaches. Conditions: none beyond what the given statement itself says. -/
import Derived.Test.YtnelnnjegledcaaTM
set_option linter.unusedVariables false
set_option linter.unusedSimpArgs false
set_option linter.unnecessarySimpa false
set_option linter.unusedSectionVars false
/- Rising numbers; sets as bits. -/
namespace GoV
open Go
theorem xi0f_eq (m:Nat) (hm:m<4611686018427387904):xi0f (m:Int)=some (bitsF m 0 62):=by
 have key:∀ i,i≤62→∀ acc:List Int,acc.length+62≤1073741824+i→xi0f.l3 (m:Int) acc (i:Int)=some (acc ++ bitsF m i (62 - i)):=by
  refine upto ?_ ?_
  · intro acc _
    refine xi0f.eq3 _ _ _ ?_
    have e:m >>> 62=0:=by rw [Nat.shiftRight_eq_div_pow]; omega
    simp only [xi0f.t3,ix_nn,ix_nat,cond_true,shr_nat m 62 (by omega),e]
    simp [bitsF]
  · intro i hi ih acc hacc
    refine xi0f.eq3 _ _ _ ?_
    simp only [xi0f.t3,ix_nn,ix_nat,cond_true,shr_nat m i (show i≤64 by omega)]
    by_cases h0:m >>> i=0
    · rw [h0, bitsF_none h0]
      simp
    · have e1:(((m >>> i:Nat):Int) != (0:Int))=true:=by
       have:((m >>> i:Nat):Int)≠0:=by omega
       simpa using this
      have hs:m >>> i<4611686018427387904:=Nat.lt_of_le_of_lt (by rw [Nat.shiftRight_eq_div_pow]; exact Nat.div_le_self _ _) hm
      have e2:=and_nat (m:=m >>> i) (n:=1) hs (by omega)
      have e3:(m >>> i &&& 1)=if m.testBit i then 1 else 0:=by
       rw [Nat.and_one_is_mod,Nat.testBit,Nat.one_and_eq_mod_two]
       rcases Nat.mod_two_eq_zero_or_one (m >>> i) with h | h <;> simp [h]
      rw [e3] at e2
      have e4:((1:Nat):Int)=(1:Int):=rfl
      rw [e4] at e2
      have e5:62 - i=(62 - (i+1))+1:=by omega
      rw [e5,bitsF_step]
      simp only [e1,cond_true,e2,wrap_succ (show i<9223372036854775807 by omega)]
      cases hb:m.testBit i with
      | true =>
        have hlen:acc.length+[((i:Nat):Int)].length≤4294967296:=by simp only [List.length_cons,List.length_nil]; omega
        have g:=ih (acc ++ [(i:Int)]) (by simp only [List.length_append,List.length_cons,List.length_nil]; omega)
        simp only [if_true,dec_t hlen,cond_true]
        rw [g]
        simp
      | false =>
        have g:=ih acc (by omega)
        simp only [Bool.false_eq_true,if_false]
        rw [g]
        simp
 refine xi0f.eq _ ?_
 simp only [xi0f.t]
 have g:=key 0 (Nat.zero_le _) [] (by simp)
 simpa using g
end GoV

/- Sets as rising lists: numbers put to their place. -/
namespace GoV
open Go
theorem xs0t_eq (l:List Int) (n:Int) (hl:l.length≤1073741824):xs0t l n=some (l.any fun x => x == n):=by
 have key:∀ i,i≤l.length→xs0t.l2 n l (l.length:Int) (i:Int)=some ((l.drop i).any fun x => x == n):=by
  refine upto ?_ ?_
  · exact xs0t.eq2 _ _ _ _ (by simp only [xs0t.t2,ix_lt,Nat.lt_irrefl,decide_false,cond_false,List.drop_length,List.any_nil])
  · intro i hi ih
    refine xs0t.eq2 _ _ _ _ ?_
    rw [drop_getD 0 hi,List.any_cons]
    simp only [xs0t.t2,ix_lt,ix_nn,ix_nat,dec_t hi,cond_true,wrap_succ (show i<9223372036854775807 by omega),ih]
    cases (l.getD i 0 == n) <;> rfl
 exact xs0t.eq l n (by simp only [xs0t.t]; exact key 0 (Nat.zero_le _))
theorem xs0u_eq (l:List Int) (n:Int) (hl:l.length≤1073741824):xs0u l n=some (bif l.any (fun x => x == n) then l else putS n l):=by
 have key:∀ k,k≤l.length→xs0u.l4 l n (k:Int)=some (l.take k ++ (l.drop k).takeWhile (fun x => decide (x<n)) ++ [n] ++ (l.drop k).dropWhile (fun x => decide (x<n))):=by
  have fin : ∀ k, k ≤ l.length → (decide ((none : Option Int).getD (0 : Int) ≤ (k : Int)) = true ∧ decide ((k : Int) ≤ (l.length : Int)) = true ∧ decide ((l.take k).length ≤ 4294967296) = true ∧ decide ((l.take k).length + [n].length ≤ 4294967296) = true ∧
        decide ((l.take k ++ [n]).length+(l.drop k).length≤4294967296)=true):=by
   intro k hk
   refine ⟨by simp,by simpa using hk, ?_, ?_, ?_⟩ <;> simp <;> omega
  refine upto ?_ ?_
  · obtain ⟨f1, f2, f3, f4, f5⟩ := fin l.length (Nat.le_refl _)
    refine xs0u.eq4 _ _ _ ?_
    simp only [xs0u.t4,ix_lt,ix_nn,ix_nat,Nat.lt_irrefl,decide_false,cond_false,cond_true,Option.getD_none,Option.getD_some,Int.sub_zero,Int.toNat_zero,List.drop_zero,f2,f3,f4,f5]
    simp
  · intro k hk ih
    obtain ⟨f1,f2,f3,f4,f5⟩:=fin k (by omega)
    refine xs0u.eq4 _ _ _ ?_
    rw [drop_getD 0 hk]
    simp only [xs0u.t4,ix_lt,ix_nn,ix_nat,dec_t hk,cond_true,wrap_succ (show k<9223372036854775807 by omega),ih,List.takeWhile_cons,List.dropWhile_cons]
    by_cases h:l.getD k 0<n
    · simp only [dec_t h, cond_true, if_true]
      congr 1
      have:l.take (k+1)=l.take k ++ [l.getD k 0]:=by rw [List.take_add_one]; simp [List.getD,hk]
      rw [this]
      simp
    · simp only [dec_f h, cond_false, cond_true, Option.getD_none, Option.getD_some, Int.sub_zero, Int.toNat_zero, List.drop_zero, ix_nn, ix_nat, f2, f3, f4, f5, Bool.false_eq_true, if_false]
      simp only [List.append_nil]
      rw [drop_getD 0 hk]
 refine xs0u.eq l n ?_
 simp only [xs0u.t,xs0t_eq l n hl,Option.bind_some]
 cases h:l.any (fun x => x == n) with
 | true => rfl
 | false =>
   simp only [cond_false]
   have:=key 0 (Nat.zero_le _)
   simpa [putS] using this
/-- A number put into a set that is told as a rising list. -/
theorem l7Put_bits {m x:Nat} (hx:x<62):xs0u (bitsF m 0 62) (x:Int)=some (bitsF (m ||| 2 ^ x) 0 62):=by
 have hl:=bitsF_len m 0 62
 rw [xs0u_eq _ _ (by omega)]
 cases h:m.testBit x with
 | true =>
   have:(bitsF m 0 62).any (fun y => y == (x:Int))=true:=by
    rw [List.any_eq_true]
    exact ⟨(x:Int),bitsF_mem.2 ⟨x,rfl,by omega,by omega,h⟩,by simp⟩
   rw [this,or_same h]
   rfl
 | false =>
   have:(bitsF m 0 62).any (fun y => y == (x:Int))=false:=by
    rw [Bool.eq_false_iff]
    intro ha
    rw [List.any_eq_true] at ha
    obtain ⟨y,hy,he⟩:=ha
    obtain ⟨k,rfl,_,_,hk⟩:=bitsF_mem.1 hy
    have:k=x:=by
        have he2:(k:Int)=(x:Int):=by simpa using he
        omega
    rw [this,h] at hk
    cases hk
   rw [this]
   simp only [cond_false]
   rw [putS_bits 62 0 m x (by omega) (by omega) h]
end GoV

/- Good steps, alike. -/
namespace GoV
open Go
abbrev Stp:=Int × Int × Int
def stepB (x:Stp):Bool:=inB 0 5 x.1 && (inB 1 2 x.2.1 && inB 0 3 x.2.2)
def stepsB (l:List Stp):Bool:=l.all stepB && decide (l.length≤40)
theorem len40 (n:Nat):decide ((n:Int)≤40)=decide (n≤40):=by
 by_cases h:n≤40
 · rw [dec_t h,dec_t (by omega)]
 · rw [dec_f h,dec_f (by omega)]
theorem xs0e_eq (l:List Stp) (hl:l.length≤1073741824):xs0e l=some (stepsB l):=by
 refine xs0e.eq l ?_
 simp only [xs0e.t]
 have one:∀ i,i<l.length→∀ c,(stepB (l.getD i (0,0,0))=false→c=some false)→(stepB (l.getD i (0,0,0))=true→xs0e.l2 l l (l.length:Int) ((i+1:Nat):Int)=c)→∀ b,c=some b→xs0e.l2 l l (l.length:Int) (i:Int)=some b:=by
  intro i hi c hf ht b hb
  refine xs0e.eq2 _ _ _ _ ?_
  simp only [xs0e.t2,ix_lt,ix_nn,ix_nat,dec_t hi,cond_true,xs0v_eq,Option.bind_some,wrap_succ (show i<9223372036854775807 by omega)]
  generalize hx:l.getD i (0,0,0)=x at hf ht ⊢
  by_cases h1:x.1<0
  · have : stepB x = false := by simp [stepB, inB]; omega
    rw [dec_t h1,← hb,hf this]; rfl
  · by_cases h2 : x.1 ≥ 6
    · have : stepB x = false := by simp [stepB, inB]; omega
      rw [dec_f h1,dec_t h2,← hb,hf this]; rfl
    · by_cases h3 : x.2.2 < 0
      · have : stepB x = false := by simp [stepB, inB]; omega
        rw [dec_f h1,dec_f h2,dec_t h3,← hb,hf this]; rfl
      · by_cases h4 : x.2.2 ≥ 4
        · have : stepB x = false := by simp [stepB, inB]; omega
          rw [dec_f h1,dec_f h2,dec_f h3,dec_t h4,← hb,hf this]; rfl
        · have e1 : inB 0 5 x.1 = true := inB_iff.2 ⟨by omega, by omega⟩
          have e2:inB 0 3 x.2.2=true:=inB_iff.2 ⟨by omega,by omega⟩
          have e3:stepB x=inB 1 2 x.2.1:=by simp only [stepB,e1,e2,Bool.true_and,Bool.and_true]
          rw [dec_f h1,dec_f h2,dec_f h3,dec_f h4,← hb]
          rw [e3] at hf ht
          cases h5:inB 1 2 x.2.1 with
          | false => rw [hf h5]; rfl
          | true => rw [← ht h5]; rfl
 have:=all_loop l (0,0,0) (fun i => xs0e.l2 l l (l.length:Int) (i:Int)) stepB false (decide (l.length≤40)) ?_ ?_ ?_
 · refine Eq.trans this ?_
   simp only [stepsB]
   cases l.all stepB <;> rfl
 · exact xs0e.eq2 _ _ _ _ (by simp only [xs0e.t2,ix_lt,Nat.lt_irrefl,decide_false,cond_false,len40])
 · intro i hi hb
   exact one i hi (some false) (fun _ => rfl) (fun h => by rw [h] at hb; cases hb) _ rfl
 · intro i c hi hb hc
   exact one i hi (some c) (fun h => by rw [h] at hb; cases hb) (fun _ => hc) _ rfl
theorem xi0s_eq (x:Int):xi0s x=some (inB 0 5 x):=xi0s.eq x (by simp only [xi0s.t,xi0n_eq,Option.bind_some])
theorem xi0m_eq (x:Stp):xi0m x.1 x.2.1 x.2.2=some (stepB x):=by
 refine xi0m.eq _ _ _ ?_
 simp only [xi0m.t,xi0s_eq,xi0n_eq,Option.bind_some,stepB]
 cases inB 0 5 x.1
 · rfl
 · cases inB 1 2 x.2.1
   · rfl
   · rfl
theorem xi0b_eq (l:List Stp) (hl:l.length≤1073741824):xi0b l=some (stepsB l):=by
 refine xi0b.eq l ?_
 simp only [xi0b.t,xi03_ok l stepB (by omega) (fun x _ => xi0m_eq x),Option.bind_some,stepsB,len40]
 cases decide (l.length≤40)
 · simp
 · simp
end GoV

/- ConflictsOf: the program's answer is the specification's. -/
namespace GoV
open Go
def clashB (a b:Stp):Bool:=(a.1 != b.1) && ((a.2.2 == b.2.2) && ((a.2.1 == 2) || (b.2.1 == 2)))
theorem spec_clash_eq (a b:Stp):xs0h a.1 a.2.1 a.2.2 b.1 b.2.1 b.2.2=some (clashB a b):=by
 refine xs0h.eq _ _ _ _ _ _ ?_
 simp only [xs0h.t,clashB]
 cases a.1 != b.1 <;> cases a.2.2 == b.2.2 <;> cases a.2.1 == 2 <;> rfl
theorem xi0r_eq (a b:Stp):xi0r a.1 a.2.1 a.2.2 b.1 b.2.1 b.2.2=some (clashB a b):=by
 refine xi0r.eq _ _ _ _ _ _ ?_
 simp only [xi0r.t,clashB]
 cases a.1 != b.1 <;> cases a.2.2 == b.2.2 <;> cases a.2.1 == 2 <;> rfl
/-! ## Sets of transactions, one for each -/
def upM (s:List Nat) (t x:Nat):List Nat:=s.set t (s.getD t 0 ||| 2 ^ x)
def innM (a:Stp) (s:List Nat) (b:Stp):List Nat:=bif clashB a b then upM s a.1.toNat b.1.toNat else s
def outM : List Stp → List Nat → List Nat
 | [],s => s
 | a::r,s => outM r (r.foldl (innM a) s)
abbrev bitsA (m:Nat):List Int:=bitsF m 0 62
def SixM (s:List Nat):Prop:=s.length=6∧∀ m,m∈s→m<4611686018427387904
theorem six0:SixM (List.replicate 6 0):=⟨by simp,fun m hm => by rw [List.eq_of_mem_replicate hm]; omega⟩
theorem SixM.up {s:List Nat} (h:SixM s) {t x:Nat} (hx:x<62):SixM (upM s t x):=by
 refine ⟨by simp [upM,h.1],fun m hm => ?_⟩
 rcases List.mem_or_eq_of_mem_set hm with hm | rfl
 · exact h.2 m hm
 · refine or_lt ?_ (pow_lt hx)
   by_cases ht:t<s.length
   · rw [List.getD_eq_getElem?_getD, List.getElem?_eq_getElem ht]
     exact h.2 _ (List.getElem_mem ht)
   · rw [List.getD_eq_getElem?_getD, List.getElem?_eq_none (by omega)]
     simp
theorem SixM.inn {s:List Nat} (h:SixM s) {a b:Stp} (hb:b.1.toNat<62):SixM (innM a s b):=by
 unfold innM
 cases clashB a b
 · exact h
 · exact h.up hb
theorem SixM.fold {a : Stp} : ∀ {r : List Stp} {s : List Nat}, SixM s → (∀ b, b ∈ r → b.1.toNat < 62) → SixM (r.foldl (innM a) s)
 | [],s,h,_ => h
 | b::r,s,h,hr => SixM.fold (r:=r) (s:=innM a s b) (h.inn (hr b (by simp))) fun b' hb' => hr b' (List.mem_cons_of_mem _ hb')
theorem SixM.out : ∀ {r : List Stp} {s : List Nat}, SixM s → (∀ b, b ∈ r → b.1.toNat < 62) → SixM (outM r s)
 | [],s,h,_ => h
 | a::r,s,h,hr => SixM.out (r:=r) (s:=r.foldl (innM a) s) (h.fold fun b hb => hr b (List.mem_cons_of_mem _ hb)) fun b hb => hr b (List.mem_cons_of_mem _ hb)
theorem dec_nn (a b:Nat):decide ((a:Int)=(b:Int))=decide (a=b):=by
 by_cases h:a=b
 · rw [dec_t h,dec_t (by omega)]
 · rw [dec_f h,dec_f (by omega)]
section
variable {l:List Stp} (hl:l.length≤1073741824) (hg:∀ x,x∈l→0≤x.1∧x.1<6)
include hl hg
theorem xs08_eq:xs08 l=some ((outM l (List.replicate 6 0)).map bitsA):=by
 refine xs08.eq l ?_
 simp only [xs08.t]
 have e0:(List.replicate (Int.toNat (6:Int)) []:List (List Int))=(List.replicate 6 0).map bitsA:=by
  have:bitsA 0=[]:=bitsF_none (by simp)
  rw [List.map_replicate,this]
  rfl
 rw [e0]
 have key:∀ i,i≤l.length→∀ s b,SixM s→some ((outM (l.drop i) s).map bitsA)=some b→xs08.l3 l (s.map bitsA) l (l.length:Int) (i:Int)=some b:=by
  refine upto ?_ ?_
  · intro s b _ hb
    rw [List.drop_length] at hb
    exact xs08.eq3 _ _ _ _ _ (by simp only [xs08.t3,ix_lt,Nat.lt_irrefl,decide_false,cond_false]; exact hb)
  · intro i hi ih s b hs hb
    rw [drop_getD ((0:Int),(0:Int),(0:Int)) hi] at hb
    simp only [outM] at hb
    refine xs08.eq3 _ _ _ _ _ ?_
    have h1:((i+1:Nat):Int)≤(l.length:Int):=by omega
    simp only [xs08.t3,ix_lt,ix_nn,ix_nat,dec_t hi,cond_true,Option.getD_some,wrap_succ (show i<9223372036854775807 by omega),dec_t h1]
    have ha:=hg _ (getD_mem ((0:Int),(0:Int),(0:Int)) hi)
    generalize hx:l.getD i ((0:Int),(0:Int),(0:Int))=a at hb ha ⊢
    have hr:∀ x,x∈l.drop (i+1)→0≤x.1∧x.1<6:=fun x hx => hg x (List.mem_of_mem_drop hx)
    have hrl:(l.drop (i+1)).length≤1073741824:=by simp; omega
    generalize hre:l.drop (i+1)=r at hb hr hrl ⊢
    have inner := fold_loop (σ := List Nat) r ((0 : Int), (0 : Int), (0 : Int)) (fun s j => xs08.l6 l (s.map bitsA) a.1 a.2.1 a.2.2 l (l.length : Int) (i : Int) r (r.length : Int) (j : Int)) (innM a) SixM
        (fun s => xs08.l3 l (s.map bitsA) l (l.length : Int) ((i + 1 : Nat) : Int)) ?_ (fun s j hj hs => hs.inn (by have := hr _ (getD_mem ((0 : Int), (0 : Int), (0 : Int)) hj); omega)) ?_ s b hs
         (by
          refine ih _ b (hs.fold fun x hx => by have:=hr x hx; omega) ?_
          rw [hre]; exact hb)
    · exact inner
    · intro s b _ hb
      exact xs08.eq6 _ _ _ _ _ _ _ _ _ _ _ (by simp only [xs08.t6,ix_lt,Nat.lt_irrefl,decide_false,cond_false,wrap_succ (show i<9223372036854775807 by omega)]; exact hb)
    · intro s j b hj hs hb
      have hxj:=hr _ (getD_mem ((0:Int),(0:Int),(0:Int)) hj)
      refine xs08.eq6 _ _ _ _ _ _ _ _ _ _ _ ?_
      simp only [xs08.t6,ix_lt,ix_nn,ix_nat,dec_t hj,cond_true,spec_clash_eq,Option.bind_some,wrap_succ (show j<9223372036854775807 by omega)]
      generalize hy:r.getD j ((0:Int),(0:Int),(0:Int))=y at hb hxj ⊢
      unfold innM at hb
      cases hc:clashB a y with
      | false => rw [hc] at hb; exact hb
      | true =>
        rw [hc] at hb
        obtain ⟨x,hxe⟩:∃ x:Nat,y.1=(x:Int):=⟨y.1.toNat,by omega⟩
        have ht:a.1.toNat<(s.map bitsA).length:=by simp [hs.1]; omega
        have hgd:(s.map bitsA).getD a.1.toNat []=bitsA (s.getD a.1.toNat 0):=by
          have ht':a.1.toNat<s.length:=by simpa using ht
          simp [List.getD_eq_getElem?_getD,ht']
        simp only [cond_true,dec_t ha.1,dec_t ht,hgd,hxe]
        rw [show xs0u (bitsA (s.getD a.1.toNat 0)) (x:Int)=some (bitsA (s.getD a.1.toNat 0 ||| 2 ^ x)) from l7Put_bits (show x<62 by omega)]
        simp only [Option.bind_some,cond_true]
        simp only [cond_true,hxe,Int.toNat_natCast,upM,List.map_set] at hb
        exact hb
 exact key 0 (Nat.zero_le _) (List.replicate 6 0) _ six0 (by rw [List.drop_zero])
/-- The program's array. -/
theorem xi0c_eq:xi0c l=some (let s:=outM l (List.replicate 6 0); (((s.getD 0 0:Nat):Int),((s.getD 1 0:Nat):Int),((s.getD 2 0:Nat):Int),((s.getD 3 0:Nat):Int),((s.getD 4 0:Nat):Int),((s.getD 5 0:Nat):Int))):=by
 refine xi0c.eq l ?_
 simp only [xi0c.t]
 have key : ∀ i, i ≤ l.length → ∀ s b, SixM s → some (let s := outM (l.drop i) s; (((s.getD 0 0 : Nat) : Int), ((s.getD 1 0 : Nat) : Int), ((s.getD 2 0 : Nat) : Int), ((s.getD 3 0 : Nat) : Int), ((s.getD 4 0 : Nat) : Int), ((s.getD 5 0 : Nat) : Int))) = some b →
  xi0c.l3 l 0 0 0 0 0 0 (s.getD 0 0:Nat) (s.getD 1 0:Nat) (s.getD 2 0:Nat) (s.getD 3 0:Nat) (s.getD 4 0:Nat) (s.getD 5 0:Nat) l (l.length:Int) (i:Int)=some b:=by
  refine upto ?_ ?_
  · intro s b _ hb
    rw [List.drop_length] at hb
    exact xi0c.eq3 _ _ _ _ _ _ _ _ _ _ _ _ _ _ _ _ (by simp only [xi0c.t3,ix_lt,Nat.lt_irrefl,decide_false,cond_false]; exact hb)
  · intro i hi ih s b hs hb
    rw [drop_getD ((0:Int),(0:Int),(0:Int)) hi] at hb
    simp only [outM] at hb
    refine xi0c.eq3 _ _ _ _ _ _ _ _ _ _ _ _ _ _ _ _ ?_
    have h1:((i+1:Nat):Int)≤(l.length:Int):=by omega
    simp only [xi0c.t3,ix_lt,ix_nn,ix_nat,dec_t hi,cond_true,Option.getD_some,wrap_succ (show i<9223372036854775807 by omega),dec_t h1]
    have ha:=hg _ (getD_mem ((0:Int),(0:Int),(0:Int)) hi)
    generalize hx:l.getD i ((0:Int),(0:Int),(0:Int))=a at hb ha ⊢
    have hr:∀ x,x∈l.drop (i+1)→0≤x.1∧x.1<6:=fun x hx => hg x (List.mem_of_mem_drop hx)
    have hrl:(l.drop (i+1)).length≤1073741824:=by simp; omega
    generalize hre:l.drop (i+1)=r at hb hr hrl ⊢
    have inner := fold_loop (σ := List Nat) r ((0 : Int), (0 : Int), (0 : Int)) (fun s j => xi0c.l6 l 0 0 0 0 0 0 (s.getD 0 0 : Nat) (s.getD 1 0 : Nat) (s.getD 2 0 : Nat) (s.getD 3 0 : Nat) (s.getD 4 0 : Nat) (s.getD 5 0 : Nat) a.1 a.2.1 a.2.2 l (l.length : Int) (i : Int) r (r.length : Int) (j : Int)) (innM a) SixM
        (fun s => xi0c.l3 l 0 0 0 0 0 0 (s.getD 0 0 : Nat) (s.getD 1 0 : Nat) (s.getD 2 0 : Nat) (s.getD 3 0 : Nat) (s.getD 4 0 : Nat) (s.getD 5 0 : Nat) l (l.length : Int) ((i + 1 : Nat) : Int)) ?_ (fun s j hj hs => hs.inn (by have := hr _ (getD_mem ((0 : Int), (0 : Int), (0 : Int)) hj); omega)) ?_ s b hs
         (by
          refine ih _ b (hs.fold fun x hx => by have:=hr x hx; omega) ?_
          rw [hre]; exact hb)
    · exact inner
    · intro s b _ hb
      exact xi0c.eq6 _ _ _ _ _ _ _ _ _ _ _ _ _ _ _ _ _ _ _ _ _ _ (by simp only [xi0c.t6,ix_lt,Nat.lt_irrefl,decide_false,cond_false,wrap_succ (show i<9223372036854775807 by omega)]; exact hb)
    · intro s j b hj hs hb
      have hxj:=hr _ (getD_mem ((0:Int),(0:Int),(0:Int)) hj)
      refine xi0c.eq6 _ _ _ _ _ _ _ _ _ _ _ _ _ _ _ _ _ _ _ _ _ _ ?_
      simp only [xi0c.t6,ix_lt,ix_nn,ix_nat,dec_t hj,cond_true,xi0r_eq,Option.bind_some,wrap_succ (show j<9223372036854775807 by omega)]
      generalize hy:r.getD j ((0:Int),(0:Int),(0:Int))=y at hb hxj ⊢
      unfold innM at hb
      cases hc:clashB a y with
      | false => rw [hc] at hb; exact hb
      | true =>
        rw [hc] at hb
        obtain ⟨t,hte⟩:∃ t:Nat,a.1=(t:Int):=⟨a.1.toNat,by omega⟩
        have ht:t<6:=by omega
        have hm:∀ k,k<6→s.getD k 0<4611686018427387904:=fun k hk => by
          have hk':k<s.length:=by rw [hs.1]; exact hk
          rw [List.getD_eq_getElem?_getD,List.getElem?_eq_getElem hk']
          exact hs.2 _ (List.getElem_mem hk')
        have hp:=pow_lt (show y.1.toNat<62 by omega)
        have ho:=one_shl (show y.1.toNat<62 by omega)
        have hor:∀ k,k<6→IntKind.i64.wrap (((BitVec.ofInt IntKind.i64.bits ((s.getD k 0:Nat):Int) ||| BitVec.ofInt IntKind.i64.bits ((2 ^ y.1.toNat:Nat):Int)).toNat:Nat):Int)=((s.getD k 0 ||| 2 ^ y.1.toNat:Nat):Int):=fun k hk => or_nat (hm k hk) hp
        have hgs:∀ k v,(s.set t v).getD k 0=if t=k then v else s.getD k 0:=fun k v => by
          simp only [List.getD_eq_getElem?_getD,List.getElem?_set]
          split
          · rename_i e
            subst e
            rw [if_pos (by rw [hs.1]; exact ht)]
            rfl
          · rfl
        simp only [cond_true,hte,Int.toNat_natCast,upM,hgs] at hb
        simp only [hte,cond_true,dec_nn,ho,dec_t hxj.1]
        match t,ht with
        | 0,_ => simp only [hor 0 (by omega)]; simpa using hb
        | 1,_ => simp only [hor 1 (by omega)]; simpa using hb
        | 2,_ => simp only [hor 2 (by omega)]; simpa using hb
        | 3,_ => simp only [hor 3 (by omega)]; simpa using hb
        | 4,_ => simp only [hor 4 (by omega)]; simpa using hb
        | 5,_ => simp only [hor 5 (by omega)]; simpa using hb
 exact key 0 (Nat.zero_le _) (List.replicate 6 0) _ six0 (by rw [List.drop_zero])
end
theorem impl_out_eq {s:List Nat} (hs:SixM s):xi09.l5 [] (s.getD 0 0:Nat) (s.getD 1 0:Nat) (s.getD 2 0:Nat) (s.getD 3 0:Nat) (s.getD 4 0:Nat) (s.getD 5 0:Nat) 0=some (s.map bitsA,true):=by
 have hm:∀ k,k<6→s.getD k 0<4611686018427387904:=fun k hk => by
  have hk':k<s.length:=by rw [hs.1]; exact hk
  rw [List.getD_eq_getElem?_getD,List.getElem?_eq_getElem hk']
  exact hs.2 _ (List.getElem_mem hk')
 have key:∀ i:Nat,i≤6→∀ acc:List (List Int),acc.length≤i→xi09.l5 acc (s.getD 0 0:Nat) (s.getD 1 0:Nat) (s.getD 2 0:Nat) (s.getD 3 0:Nat) (s.getD 4 0:Nat) (s.getD 5 0:Nat) (i:Int)=some (acc ++ (s.drop i).map bitsA,true):=by
  refine upto ?_ ?_
  · intro acc _
    refine xi09.eq5 _ _ _ _ _ _ _ _ ?_
    have:s.drop 6=[]:=List.drop_eq_nil_of_le (by rw [hs.1]; omega)
    simp [xi09.t5,this]
  · intro i hi ih acc hacc
    have hd:s.drop i=s.getD i 0::s.drop (i+1):=drop_getD 0 (by rw [hs.1]; exact hi)
    have hl:=fun k hk => xi0f_eq (s.getD k 0) (hm k hk)
    have:=ih (acc ++ [bitsA (s.getD i 0)]) (by simp; omega)
    rw [hd]
    refine xi09.eq5 _ _ _ _ _ _ _ _ ?_
    have h6:((i:Nat):Int)<6:=by omega
    have hlen:acc.length+1≤4294967296:=by omega
    have h9:acc ++ (s.getD i 0::s.drop (i+1)).map bitsA=acc ++ [bitsA (s.getD i 0)] ++ (s.drop (i+1)).map bitsA:=by simp
    rw [h9]
    simp only [xi09.t5,dec_t h6,cond_true,dec_nn,wrap_succ (show i<9223372036854775807 by omega),hl 0 (by omega),hl 1 (by omega),hl 2 (by omega),hl 3 (by omega),hl 4 (by omega),hl 5 (by omega),Option.bind_some,List.length_singleton,dec_t hlen]
    match i,hi with
    | 0,_ => simpa [bitsA] using this
    | 1,_ => simpa [bitsA] using this
    | 2,_ => simpa [bitsA] using this
    | 3,_ => simpa [bitsA] using this
    | 4,_ => simpa [bitsA] using this
    | 5,_ => simpa [bitsA] using this
 have:=key 0 (by omega) [] (by simp)
 simpa using this
theorem FnExactConflictsOf_same (v0 : List (Int × Int × Int)) (w0 : WfT (.sl (.pair (.int .i64) (.pair (.int .i64) (.int .i64)))) v0) (hz0 : szT (.sl (.pair (.int .i64) (.pair (.int .i64) (.int .i64)))) v0 ≤ 1048576) :
 ∃ (a:List (List Int)) (b:Bool),xs0a v0=some (a,b)∧xi09 v0=some (a,b)∧szT (.sl (.sl (.int .i64))) a≤1073741824:=by
 have hl:v0.length≤1073741824:=by
  have:=szT_len (t:=(.pair (.int .i64) (.pair (.int .i64) (.int .i64)))) (l:=v0)
  omega
 have e1:=xs0e_eq v0 hl
 have e2:=xi0b_eq v0 hl
 cases h1:stepsB v0 with
 | false => exact ⟨[],false,xs0a.eq v0 (by simp only [xs0a.t,e1,h1,Option.bind_some,bang_f,cond_true]),xi09.eq v0 (by simp only [xi09.t,e2,h1,Option.bind_some,bang_f,cond_true]),by simp [szT]⟩
 | true =>
   have hg:∀ x,x∈v0→0≤x.1∧x.1<6:=fun x hx => by
    simp only [stepsB,Bool.and_eq_true,List.all_eq_true] at h1
    have:=h1.1 x hx
    simp only [stepB,Bool.and_eq_true] at this
    have:=inB_iff.1 this.1
    omega
   have hs:SixM (outM v0 (List.replicate 6 0)):=SixM.out six0 fun b hb => by have:=hg b hb; omega
   refine ⟨(outM v0 (List.replicate 6 0)).map bitsA, true, xs0a.eq v0 (by simp only [xs0a.t, e1, h1, Option.bind_some, bang_t, cond_false, xs08_eq hl hg]),
    xi09.eq v0 (by simp only [xi09.t,e2,h1,Option.bind_some,bang_t,cond_false,xi0c_eq hl hg,impl_out_eq hs]), ?_⟩
   have hb:∀ s:List Nat,szT (.sl (.sl (.int .i64))) (s.map bitsA)≤63 * s.length:=by
    intro s
    induction s with
    | nil => simp [szT]
    | cons m s ih =>
      have h2:=bitsF_len m 0 62
      have h3:szT (.sl (.int .i64)) (bitsA m)=(bitsA m).length:=szT_sl_flat (t:=.int .i64) (bitsA m) rfl
      simp only [szT,List.map_cons,List.length_cons,List.sum_cons] at ih h3 ⊢
      simp only [bitsA] at *
      omega
   have:=hb (outM v0 (List.replicate 6 0))
   rw [hs.1] at this
   omega
end GoV

/- FnExactConflictsOf: the law out of its core. -/
namespace GoV
open Go
theorem FnExactConflictsOf_true (v0:List (Int × Int × Int)) (w0:WfT (.sl (.pair (.int .i64) (.pair (.int .i64) (.int .i64)))) v0):xl04 v0=some true:=by
 obtain ⟨left1,e1,a1,b1z⟩:=xl0k_ok (v0) ((1048576:Int)) w0 (by omega) (by omega)
 by_cases n1:left1<0
 · exact xl04.eq v0 (by simp only [xl04.t,e1,dec_t n1,cond_true,cond_false,Option.bind_some])
 have z1a:=b1z (by omega)
 have hz0:szT (.sl (.pair (.int .i64) (.pair (.int .i64) (.int .i64)))) v0≤1048576:=by omega
 obtain ⟨ga,gb,hspec,himpl,hsm⟩:=FnExactConflictsOf_same v0 w0 hz0
 -- the answer is small
 have e2:=xl0l_id (v0) (by omega)
 have e4:=xl0l_id (v0) (by omega)
 have e6:=xl0i_rf (ga) (by first | omega | (simp only [szT] at *; omega))
 have e7:=xl0l_id (v0) (by omega)
 have e8:=xl0j_rf (v0) (by first | omega | (simp only [szT] at *; omega))
 have q9:=cntT_le (T:=(.sl (.pair (.int .i64) (.pair (.int .i64) (.int .i64))))) v0 rfl
 simp only [Ty.size] at q9
 have e9:=xl06_ok (v0) ((1:Int)) (by omega) (by omega) (by omega)
 have p9:=mrL_cnt (t:=(.pair (.int .i64) (.pair (.int .i64) (.int .i64)))) v0 (1:Int)
 have g9:¬ (mrL (mrE (.pair (.int .i64) (.pair (.int .i64) (.int .i64)))) v0 (1:Int)).2<0:=by omega
 have e10:=xl0i_rf (ga) (by first | omega | (simp only [szT] at *; omega))
 have q11:=cntT_le (T:=(.sl (.sl (.int .i64)))) ga rfl
 simp only [Ty.size] at q11
 have e11:=xl05_ok (ga) ((1:Int)) (by omega) (by omega) (by omega)
 have p11:=mrL_cnt (t:=(.sl (.int .i64))) ga (1:Int)
 have g11:¬ (mrL (mrE (.sl (.int .i64))) ga (1:Int)).2<0:=by omega
 have e12:xl0d ((mrL (mrE (.sl (.int .i64))) ga (1:Int)).1) ((1:Int))=some (mrL (mrE (.sl (.int .i64))) ga (1:Int)).2:=xl0d_ok (ga) (1:Int) (by omega) (by omega) (by omega)
 have e13:=xl0l_id (v0) (by omega)
 have e15:=xl0i_rf (ga) (by first | omega | (simp only [szT] at *; omega))
 have e16:xl0d ((mrL (mrE (.sl (.int .i64))) ga (1:Int)).1) ((1:Int))=some (mrL (mrE (.sl (.int .i64))) ga (1:Int)).2:=xl0d_ok (ga) (1:Int) (by omega) (by omega) (by omega)
 refine xl04.eq v0 ?_
 simp only [xl04.t,e1,dec_f n1,e2,e4,e6,e7,e8,e9,dec_f g9,e10,e11,dec_f g11,e12,e13,e15,e16,hspec,himpl,cond_true,cond_false,Option.bind_some,bne_ref,beq_ref,bang_t]
end GoV
