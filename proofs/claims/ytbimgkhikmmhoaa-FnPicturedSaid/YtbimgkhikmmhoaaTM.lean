/- A part of the proof of FnPictured: an interpreter of the model over plain data, its soundness, and what it makes of the functions that the statement reaches. Conditions: none beyond what the given statement itself says. -/
import Derived.Test.YtbimgkhikmmhoaaTL
set_option linter.unusedVariables false
set_option linter.unusedSimpArgs false
set_option linter.unnecessarySimpa false
set_option linter.unusedSectionVars false
/- What the statements' own helpers answer (printed by wip/tools/lawgen.py). -/
namespace GoV
open Go
theorem xs02_ok (v0:List Int) (p:Int→Bool) (hl:v0.length≤4611686018427387904) (hp:∀ x,x∈v0→xi07 (x)=some (p x)):∃ r:Int,xs02 v0=some r∧decide (r ≥ 0)=v0.any p:=by
 have key:∀ i,i≤v0.length→∃ r:Int,xs02.l2 (v0) ((↑v0.length:Int)) (i:Int)=some r∧decide (r ≥ 0)=(v0.drop i).any p:=by
  refine upto ?_ ?_
  · exact ⟨-1,xs02.eq2 (v0) ((↑v0.length:Int)) (v0.length:Int) (by simp only [xs02.t2,ix_lt,Nat.lt_irrefl,decide_false,cond_false]),by simp⟩
  · intro i hi ih
    have hc:=hp _ (getD_mem (0:Int) hi)
    rw [drop_getD (0:Int) hi,List.any_cons]
    cases hx:p (v0.getD i (0:Int)) with
    | true => exact ⟨i,xs02.eq2 (v0) ((↑v0.length:Int)) (i:Int) (by simp only [xs02.t2,ix_lt,ix_nn,ix_nat,dec_t hi,cond_true,hc,hx,Option.bind_some]),by simp⟩
    | false =>
      obtain ⟨r,g0,g1⟩:=ih
      exact ⟨r,xs02.eq2 (v0) ((↑v0.length:Int)) (i:Int) (by simp only [xs02.t2,ix_lt,ix_nn,ix_nat,dec_t hi,cond_true,cond_false,hc,hx,Option.bind_some,wrap_succ (show i<9223372036854775807 by omega),g0]),by rw [g1,Bool.false_or]⟩
 obtain ⟨r,g0,g1⟩:=key 0 (Nat.zero_le _)
 exact ⟨r,xs02.eq v0 (by simp only [xs02.t]; exact g0),by simpa using g1⟩
theorem xs00_ok (v0:List Int) (p:Int→Bool) (hl:v0.length≤4611686018427387904) (hp:∀ x,x∈v0→xi07 (x)=some (p x)):xs00 v0=some (v0.any p):=by
 obtain ⟨r,g0,g1⟩:=xs02_ok (v0) p hl hp
 exact xs00.eq v0 (by simp only [xs00.t,g0,Option.bind_some,g1])
theorem xi09_ok (v0:List Int) (p:Int→Bool) (hl:v0.length≤4611686018427387904) (hp:∀ x,x∈v0→xi0m ((x))=some (p x)):xi09 v0=some (v0.all p):=by
 have g:=xs00_ok (v0) (fun x => !p x) hl (fun x hx => xi07.eq (x) (by simp only [xi07.t,hp x hx,Option.bind_some]))
 exact xi09.eq v0 (by simp only [xi09.t,g,Option.bind_some,List.all_eq_not_any_not])
theorem xs03_ok (v0:List Int) (p:Int→Bool) (hl:v0.length≤4611686018427387904) (hp:∀ x,x∈v0→xi08 (x)=some (p x)):∃ r:Int,xs03 v0=some r∧decide (r ≥ 0)=v0.any p:=by
 have key:∀ i,i≤v0.length→∃ r:Int,xs03.l2 (v0) ((↑v0.length:Int)) (i:Int)=some r∧decide (r ≥ 0)=(v0.drop i).any p:=by
  refine upto ?_ ?_
  · exact ⟨-1,xs03.eq2 (v0) ((↑v0.length:Int)) (v0.length:Int) (by simp only [xs03.t2,ix_lt,Nat.lt_irrefl,decide_false,cond_false]),by simp⟩
  · intro i hi ih
    have hc:=hp _ (getD_mem (0:Int) hi)
    rw [drop_getD (0:Int) hi,List.any_cons]
    cases hx:p (v0.getD i (0:Int)) with
    | true => exact ⟨i,xs03.eq2 (v0) ((↑v0.length:Int)) (i:Int) (by simp only [xs03.t2,ix_lt,ix_nn,ix_nat,dec_t hi,cond_true,hc,hx,Option.bind_some]),by simp⟩
    | false =>
      obtain ⟨r,g0,g1⟩:=ih
      exact ⟨r,xs03.eq2 (v0) ((↑v0.length:Int)) (i:Int) (by simp only [xs03.t2,ix_lt,ix_nn,ix_nat,dec_t hi,cond_true,cond_false,hc,hx,Option.bind_some,wrap_succ (show i<9223372036854775807 by omega),g0]),by rw [g1,Bool.false_or]⟩
 obtain ⟨r,g0,g1⟩:=key 0 (Nat.zero_le _)
 exact ⟨r,xs03.eq v0 (by simp only [xs03.t]; exact g0),by simpa using g1⟩
theorem xs01_ok (v0:List Int) (p:Int→Bool) (hl:v0.length≤4611686018427387904) (hp:∀ x,x∈v0→xi08 (x)=some (p x)):xs01 v0=some (v0.any p):=by
 obtain ⟨r,g0,g1⟩:=xs03_ok (v0) p hl hp
 exact xs01.eq v0 (by simp only [xs01.t,g0,Option.bind_some,g1])
theorem xi0a_ok (v0:List Int) (p:Int→Bool) (hl:v0.length≤4611686018427387904) (hp:∀ x,x∈v0→xi0s ((x))=some (p x)):xi0a v0=some (v0.all p):=by
 have g:=xs01_ok (v0) (fun x => !p x) hl (fun x hx => xi08.eq (x) (by simp only [xi08.t,hp x hx,Option.bind_some]))
 exact xi0a.eq v0 (by simp only [xi0a.t,g,Option.bind_some,List.all_eq_not_any_not])
theorem xs05_ok (v0:List (Int × Int × Bool)) (p:(Int) × ((Int) × (Bool))→Bool) (hl:v0.length≤4611686018427387904) (hp:∀ x,x∈v0→xi0o ((x).fst) ((x).snd.fst) ((x).snd.snd)=some (p x)):∃ r:Int,xs05 v0=some r∧decide (r ≥ 0)=v0.any p:=by
 have key:∀ i,i≤v0.length→∃ r:Int,xs05.l2 (v0) ((↑v0.length:Int)) (i:Int)=some r∧decide (r ≥ 0)=(v0.drop i).any p:=by
  refine upto ?_ ?_
  · exact ⟨-1,xs05.eq2 (v0) ((↑v0.length:Int)) (v0.length:Int) (by simp only [xs05.t2,ix_lt,Nat.lt_irrefl,decide_false,cond_false]),by simp⟩
  · intro i hi ih
    have hc:=hp _ (getD_mem ((0:Int),(0:Int),false) hi)
    rw [drop_getD ((0:Int),(0:Int),false) hi,List.any_cons]
    cases hx:p (v0.getD i ((0:Int),(0:Int),false)) with
    | true => exact ⟨i,xs05.eq2 (v0) ((↑v0.length:Int)) (i:Int) (by simp only [xs05.t2,ix_lt,ix_nn,ix_nat,dec_t hi,cond_true,hc,hx,Option.bind_some]),by simp⟩
    | false =>
      obtain ⟨r,g0,g1⟩:=ih
      exact ⟨r,xs05.eq2 (v0) ((↑v0.length:Int)) (i:Int) (by simp only [xs05.t2,ix_lt,ix_nn,ix_nat,dec_t hi,cond_true,cond_false,hc,hx,Option.bind_some,wrap_succ (show i<9223372036854775807 by omega),g0]),by rw [g1,Bool.false_or]⟩
 obtain ⟨r,g0,g1⟩:=key 0 (Nat.zero_le _)
 exact ⟨r,xs05.eq v0 (by simp only [xs05.t]; exact g0),by simpa using g1⟩
theorem xs04_ok (v0:List (Int × Int × Bool)) (p:(Int) × ((Int) × (Bool))→Bool) (hl:v0.length≤4611686018427387904) (hp:∀ x,x∈v0→xi0o ((x).fst) ((x).snd.fst) ((x).snd.snd)=some (p x)):xs04 v0=some (v0.any p):=by
 obtain ⟨r,g0,g1⟩:=xs05_ok (v0) p hl hp
 exact xs04.eq v0 (by simp only [xs04.t,g0,Option.bind_some,g1])
end GoV

/- Small words of the program and of its specification. -/
namespace GoV
open Go
theorem xi1f_eq (x lo hi:Int):xi1f x lo hi=some (inB lo hi x):=by
 refine xi1f.eq x lo hi ?_
 simp only [xi1f.t,inB]
 by_cases h:lo≤x <;> simp [h]
theorem xs1i_eq (x lo hi:Int):xs1i x lo hi=some (inB lo hi x):=by
 refine xs1i.eq x lo hi ?_
 simp only [xs1i.t,inB]
 by_cases h:lo≤x <;> simp [h]
end GoV

/- Pictures: what is good, alike; a copy is what it copies. -/
namespace GoV
open Go
abbrev Prc:=Int × Int × Bool
abbrev Wir:=List Int × List Int × Bool
abbrev zP:Prc:=(0,0,false)
abbrev zW:Wir:=([],[],false)
def procB (p:Prc):Bool:=inB 0 2000000000 p.1 && (inB 0 2000000000 p.2.1 && (p.2.2 || p.2.1 == 0))
def wireB (P:List Prc) (k:Nat) (w:Wir):Bool :=
 decide (w.1.length ≤ 12) && (w.1.all (inB 0 1000000) && (decide (w.2.1.length ≤ 200) && (w.2.1.all (inB 1 1000000) &&
    (((P.getD (k % P.length) zP).2.2 || (!w.2.2 && decide (w.2.1.length=0))) && (!decide (k / P.length=k % P.length) || (decide (w.1.length=0) && (decide (w.2.1.length=0) && !w.2.2)))))))
def wiresB (P : List Prc) : Nat → List Wir → Bool
 | _,[] => true
 | k,w::r => wireB P k w && wiresB P (k+1) r
def totP : List Prc → Int
 | [] => 0
 | p::r => p.1+p.2.1+totP r
def sumI : List Int → Int
 | [] => 0
 | x::r => x+sumI r
def totW : List Wir → Int
 | [] => 0
 | w::r => sumI w.1+sumI w.2.1+totW r
/-- Not too much. -/
def leB (x:Int):Bool:=decide (x≤2000000000)
def goodB (P:List Prc) (W:List Wir):Bool :=
 decide (2≤P.length∧P.length≤4) && (decide (W.length=P.length * P.length) && (P.all procB && (wiresB P 0 W && leB (totP P+totW W))))
theorem sumI_bound : ∀ {l : List Int}, l.all (inB 0 1000000) = true → 0 ≤ sumI l ∧ sumI l ≤ l.length * 1000000
 | [],_ => by simp [sumI]
 | x::r,h => by
   simp only [List.all_cons,Bool.and_eq_true] at h
   have h1:=inB_iff.1 h.1
   have h2:=sumI_bound h.2
   simp only [sumI,List.length_cons]
   omega
theorem all_10 {l:List Int} (h:l.all (inB 1 1000000)=true):l.all (inB 0 1000000)=true:=by
 simp only [List.all_eq_true] at h ⊢
 intro x hx
 have:=inB_iff.1 (h x hx)
 exact inB_iff.2 ⟨by omega,by omega⟩
theorem wire_bounds {P:List Prc} {k:Nat} {w:Wir} (h:wireB P k w=true):w.1.length≤12∧w.1.all (inB 0 1000000)=true∧w.2.1.length≤200∧w.2.1.all (inB 1 1000000)=true:=by
 simp only [wireB,Bool.and_eq_true,decide_eq_true_eq] at h
 exact ⟨h.1,h.2.1,h.2.2.1,h.2.2.2.1⟩
/-! ## The program's -/
theorem xi0s_eq (x:Int):xi0s x=some (inB 1 1000000 x):=xi0s.eq x (by simp only [xi0s.t,xi1f_eq,Option.bind_some])
theorem impl_word_eq (x:Int):xi0m x=some (inB 0 1000000 x):=by
 refine xi0m.eq x ?_
 simp only [xi0m.t,xi0s_eq,Option.bind_some]
 by_cases h:x=0
 · subst h; rfl
 · have h1 : (x == 0) = false := by simpa using h
   rw [h1]
   simp only [cond_false]
   congr 1
   exact bool_eq (by rw [inB_iff,inB_iff]; omega)
theorem xi1h_eq {l:List Int} (hl:l.length≤1000) (h:l.all (inB 0 1000000)=true):xi1h l=some (sumI l):=by
 refine xi1h.eq l ?_
 simp only [xi1h.t]
 have key:∀ i,i≤l.length→∀ a:Int,0≤a→a≤i * 1000000→xi1h.l3 a l (l.length:Int) (i:Int)=some (a+sumI (l.drop i)):=by
  refine upto ?_ ?_
  · intro a _ _
    refine xi1h.eq3 _ _ _ _ ?_
    rw [List.drop_length]
    simp only [xi1h.t3,ix_lt,Nat.lt_irrefl,decide_false,cond_false,sumI,Int.add_zero]
  · intro i hi ih a ha hb
    have hx:=inB_iff.1 (List.all_eq_true.1 h _ (getD_mem 0 hi))
    refine xi1h.eq3 _ _ _ _ ?_
    simp only [xi1h.t3,ix_lt,ix_nn,ix_nat,dec_t hi,cond_true,wrap_succ (show i<9223372036854775807 by omega)]
    rw [wrap_id (by omega) (by omega),ih _ (by omega) (by omega),drop_getD 0 hi]
    simp only [sumI]
    congr 1
    omega
 have:=key 0 (Nat.zero_le _) 0 (by omega) (by omega)
 simpa using this
theorem impl_isWire_eq (P : List Prc) (k : Nat) (w : Wir) (hl : w.1.length ≤ 1073741824 ∧ w.2.1.length ≤ 1073741824) (t : Prc) (ht : t = P.getD (k % P.length) zP) :
 xi0v w.1 w.2.1 w.2.2 t.1 t.2.1 t.2.2=some (decide (w.1.length≤12) && (w.1.all (inB 0 1000000) && (decide (w.2.1.length≤200) && (w.2.1.all (inB 1 1000000) && ((P.getD (k % P.length) zP).2.2 || (!w.2.2 && decide (w.2.1.length=0))))))):=by
 subst ht
 refine xi0v.eq _ _ _ _ _ _ ?_
 simp only [xi0v.t,xi09_ok w.1 _ (by omega) (fun x _ => impl_word_eq x),xi0a_ok w.2.1 _ (by omega) (fun x _ => xi0s_eq x),Option.bind_some]
 have e1:decide ((w.1.length:Int)≤12)=decide (w.1.length≤12):=by by_cases h:w.1.length≤12 <;> simp [h] <;> omega
 have e2:decide ((w.2.1.length:Int)≤200)=decide (w.2.1.length≤200):=by by_cases h:w.2.1.length≤200 <;> simp [h] <;> omega
 have e3:((w.2.1.length:Int) == (0:Int))=decide (w.2.1.length=0):=by by_cases h:w.2.1.length=0 <;> simp [h]
 rw [e1,e2,e3]
 cases decide (w.1.length≤12) <;> cases w.1.all (inB 0 1000000) <;> cases decide (w.2.1.length≤200) <;> cases w.2.1.all (inB 1 1000000) <;> cases (P.getD (k % P.length) zP).2.2 <;> cases w.2.2 <;> rfl
theorem impl_isNone_eq (w:Wir):xi0u w.1 w.2.1 w.2.2=some (decide (w.1.length=0) && (decide (w.2.1.length=0) && !w.2.2)):=by
 refine xi0u.eq _ _ _ ?_
 have e1:((w.1.length:Int) == (0:Int))=decide (w.1.length=0):=by by_cases h:w.1.length=0 <;> simp [h]
 have e3:((w.2.1.length:Int) == (0:Int))=decide (w.2.1.length=0):=by by_cases h:w.2.1.length=0 <;> simp [h]
 simp only [xi0u.t,e1,e3]
 cases decide (w.1.length=0) <;> cases decide (w.2.1.length=0) <;> rfl
theorem tdiv_nat (a b:Nat):Int.tdiv (a:Int) (b:Int)=((a / b:Nat):Int):=by simp
theorem tmod_nat (a b:Nat):Int.tmod (a:Int) (b:Int)=((a % b:Nat):Int):=by
 rw [Int.tmod_eq_emod_of_nonneg (by omega)]
 exact (Int.natCast_emod a b).symm
section
variable {P:List Prc} {W:List Wir} (hp:2≤P.length∧P.length≤4) (hw:W.length=P.length * P.length) (hl:∀ w,w∈W→w.1.length≤1073741824∧w.2.1.length≤1073741824)
include hp hw hl
theorem W16:W.length≤16:=by
 rw [hw]
 exact Nat.mul_le_mul hp.2 hp.2
theorem impl_GoodSnap_l13:∀ i,i≤W.length→∀ a:Int,0≤a→a≤20000000000+i * 300000000→xi14.l13 P W (P.length:Int) a W (W.length:Int) (i:Int)=some (wiresB P i (W.drop i) && leB (a+totW (W.drop i))):=by
 have h16:=W16 hp hw hl
 refine upto ?_ ?_
 · intro a _ _
   refine xi14.eq13 _ _ _ _ _ _ _ ?_
   rw [List.drop_length]
   simp only [xi14.t13,ix_lt,Nat.lt_irrefl,decide_false,cond_false,wiresB,totW,Int.add_zero,Bool.true_and,leB]
 · intro i hi ih a ha hb
   have hne:((P.length:Nat):Int)≠0:=by omega
   have hm:i % P.length<P.length:=Nat.mod_lt _ (by omega)
   refine xi14.eq13 _ _ _ _ _ _ _ ?_
   simp only [xi14.t13,ix_lt,ix_nn,ix_nat,dec_t hi,cond_true,dec_t hne,tmod_nat,tdiv_nat,dec_t hm]
   rw [drop_getD zW hi]
   have hl1:=hl _ (getD_mem zW hi)
   generalize hx:W.getD i zW=w at hl1 ⊢
   rw [impl_isWire_eq P i w hl1 _ rfl]
   simp only [Option.bind_some]
   have hwr:IntKind.i64.wrap ((i / P.length:Nat):Int)=((i / P.length:Nat):Int):=by
    have hq:=Nat.div_le_self i P.length
    generalize i / P.length=q at hq ⊢
    exact wrap_id (by omega) (by omega)
   have heq:((((i / P.length:Nat):Int)) == ((i % P.length:Nat):Int))=decide (i / P.length=i % P.length):=by
    by_cases h:i / P.length=i % P.length
    · rw [h]; simp
    · rw [dec_f h]; simp only [beq_eq_false_iff_ne,ne_eq]; omega
   simp only [wiresB,wireB,totW]
   generalize hA:(decide (w.1.length≤12) && (w.1.all (inB 0 1000000) && (decide (w.2.1.length≤200) && (w.2.1.all (inB 1 1000000) && ((P.getD (i % P.length) zP).2.2 || (!w.2.2 && decide (w.2.1.length=0)))))))=A
   have hsplit:∀ x:Bool,(decide (w.1.length≤12) && (w.1.all (inB 0 1000000) && (decide (w.2.1.length≤200) && (w.2.1.all (inB 1 1000000) && (((P.getD (i % P.length) zP).2.2 || (!w.2.2 && decide (w.2.1.length=0))) && x)))))=(A && x):=by
    intro x; rw [← hA]; simp only [Bool.and_assoc]
   rw [hsplit]
   cases A with
   | false => simp
   | true =>
     have hA':=hA
     simp only [Bool.and_eq_true,decide_eq_true_eq] at hA'
     obtain ⟨k1,k2,k3,k4,_⟩:=hA'
     have k5:=sumI_bound k2
     have k6:=sumI_bound (all_10 k4)
     have cont:xi14.l13 P W (P.length:Int) (IntKind.i64.wrap (a+IntKind.i64.wrap (sumI w.1+sumI w.2.1))) W (W.length:Int) ((i+1:Nat):Int)=some (wiresB P (i+1) (W.drop (i+1)) && leB (a+(sumI w.1+sumI w.2.1+totW (W.drop (i+1))))):=by
        rw [wrap_id (x:=sumI w.1+sumI w.2.1) (by omega) (by omega),wrap_id (by omega) (by omega),ih _ (by omega) (by omega)]
        congr 3
        omega
     simp only [bang_t,cond_false,hwr,heq,impl_isNone_eq,xi1h_eq (show w.1.length≤1000 by omega) k2,xi1h_eq (show w.2.1.length≤1000 by omega) (all_10 k4),Option.bind_some,wrap_succ (show i<9223372036854775807 by omega),cont]
     cases decide (i / P.length=i % P.length) with
     | false =>
       simp only [cond_false,Bool.not_false,Bool.true_or,Bool.true_and]
     | true =>
       cases (decide (w.1.length=0) && (decide (w.2.1.length=0) && !w.2.2)) with
       | false => simp only [cond_true,Bool.not_true,Bool.not_false,Bool.false_or,Bool.true_and,Bool.false_and,bang_f]
       | true =>
         simp only [cond_true,cond_false,Bool.not_true,Bool.false_or,Bool.true_and,bang_t]
theorem impl_GoodSnap_l6:∀ i,i≤P.length→∀ a:Int,0≤a→a≤i * 4000000000→xi14.l6 P W (P.length:Int) a P (P.length:Int) (i:Int)=some ((P.drop i).all procB && (wiresB P 0 W && leB (a+totP (P.drop i)+totW W))):=by
 refine upto ?_ ?_
 · intro a ha hb
   refine xi14.eq6 _ _ _ _ _ _ _ ?_
   have:=impl_GoodSnap_l13 hp hw hl 0 (Nat.zero_le _) a ha (by omega)
   rw [List.drop_length]
   simp only [xi14.t6,ix_lt,Nat.lt_irrefl,decide_false,cond_false]
   simpa [totP] using this
 · intro i hi ih a ha hb
   refine xi14.eq6 _ _ _ _ _ _ _ ?_
   simp only [xi14.t6,ix_lt,ix_nn,ix_nat,dec_t hi,cond_true,xi1f_eq,Option.bind_some,wrap_succ (show i<9223372036854775807 by omega)]
   rw [drop_getD zP hi]
   generalize hx:P.getD i zP=p
   simp only [List.all_cons,procB,totP]
   cases h1:inB 0 2000000000 p.1 with
   | false => simp
   | true =>
     cases h2:inB 0 2000000000 p.2.1 with
     | false => simp
     | true =>
       have g1:=inB_iff.1 h1
       have g2:=inB_iff.1 h2
       have cont:xi14.l6 P W (P.length:Int) (IntKind.i64.wrap (a+IntKind.i64.wrap (p.1+p.2.1))) P (P.length:Int) ((i+1:Nat):Int)=some ((P.drop (i+1)).all procB && (wiresB P 0 W && leB (a+(p.1+p.2.1+totP (P.drop (i+1)))+totW W))):=by
         rw [wrap_id (x:=p.1+p.2.1) (by omega) (by omega),wrap_id (by omega) (by omega),ih _ (by omega) (by omega)]
         congr 4
         omega
       simp only [bang_t,cond_false,cont]
       cases p.2.2 with
       | true =>
         simp only [bang_t,cond_false,Bool.true_or,Bool.true_and]
       | false =>
         by_cases h3:p.2.1=0
         · have h4 : (p.2.1 != 0) = false := by simpa using h3
           have h5:(p.2.1 == 0)=true:=by simpa using h3
           simp only [bang_f,cond_true,h4,h5,cond_false,Bool.or_true,Bool.true_and]
         · have h4 : (p.2.1 != 0) = true := by simpa using h3
           have h5:(p.2.1 == 0)=false:=by simpa using h3
           simp only [bang_f,cond_true,h4,h5,Bool.or_false,Bool.and_false,Bool.false_and]
end
theorem sq_nat (n:Nat) (h:n≤4):IntKind.i64.wrap ((n:Int) * (n:Int))=((n * n:Nat):Int):=by
 have h1:n * n≤16:=Nat.mul_le_mul h h
 rw [wrap_id (by omega) (by rw [← Int.natCast_mul]; omega),Int.natCast_mul]
theorem inB24 (n:Nat):inB 2 4 (n:Int)=decide (2≤n∧n≤4):=by
 refine bool_eq ?_
 rw [inB_iff,decide_eq_true_eq]
 omega
theorem xi14_eq (P:List Prc) (W:List Wir) (hl:∀ w,w∈W→w.1.length≤1073741824∧w.2.1.length≤1073741824):xi14 P W=some (goodB P W):=by
 refine xi14.eq P W ?_
 simp only [xi14.t,xi1f_eq,Option.bind_some,inB24,goodB]
 by_cases hp:2≤P.length∧P.length≤4
 · rw [dec_t hp, sq_nat _ hp.2]
   by_cases hw:W.length=P.length * P.length
   · have h1 : ((W.length : Int) != ((P.length * P.length : Nat) : Int)) = false := by rw [hw]; simp
     have:=impl_GoodSnap_l6 hp hw hl 0 (Nat.zero_le _) 0 (by omega) (by omega)
     simp only [bang_t,cond_false,h1,dec_t hw,Bool.true_and]
     simpa using this
   · have h1 : ((W.length : Int) != ((P.length * P.length : Nat) : Int)) = true := by simp; omega
     simp only [bang_t,cond_false,h1,dec_f hw,cond_true,Bool.true_and,Bool.false_and]
 · rw [dec_f hp]
   simp only [bang_f,cond_true,Bool.false_and]
end GoV

/- Pictures: what the specification calls good; copies. -/
namespace GoV
open Go
theorem xs13_eq (x:Int):xs13 x=some (inB 0 1000000 x):=xs13.eq x (by simp only [xs13.t,xs1i_eq,Option.bind_some])
theorem len_gt (n m:Nat):decide ((n:Int) > (m:Int)) = !decide (n≤m):=by
 by_cases h:n≤m
 · rw [dec_t h,dec_f (by omega)]; rfl
 · rw [dec_f h,dec_t (by omega)]; rfl
def tailB (P:List Prc) (k:Nat) (w:Wir):Bool :=
 decide (w.1.length≤12) && (decide (w.2.1.length≤200) && ((!decide (k / P.length=k % P.length) || (decide (w.1.length=0) && (decide (w.2.1.length=0) && !w.2.2))) && ((P.getD (k % P.length) zP).2.2 || (!w.2.2 && decide (w.2.1.length=0)))))
theorem wireB_tail (P:List Prc) (k:Nat) (w:Wir):wireB P k w=(w.1.all (inB 0 1000000) && (w.2.1.all (inB 1 1000000) && tailB P k w)):=by
 unfold wireB tailB
 cases decide (w.1.length ≤ 12) <;> cases w.1.all (inB 0 1000000) <;> cases decide (w.2.1.length ≤ 200) <;> cases w.2.1.all (inB 1 1000000) <;>
  cases ((P.getD (k % P.length) zP).2.2 || (!w.2.2 && decide (w.2.1.length=0))) <;> cases (!decide (k / P.length=k % P.length) || (decide (w.1.length=0) && (decide (w.2.1.length=0) && !w.2.2))) <;> rfl
section
variable {P:List Prc} {W:List Wir} (hp:2≤P.length∧P.length≤4) (hw:W.length=P.length * P.length) (hl:∀ w,w∈W→w.1.length≤1073741824∧w.2.1.length≤1073741824)
include hp hw hl
theorem spec_tail {k : Nat} (hk : k < W.length) {w : Wir} (hx : W.getD k zW = w) {a : Int} {b : Bool} (h1 : tailB P k w = true → xs18.l13 P W (P.length : Int) a W (W.length : Int) ((k + 1 : Nat) : Int) = some b) (h2 : tailB P k w = false → b = false) :
 xs18.l23 P W (P.length:Int) a (k:Int) w.1 w.2.1 w.2.2 W (W.length:Int) (k:Int) w.2.1 (w.2.1.length:Int) (w.2.1.length:Int)=some b:=by
 have h16:=W16 hp hw hl
 have hne:((P.length:Nat):Int)≠0:=by omega
 have hm:k % P.length<P.length:=Nat.mod_lt _ (by omega)
 have hwr:IntKind.i64.wrap ((k / P.length:Nat):Int)=((k / P.length:Nat):Int):=by
  have hq:=Nat.div_le_self k P.length
  generalize k / P.length=q at hq ⊢
  exact wrap_id (by omega) (by omega)
 have heq:((((k / P.length:Nat):Int)) == ((k % P.length:Nat):Int))=decide (k / P.length=k % P.length):=by
  by_cases h:k / P.length=k % P.length
  · rw [h]; simp
  · rw [dec_f h]; simp only [beq_eq_false_iff_ne,ne_eq]; omega
 have g1:=len_gt w.1.length 12
 have g2:=len_gt w.2.1.length 200
 have g3:decide ((w.1.length:Int) > 0) = !decide (w.1.length=0):=by by_cases h:w.1.length=0 <;> simp [h]; omega
 have g4:decide ((w.2.1.length:Int) > 0) = !decide (w.2.1.length=0):=by by_cases h:w.2.1.length=0 <;> simp [h]; omega
 refine xs18.eq23 _ _ _ _ _ _ _ _ _ _ _ _ _ _ ?_
 simp only [xs18.t23,ix_lt,Nat.lt_irrefl,decide_false,cond_false,dec_t hne,cond_true,tmod_nat,tdiv_nat,hwr,heq,ix_nn,ix_nat,dec_t hm,wrap_succ (show k<9223372036854775807 by omega)]
 rw [show decide ((w.1.length:Int) > 12) = !decide (w.1.length≤12) from g1,show decide ((w.2.1.length:Int) > 200) = !decide (w.2.1.length≤200) from g2]
 simp only [g3,g4]
 unfold tailB at h1 h2
 revert h1 h2
 generalize xs18.l13 P W (P.length:Int) a W (W.length:Int) ((k+1:Nat):Int)=c
 cases decide (w.1.length ≤ 12) <;> cases decide (w.2.1.length ≤ 200) <;> cases decide (k / P.length = k % P.length) <;> cases decide (w.1.length = 0) <;> cases decide (w.2.1.length = 0) <;> cases w.2.2 <;> cases (P.getD (k % P.length) zP).2.2 <;>
  intro h1 h2 <;> first | exact h1 rfl | (rw [h2 rfl]; rfl)
theorem spec_recs {k : Nat} (hk : k < W.length) {w : Wir} (hx : W.getD k zW = w) : ∀ j, j ≤ w.2.1.length → ∀ (a : Int) (b : Bool), 0 ≤ a → a ≤ 4000000000000000000 + j * 1000000 →
 ((w.2.1.drop j).all (inB 1 1000000)=true→tailB P k w=true→xs18.l13 P W (P.length:Int) (a+sumI (w.2.1.drop j)) W (W.length:Int) ((k+1:Nat):Int)=some b)→(((w.2.1.drop j).all (inB 1 1000000) && tailB P k w)=false→b=false) →
 xs18.l23 P W (P.length:Int) a (k:Int) w.1 w.2.1 w.2.2 W (W.length:Int) (k:Int) w.2.1 (w.2.1.length:Int) (j:Int)=some b:=by
 have hl1:=hl w (by rw [← hx]; exact getD_mem zW hk)
 refine upto ?_ ?_
 · intro a b _ _ h1 h2
   rw [List.drop_length] at h1 h2
   refine spec_tail hp hw hl hk hx (fun h => ?_) fun h => h2 (by rw [h]; rfl)
   have:=h1 rfl h
   simpa [sumI] using this
 · intro j hj ih a b ha hb h1 h2
   rw [drop_getD 0 hj] at h1 h2
   simp only [List.all_cons,sumI] at h1 h2
   refine xs18.eq23 _ _ _ _ _ _ _ _ _ _ _ _ _ _ ?_
   simp only [xs18.t23,ix_lt,ix_nn,ix_nat,dec_t hj,cond_true,xs13_eq,Option.bind_some,wrap_succ (show j<9223372036854775807 by omega)]
   generalize w.2.1.getD j 0=x at h1 h2 ⊢
   by_cases h0:x=0
   · have : (x == 0) = true := by simpa using h0
     have h3:inB 1 1000000 x=false:=by rw [h0]; rfl
     rw [this,h2 (by rw [h3]; rfl)]
     rfl
   · have h3 : (x == 0) = false := by simpa using h0
     have h4:inB 1 1000000 x=inB 0 1000000 x:=bool_eq (by rw [inB_iff,inB_iff]; omega)
     rw [h4] at h1 h2
     cases h5:inB 0 1000000 x with
     | false => rw [h3,h2 (by rw [h5]; rfl)]; rfl
     | true =>
       have h6:=inB_iff.1 h5
       rw [h5,Bool.true_and] at h1 h2
       simp only [h3,cond_false,bang_t]
       rw [wrap_id (by omega) (by omega)]
       refine ih _ _ (by omega) (by omega) (fun g1 g2 => ?_) h2
       rw [show a+x+sumI (w.2.1.drop (j+1))=a+(x+sumI (w.2.1.drop (j+1))) by omega]
       exact h1 g1 g2
theorem spec_words {k : Nat} (hk : k < W.length) {w : Wir} (hx : W.getD k zW = w) : ∀ j, j ≤ w.1.length → ∀ (a : Int) (b : Bool), 0 ≤ a → a ≤ 2000000000000000000 + j * 1000000 →
 ((w.1.drop j).all (inB 0 1000000)=true→w.2.1.all (inB 1 1000000)=true→tailB P k w=true→xs18.l13 P W (P.length:Int) (a+(sumI (w.1.drop j)+sumI w.2.1)) W (W.length:Int) ((k+1:Nat):Int)=some b) →
 (((w.1.drop j).all (inB 0 1000000) && (w.2.1.all (inB 1 1000000) && tailB P k w))=false→b=false) →
 xs18.l16 P W (P.length:Int) a (k:Int) w.1 w.2.1 w.2.2 W (W.length:Int) (k:Int) w.1 (w.1.length:Int) (j:Int)=some b:=by
 have hl1:=hl w (by rw [← hx]; exact getD_mem zW hk)
 refine upto ?_ ?_
 · intro a b ha hb h1 h2
   rw [List.drop_length] at h1 h2
   refine xs18.eq16 _ _ _ _ _ _ _ _ _ _ _ _ _ _ ?_
   simp only [xs18.t16,ix_lt,Nat.lt_irrefl,decide_false,cond_false]
   refine spec_recs hp hw hl hk hx 0 (Nat.zero_le _) a b ha (by omega) (fun g1 g2 => ?_) fun g => h2 (by simpa using g)
   have:=h1 rfl (by simpa using g1) g2
   simpa [sumI] using this
 · intro j hj ih a b ha hb h1 h2
   rw [drop_getD 0 hj] at h1 h2
   simp only [List.all_cons,sumI] at h1 h2
   refine xs18.eq16 _ _ _ _ _ _ _ _ _ _ _ _ _ _ ?_
   simp only [xs18.t16,ix_lt,ix_nn,ix_nat,dec_t hj,cond_true,xs13_eq,Option.bind_some,wrap_succ (show j<9223372036854775807 by omega)]
   generalize w.1.getD j 0=x at h1 h2 ⊢
   cases h5:inB 0 1000000 x with
   | false => rw [h2 (by rw [h5]; rfl)]; rfl
   | true =>
     have h6:=inB_iff.1 h5
     rw [h5,Bool.true_and] at h1 h2
     simp only [cond_false,bang_t]
     rw [wrap_id (by omega) (by omega)]
     refine ih _ _ (by omega) (by omega) (fun g1 g2 g3 => ?_) h2
     rw [show a+x+(sumI (w.1.drop (j+1))+sumI w.2.1)=a+(x+sumI (w.1.drop (j+1))+sumI w.2.1) by omega]
     exact h1 g1 g2 g3
theorem spec_GoodSnap_l13:∀ i,i≤W.length→∀ a:Int,0≤a→a≤20000000000+i * 3000000000000000→xs18.l13 P W (P.length:Int) a W (W.length:Int) (i:Int)=some (wiresB P i (W.drop i) && leB (a+totW (W.drop i))):=by
 have h16:=W16 hp hw hl
 refine upto ?_ ?_
 · intro a _ _
   refine xs18.eq13 _ _ _ _ _ _ _ ?_
   rw [List.drop_length]
   simp only [xs18.t13,ix_lt,Nat.lt_irrefl,decide_false,cond_false,wiresB,totW,Int.add_zero,Bool.true_and,leB]
 · intro i hi ih a ha hb
   refine xs18.eq13 _ _ _ _ _ _ _ ?_
   simp only [xs18.t13,ix_lt,ix_nn,ix_nat,dec_t hi,cond_true]
   rw [drop_getD zW hi]
   have hl1:=hl _ (getD_mem zW hi)
   generalize hx:W.getD i zW=w at hl1 ⊢
   simp only [wiresB,totW,wireB_tail]
   refine spec_words hp hw hl hi hx 0 (Nat.zero_le _) a _ ha (by omega) (fun g1 g2 g3 => ?_) fun g => ?_
   · rw [List.drop_zero] at g1 ⊢
     have k1:=sumI_bound g1
     have k2:=sumI_bound (all_10 g2)
     rw [ih _ (by omega) (by omega),g1,g2,g3]
     simp only [Bool.true_and]
     congr 3
     omega
   · rw [List.drop_zero] at g
     rw [g]; rfl
theorem spec_GoodSnap_l6:∀ i,i≤P.length→∀ a:Int,0≤a→a≤i * 4000000000→xs18.l6 P W (P.length:Int) a P (P.length:Int) (i:Int)=some ((P.drop i).all procB && (wiresB P 0 W && leB (a+totP (P.drop i)+totW W))):=by
 refine upto ?_ ?_
 · intro a ha hb
   refine xs18.eq6 _ _ _ _ _ _ _ ?_
   have:=spec_GoodSnap_l13 hp hw hl 0 (Nat.zero_le _) a ha (by omega)
   rw [List.drop_length]
   simp only [xs18.t6,ix_lt,Nat.lt_irrefl,decide_false,cond_false]
   simpa [totP] using this
 · intro i hi ih a ha hb
   refine xs18.eq6 _ _ _ _ _ _ _ ?_
   simp only [xs18.t6,ix_lt,ix_nn,ix_nat,dec_t hi,cond_true,xs1i_eq,Option.bind_some,wrap_succ (show i<9223372036854775807 by omega)]
   rw [drop_getD zP hi]
   generalize hx:P.getD i zP=p
   simp only [List.all_cons,procB,totP]
   cases h1:inB 0 2000000000 p.1 with
   | false => simp
   | true =>
     cases h2:inB 0 2000000000 p.2.1 with
     | false => simp
     | true =>
       have g1:=inB_iff.1 h1
       have g2:=inB_iff.1 h2
       have cont:xs18.l6 P W (P.length:Int) (IntKind.i64.wrap (a+IntKind.i64.wrap (p.1+p.2.1))) P (P.length:Int) ((i+1:Nat):Int)=some ((P.drop (i+1)).all procB && (wiresB P 0 W && leB (a+(p.1+p.2.1+totP (P.drop (i+1)))+totW W))):=by
         rw [wrap_id (x:=p.1+p.2.1) (by omega) (by omega),wrap_id (by omega) (by omega),ih _ (by omega) (by omega)]
         congr 4
         omega
       simp only [bang_t,cond_false,cont]
       cases p.2.2 with
       | true =>
         simp only [bang_t,cond_false,Bool.true_or,Bool.true_and]
       | false =>
         by_cases h3:p.2.1=0
         · have h4 : (p.2.1 != 0) = false := by simpa using h3
           have h5:(p.2.1 == 0)=true:=by simpa using h3
           simp only [bang_f,cond_true,h4,h5,cond_false,Bool.or_true,Bool.true_and]
         · have h4 : (p.2.1 != 0) = true := by simpa using h3
           have h5:(p.2.1 == 0)=false:=by simpa using h3
           simp only [bang_f,cond_true,h4,h5,Bool.or_false,Bool.and_false,Bool.false_and]
end
theorem sq_big (n:Nat) (h:n≤1073741824):IntKind.i64.wrap ((n:Int) * (n:Int))=((n * n:Nat):Int):=by
 have h1:n * n≤1073741824 * 1073741824:=Nat.mul_le_mul h h
 rw [wrap_id (by rw [← Int.natCast_mul]; omega) (by rw [← Int.natCast_mul]; omega),Int.natCast_mul]
theorem xs18_eq (P:List Prc) (W:List Wir) (hl:∀ w,w∈W→w.1.length≤1073741824∧w.2.1.length≤1073741824):xs18 P W=some (goodB P W):=by
 refine xs18.eq P W ?_
 simp only [xs18.t,xs1i_eq,Option.bind_some,inB24,goodB]
 by_cases hp:2≤P.length∧P.length≤4
 · rw [dec_t hp, sq_nat _ hp.2]
   by_cases hw:W.length=P.length * P.length
   · have h1 : ((W.length : Int) != ((P.length * P.length : Nat) : Int)) = false := by rw [hw]; simp
     have:=spec_GoodSnap_l6 hp hw hl 0 (Nat.zero_le _) 0 (by omega) (by omega)
     simp only [bang_t,cond_false,h1,dec_t hw,Bool.true_and]
     simpa using this
   · have h1 : ((W.length : Int) != ((P.length * P.length : Nat) : Int)) = true := by simp; omega
     simp only [bang_t,cond_false,h1,dec_f hw,cond_true,Bool.true_and,Bool.false_and]
 · rw [dec_f hp]
   simp only [bang_f,cond_true,Bool.false_and]
/-! ## Copies -/
theorem xs1g_eq (P:List Prc) (W:List Wir) (hP:P.length≤1073741824) (hW:W.length≤1073741824) (hl:∀ w,w∈W→w.1.length≤1073741824∧w.2.1.length≤1073741824):xs1g P W=some (P,W):=by
 refine xs1g.eq P W ?_
 have h0:([]:List Int).length+P.length≤4294967296:=by simp; omega
 simp only [xs1g.t,dec_t h0,cond_true,List.nil_append]
 have key:∀ i,i≤W.length→∀ acc:List Wir,acc.length=i→xs1g.l3 [] [] P acc W (W.length:Int) (i:Int)=some (P,acc ++ W.drop i):=by
  refine upto ?_ ?_
  · intro acc _
    refine xs1g.eq3 _ _ _ _ _ _ _ ?_
    rw [List.drop_length]
    simp only [xs1g.t3,ix_lt,Nat.lt_irrefl,decide_false,cond_false,List.append_nil]
  · intro i hi ih acc hacc
    have hl1:=hl _ (getD_mem zW hi)
    have h1:([]:List Int).length+(W.getD i zW).1.length≤4294967296:=by simp only [List.length_nil,Nat.zero_add]; omega
    have h2:([]:List Int).length+(W.getD i zW).2.1.length≤4294967296:=by simp only [List.length_nil,Nat.zero_add]; omega
    have h3:acc.length+[((W.getD i zW).1,(W.getD i zW).2.1,(W.getD i zW).2.2)].length≤4294967296:=by simp only [List.length_cons,List.length_nil]; omega
    refine xs1g.eq3 _ _ _ _ _ _ _ ?_
    simp only [xs1g.t3,ix_lt,ix_nn,ix_nat,dec_t hi,cond_true,dec_t h1,dec_t h2,dec_t h3,wrap_succ (show i<9223372036854775807 by omega),List.nil_append]
    rw [ih _ (by simp [hacc]),drop_getD zW hi,List.append_assoc]
    rfl
 have:=key 0 (Nat.zero_le _) [] rfl
 simpa using this
theorem clone_procs (l:List Prc) (h:l.length≤1073741824):xs0b l=some l:=by
 refine xs0b.eq l ?_
 have h1:l.length≤4294967296:=by omega
 simp only [xs0b.t,dec_t h1,cond_true]
theorem clone_ints (l:List Int) (h:l.length≤1073741824):xs0e l=some l:=by
 refine xs0e.eq l ?_
 have h1:l.length≤4294967296:=by omega
 simp only [xs0e.t,dec_t h1,cond_true]
theorem xi16_eq (P:List Prc) (W:List Wir) (hP:P.length≤1073741824) (hW:W.length≤1073741824) (hl:∀ w,w∈W→w.1.length≤1073741824∧w.2.1.length≤1073741824):xi16 P W=some (P,W):=by
 refine xi16.eq P W ?_
 simp only [xi16.t,clone_procs P hP,Option.bind_some]
 have key:∀ i,i≤W.length→∀ acc:List Wir,acc.length=i→xi16.l3 [] [] P acc W (W.length:Int) (i:Int)=some (P,acc ++ W.drop i):=by
  refine upto ?_ ?_
  · intro acc _
    refine xi16.eq3 _ _ _ _ _ _ _ ?_
    rw [List.drop_length]
    simp only [xi16.t3,ix_lt,Nat.lt_irrefl,decide_false,cond_false,List.append_nil]
  · intro i hi ih acc hacc
    have hl1:=hl _ (getD_mem zW hi)
    have h3:acc.length+[((W.getD i zW).1,(W.getD i zW).2.1,(W.getD i zW).2.2)].length≤4294967296:=by simp only [List.length_cons,List.length_nil]; omega
    refine xi16.eq3 _ _ _ _ _ _ _ ?_
    simp only [xi16.t3,ix_lt,ix_nn,ix_nat,dec_t hi,cond_true,clone_ints _ hl1.1,clone_ints _ hl1.2,Option.bind_some,dec_t h3,wrap_succ (show i<9223372036854775807 by omega)]
    rw [ih _ (by simp [hacc]),drop_getD zW hi,List.append_assoc]
    rfl
 have:=key 0 (Nat.zero_le _) [] rfl
 simpa using this
end GoV

/- Pictures: a step, alike. -/
namespace GoV
open Go
/-- What lies on the way is not too long. -/
def SnI (P:List Prc) (W:List Wir):Prop:=(2≤P.length∧P.length≤4)∧W.length=P.length * P.length∧∀ w,w∈W→w.1.length≤12∧w.2.1.length≤200∧∀ x,x∈w.1→0≤x
theorem wires_inv {P : List Prc} : ∀ {W : List Wir} {k : Nat}, wiresB P k W = true → ∀ w, w ∈ W → w.1.length ≤ 12 ∧ w.2.1.length ≤ 200 ∧ ∀ x, x ∈ w.1 → 0 ≤ x
 | [],_,_,w,hw => by simp at hw
 | v::W,k,h,w,hw => by
   simp only [wiresB,Bool.and_eq_true] at h
   rcases List.mem_cons.1 hw with rfl | hw
   · obtain ⟨h1, h2, h3, _⟩ := wire_bounds h.1
     exact ⟨h1,h3,fun x hx => (inB_iff.1 (List.all_eq_true.1 h2 x hx)).1⟩
   · exact wires_inv h.2 w hw
theorem good_inv {P:List Prc} {W:List Wir} (h:goodB P W=true):SnI P W:=by
 simp only [goodB,Bool.and_eq_true,decide_eq_true_eq] at h
 exact ⟨h.1,h.2.1,wires_inv h.2.2.2.1⟩
def setOpen (W:List Wir) (k:Nat) (b:Bool):List Wir:=W.set k ((W.getD k zW).1,(W.getD k zW).2.1,b)
def addWord (W:List Wir) (k:Nat) (x:Int):List Wir:=W.set k ((W.getD k zW).1 ++ [x],(W.getD k zW).2)
def saveF (n who : Nat) (shut : Int) : List Nat → List Wir → Bool × List Wir
 | [],W => (true,W)
 | o :: r, W => if o = who then saveF n who shut r W else
   let W1:=setOpen W (o * n+who) ((o:Int) != shut)
   if (W1.getD (who * n+o) zW).1.length=12 then (false,W1) else saveF n who shut r (addWord W1 (who * n+o) 0)
def doneAt (P:List Prc) (i:Nat):List Prc:=P.set i ((P.getD i zP).1,(P.getD i zP).1,true)
def saveR (P:List Prc) (W:List Wir) (who:Nat) (shut:Int):Bool × List Wir:=saveF P.length who shut (List.range P.length) W
theorem len12 {n:Nat} (h:n≠12):((n:Int) == 12)=false:=by
 simp only [beq_eq_false_iff_ne,ne_eq]; omega
theorem getD_set_self {α:Type} {l:List α} {i:Nat} {x z:α} (h:i<l.length):(l.set i x).getD i z=x:=by
 simp [List.getD_eq_getElem?_getD,h]
theorem idx_nat {n f t:Nat} (hn:n≤4) (hf:f<n) (ht:t<n):IntKind.i64.wrap (IntKind.i64.wrap ((f:Int) * (n:Int))+(t:Int))=((f * n+t:Nat):Int):=by
 have h1:f * n≤4 * 4:=Nat.mul_le_mul (by omega) hn
 rw [← Int.natCast_mul,wrap_id (x:=((f * n:Nat):Int)) (by omega) (by omega),wrap_id (by omega) (by omega)]
 omega
theorem idx_lt {n f t:Nat} (hf:f<n) (ht:t<n):f * n+t<n * n:=by
 have h1:(f+1) * n≤n * n:=Nat.mul_le_mul_right n hf
 have h2:(f+1) * n=f * n+n:=Nat.succ_mul f n
 omega
theorem SnI.setOpen {P:List Prc} {W:List Wir} (h:SnI P W) {k:Nat} (hk:k<W.length) (b:Bool):SnI P (GoV.setOpen W k b):=by
 refine ⟨h.1,by simp [GoV.setOpen,h.2.1],fun w hw => ?_⟩
 rcases List.mem_or_eq_of_mem_set hw with hw | rfl
 · exact h.2.2 w hw
 · have h1 := h.2.2 _ (getD_mem zW hk)
   exact h1
theorem SnI.addWord {P:List Prc} {W:List Wir} (h:SnI P W) {k:Nat} (hk:k<W.length) {x:Int} (hx:0≤x) (hl:(W.getD k zW).1.length≠12):SnI P (GoV.addWord W k x):=by
 have h1:=h.2.2 _ (getD_mem zW hk)
 refine ⟨h.1,by simp [GoV.addWord,h.2.1],fun w hw => ?_⟩
 rcases List.mem_or_eq_of_mem_set hw with hw | rfl
 · exact h.2.2 w hw
 · refine ⟨by simp only [List.length_append, List.length_singleton]; omega, h1.2.1, fun y hy => ?_⟩
   rcases List.mem_append.1 hy with hy | hy
   · exact h1.2.2 y hy
   · rw [List.mem_singleton.1 hy]; exact hx
section
variable {P:List Prc} {i:Nat} (hi:i<P.length)
include hi
theorem impl_save_l4 (thr : Int) : ∀ o, o ≤ P.length → ∀ W : List Wir, SnI P W → xi0i.l4 P W (i : Int) thr (P.length : Int) (o : Int) =
 some ((saveF P.length i thr ((List.range P.length).drop o) W).1,P,(saveF P.length i thr ((List.range P.length).drop o) W).2):=by
 refine upto ?_ ?_
 · intro W _
   refine xi0i.eq4 _ _ _ _ _ _ ?_
   rw [List.drop_eq_nil_of_le (by simp)]
   simp only [xi0i.t4,ix_lt,Nat.lt_irrefl,decide_false,cond_false,saveF]
 · intro o ho ih W hI
   have hn:=hI.1
   have hdrop:(List.range P.length).drop o=o::(List.range P.length).drop (o+1):=by
    rw [drop_getD 0 (by simpa using ho)]
    congr 1
    simp [List.getD_eq_getElem?_getD,ho]
   rw [hdrop]
   refine xi0i.eq4 _ _ _ _ _ _ ?_
   have k1:o * P.length+i<W.length:=by rw [hI.2.1]; exact idx_lt ho hi
   have k2:i * P.length+o<W.length:=by rw [hI.2.1]; exact idx_lt hi ho
   simp only [xi0i.t4,ix_lt,dec_t ho,cond_true,wrap_succ (show o<9223372036854775807 by omega),idx_nat hn.2 ho hi,idx_nat hn.2 hi ho,ix_nn,ix_nat,dec_t k1,List.length_set,dec_t k2]
   by_cases e:o=i
   · have : ((o : Int) == (i : Int)) = true := by simp [e]
     rw [this]
     simp only [cond_true,saveF,if_pos e]
     exact ih W hI
   · have : ((o : Int) == (i : Int)) = false := by simp; omega
     rw [this]
     simp only [cond_false,saveF,if_neg e]
     have hI1:=hI.setOpen k1 ((o:Int) != thr)
     have k3:i * P.length+o<(setOpen W (o * P.length+i) ((o:Int) != thr)).length:=by simpa [setOpen] using k2
     have hS:W.set (o * P.length+i) ((W.getD (o * P.length+i) zW).1,(W.getD (o * P.length+i) zW).2.1,(o:Int) != thr)=setOpen W (o * P.length+i) ((o:Int) != thr):=rfl
     simp only [hS]
     by_cases h12:((setOpen W (o * P.length+i) ((o:Int) != thr)).getD (i * P.length+o) zW).1.length=12
     · have h13 : ((((setOpen W (o * P.length + i) ((o : Int) != thr)).getD (i * P.length + o) zW).1.length : Int) == 12) = true := by rw [h12]; rfl
       simp only [if_pos h12,h13,cond_true]
     · have h13 : ((((setOpen W (o * P.length + i) ((o : Int) != thr)).getD (i * P.length + o) zW).1.length : Int) == 12) = false := len12 h12
       have hle:=(hI1.2.2 _ (getD_mem zW k3)).1
       have h14:((setOpen W (o * P.length+i) ((o:Int) != thr)).getD (i * P.length+o) zW).1.length+[(0:Int)].length≤4294967296:=by simp only [List.length_singleton]; omega
       simp only [if_neg h12,h13,cond_false,dec_t h14,cond_true,decide_true]
       exact ih _ (hI1.addWord k3 (Int.le_refl 0) h12)
theorem impl_save_eq {W:List Wir} (hI:SnI P W) (thr:Int):xi0i P W (i:Int) thr=some ((saveR P W i thr).1,doneAt P i,(saveR P W i thr).2):=by
 refine xi0i.eq _ _ _ _ ?_
 have e1:(P.set i ((P.getD i zP).1,(P.getD i zP).1,(P.getD i zP).2.2)).getD i zP=((P.getD i zP).1,(P.getD i zP).1,(P.getD i zP).2.2):=getD_set_self hi
 have hd:i<(doneAt P i).length:=by simpa [doneAt] using hi
 have hI':SnI (doneAt P i) W:=by simpa [SnI,doneAt] using hI
 have:=impl_save_l4 hd thr 0 (Nat.zero_le _) W hI'
 have hlen:(doneAt P i).length=P.length:=by simp [doneAt]
 simp only [xi0i.t,ix_nn,ix_nat,dec_t hi,List.length_set,cond_true,e1,List.set_set]
 rw [List.drop_zero,hlen] at this
 exact this
end
/-- Whom the marker came from is no matter at a start. -/
theorem saveF_start {n who : Nat} : ∀ {l : List Nat} {W : List Wir}, saveF n who (-1) l W = saveF n who (who : Int) l W
 | [],W => rfl
 | o::l,W => by
   simp only [saveF]
   by_cases e:o=who
   · rw [if_pos e,if_pos e]; exact saveF_start
   · have h1 : ((o : Int) != -1) = true := by simp only [bne_iff_ne, ne_eq]; omega
     have h2:((o:Int) != (who:Int))=true:=by simp only [bne_iff_ne,ne_eq]; omega
     rw [if_neg e,if_neg e,h1,h2,saveF_start]
end GoV

/- Pictures: a step of the program's. -/
namespace GoV
open Go
/-- A word is taken. -/
def takeR (P:List Prc) (W:List Wir) (f t:Nat):Bool × List Prc × List Wir :=
 let k:=f * P.length+t
 let w:=W.getD k zW
 if w.1.length=0∨200≤w.2.1.length then (false,P,W) else
 if w.1.getD 0 0 = 0 then
    if (P.getD t zP).2.2=true then (true,P,W.set k (w.1.drop 1,w.2.1,false))
    else ((saveR P (W.set k (w.1.drop 1,w.2)) t f).1,doneAt P t,(saveR P (W.set k (w.1.drop 1,w.2)) t f).2)
 else (true, P.set t (IntKind.i64.wrap ((P.getD t zP).1 + w.1.getD 0 0), (P.getD t zP).2),
    if w.2.2=true then W.set k (w.1.drop 1,w.2.1 ++ [w.1.getD 0 0],w.2.2) else W.set k (w.1.drop 1,w.2))
/-- A word is sent. -/
def sendR (P:List Prc) (W:List Wir) (f t:Nat) (by_:Int):Bool × List Prc × List Wir :=
 let k:=f * P.length+t
 if (inB 1 (P.getD f zP).1 by_ && inB 0 1000000 by_) = true ∧ (W.getD k zW).1.length ≠ 12 then
    (true,P.set f (IntKind.i64.wrap ((P.getD f zP).1 - by_),(P.getD f zP).2),addWord W k by_)
 else (false,P,W)
def stepR (P:List Prc) (W:List Wir) (kind f t by_:Int):Bool × List Prc × List Wir :=
 if ¬(0≤f∧f<P.length) then (false,P,W) else
 if kind=3 then (if (P.getD f.toNat zP).2.2=true then (false,P,W) else ((saveR P W f.toNat f).1,doneAt P f.toNat,(saveR P W f.toNat f).2)) else
 if ¬(0≤t∧t<P.length) then (false,P,W) else
 if f=t then (false,P,W) else
 if kind=1 then sendR P W f.toNat t.toNat by_ else
 if kind=2 then takeR P W f.toNat t.toNat else (false,P,W)
theorem toNat1:(1:Int).toNat=1:=rfl
theorem inB_min (b a:Int):inB 1 (if (1000000:Int)<a then 1000000 else a) b=(inB 1 a b && inB 0 1000000 b):=by
 refine bool_eq ?_
 rw [Bool.and_eq_true,inB_iff,inB_iff,inB_iff]
 split <;> omega
theorem SnI.dropW {P:List Prc} {W:List Wir} (h:SnI P W) {k:Nat} (hk:k<W.length):SnI P (W.set k ((W.getD k zW).1.drop 1,(W.getD k zW).2)):=by
 have h1:=h.2.2 _ (getD_mem zW hk)
 refine ⟨h.1,by simp [h.2.1],fun w hw => ?_⟩
 rcases List.mem_or_eq_of_mem_set hw with hw | rfl
 · exact h.2.2 w hw
 · refine ⟨by simp only [List.length_drop]; omega,h1.2.1,fun y hy => h1.2.2 y (List.mem_of_mem_drop hy)⟩
section
variable {P:List Prc} {W:List Wir} (hI:SnI P W) {f t:Nat} (hf:f<P.length) (ht:t<P.length)
include hI hf ht
theorem impl_send_eq (kind by_:Int):xi0j P W kind (f:Int) (t:Int) by_=some (sendR P W f t by_):=by
 have hn:=hI.1
 have hk:f * P.length+t<W.length:=by rw [hI.2.1]; exact idx_lt hf ht
 refine xi0j.eq _ _ _ _ _ _ ?_
 simp only [xi0j.t,idx_nat hn.2 hf ht,ix_nn,ix_nat,dec_t hk,dec_t hf,cond_true,if_true,xi1f_eq,Option.bind_some,inB_min,sendR]
 cases (inB 1 (P.getD f zP).1 by_ && inB 0 1000000 by_) with
 | false => simp only [Bool.not_false,cond_true,Bool.false_eq_true,false_and,if_false]
 | true =>
   by_cases h12:(W.getD (f * P.length+t) zW).1.length=12
   · have h13 : (((W.getD (f * P.length + t) zW).1.length : Int) == 12) = true := by rw [h12]; rfl
     simp only [Bool.not_true,cond_false,h13,cond_true]
     rw [if_neg (fun h => h.2 h12)]
   · have h13 : (((W.getD (f * P.length + t) zW).1.length : Int) == 12) = false := len12 h12
     have hle:=(hI.2.2 _ (getD_mem zW hk)).1
     have h14:(W.getD (f * P.length+t) zW).1.length+[by_].length≤4294967296:=by simp only [List.length_singleton]; omega
     simp only [Bool.not_true,cond_false,h13,dec_t h14,cond_true,decide_true,addWord,h12,ne_eq,not_false_eq_true,and_self,if_true]
theorem impl_take_eq:xi0l P W (f:Int) (t:Int)=some (takeR P W f t):=by
 have hn:=hI.1
 have hk:f * P.length+t<W.length:=by rw [hI.2.1]; exact idx_lt hf ht
 have hI1:=hI.dropW hk
 refine xi0l.eq _ _ _ _ ?_
 have hg:∀ x:Wir,(W.set (f * P.length+t) x).getD (f * P.length+t) zW=x:=fun x => getD_set_self hk
 have hb:=hI.2.2 _ (getD_mem zW hk)
 simp only [xi0l.t,idx_nat hn.2 hf ht,ix_nn,ix_nat,dec_t hk,dec_t ht,cond_true,takeR,List.length_set,hg,List.set_set,Option.getD_some,decide_true,impl_save_eq ht hI1,Option.bind_some]
 generalize hw:W.getD (f * P.length+t) zW=w at hb ⊢
 by_cases h0:w.1.length=0
 · have h1 : ((w.1.length : Int) == 0) = true := by rw [h0]; rfl
   simp only [h1,cond_true]
   rw [if_pos (Or.inl h0)]
 · have h1 : ((w.1.length : Int) == 0) = false := by simp only [beq_eq_false_iff_ne, ne_eq]; omega
   by_cases h2:200≤w.2.1.length
   · have h3 : decide ((w.2.1.length : Int) ≥ 200) = true := dec_t (by omega)
     simp only [h1,h3,cond_true,cond_false]
     rw [if_pos (Or.inr h2)]
   · have h3 : decide ((w.2.1.length : Int) ≥ 200) = false := dec_f (by omega)
     have h4:0<w.1.length:=by omega
     have h5:(1:Int)≤(w.1.length:Int):=by omega
     have h6:w.2.1.length+[w.1.getD (0:Nat) (0:Int)].length≤4294967296:=by simp only [List.length_singleton]; omega
     simp only [h1,h3,cond_false,Int.toNat_zero,dec_t h4,dec_t h5,dec_t h6,cond_true]
     rw [if_neg (by omega)]
     by_cases h7:w.1.getD 0 0=0
     · have h8 : (w.1.getD 0 0 != 0) = false := by simpa using h7
       rw [h8,if_pos h7,cond_false]
       cases hd:(P.getD t zP).2.2 with
       | false =>
         rw [if_neg (by simp)]
         have e:=impl_save_eq ht (W:=W.set (f * P.length+t) (w.1.drop 1,w.2)) (by rw [← hw]; exact hI1) (f:Int)
         simp only [toNat1,e,Option.bind_some,Bool.not_false,cond_true]
       | true => rw [if_pos rfl]; rfl
     · have h8 : (w.1.getD 0 0 != 0) = true := by simpa using h7
       rw [h8,if_neg h7,cond_true]
       cases w.2.2 with
       | false => rfl
       | true => rfl
end
theorem lt_of_in {f:Int} {n:Nat} (h:0≤f∧f<n):f.toNat<n:=by omega
theorem in_last (n:Nat) (hn:2≤n∧n≤4) (f:Int):inB 0 (IntKind.i64.wrap ((n:Int) - 1)) f=decide (0≤f∧f<n):=by
 rw [wrap_id (by omega) (by omega)]
 refine bool_eq ?_
 rw [inB_iff,decide_eq_true_eq]
 omega
theorem impl_step_eq {P:List Prc} {W:List Wir} (hI:SnI P W) (kind f t by_:Int):xi0k P W kind f t by_=some (stepR P W kind f t by_):=by
 have hn:=hI.1
 refine xi0k.eq _ _ _ _ _ _ ?_
 simp only [xi0k.t,xi1f_eq,Option.bind_some,in_last _ hn,stepR]
 by_cases hf:0≤f∧f<P.length
 · have hf' := lt_of_in hf
   have ef:((f.toNat:Nat):Int)=f:=by omega
   rw [dec_t hf,if_neg (fun h => h hf),Bool.not_true,cond_false]
   by_cases h3:kind=3
   · have h3' : (kind == 3) = true := by simpa using h3
     rw [h3',if_pos h3,cond_true,dec_t hf.1,cond_true,dec_t hf',cond_true,cond_true]
     cases hd:(P.getD f.toNat zP).2.2 with
     | true => rfl
     | false =>
       have e:=impl_save_eq hf' hI f
       rw [ef] at e
       simp only [e,Option.bind_some,Bool.not_false,cond_true]
       rfl
   · have h3' : (kind == 3) = false := by simpa using h3
     rw [h3',if_neg h3,cond_false]
     by_cases ht:0≤t∧t<P.length
     · have ht' := lt_of_in ht
       have et:((t.toNat:Nat):Int)=t:=by omega
       rw [dec_t ht,if_neg (fun h => h ht),Bool.not_true,cond_false]
       by_cases hft:f=t
       · have h4 : (t == f) = true := by simpa using hft.symm
         rw [h4,if_pos hft,cond_true]
       · have h4 : (t == f) = false := by simpa using fun h => hft h.symm
         rw [h4,if_neg hft,cond_false]
         have e1:=impl_send_eq hI hf' ht' kind by_
         have e2:=impl_take_eq hI hf' ht'
         rw [ef,et] at e1 e2
         rw [e1,e2]
         by_cases h1:kind=1
         · subst h1; rfl
         · have h1' : (kind == 1) = false := by simpa using h1
           rw [h1',if_neg h1,cond_false]
           by_cases h2:kind=2
           · subst h2; rfl
           · have h2' : (kind == 2) = false := by simpa using h2
             rw [h2',if_neg h2,cond_false]
     · rw [dec_f ht,if_pos ht,Bool.not_false,cond_true]
 · rw [dec_f hf,if_pos hf,Bool.not_false,cond_true]
end GoV

/- Pictures: what a step leaves is as it should be; good ones are small. -/
namespace GoV
open Go
theorem saveF_inv {P : List Prc} {i : Nat} (hi : i < P.length) (thr : Int) : ∀ (l : List Nat) (W : List Wir), (∀ o, o ∈ l → o < P.length) → SnI P W → SnI P (saveF P.length i thr l W).2
 | [],W,_,h => h
 | o::l,W,hl,h => by
   have ho:=hl o (List.mem_cons_self ..)
   have hl':∀ q,q∈l→q<P.length:=fun q hq => hl q (List.mem_cons_of_mem _ hq)
   have k1:o * P.length+i<W.length:=by rw [h.2.1]; exact idx_lt ho hi
   have h1:=h.setOpen k1 ((o:Int) != thr)
   have k2:i * P.length+o<(setOpen W (o * P.length+i) ((o:Int) != thr)).length:=by rw [h1.2.1]; exact idx_lt hi ho
   simp only [saveF]
   by_cases e:o=i
   · rw [if_pos e]; exact saveF_inv hi thr l W hl' h
   · rw [if_neg e]
     by_cases e2:((setOpen W (o * P.length+i) ((o:Int) != thr)).getD (i * P.length+o) zW).1.length=12
     · rw [if_pos e2]; exact h1
     · rw [if_neg e2]; exact saveF_inv hi thr l _ hl' (h1.addWord k2 (Int.le_refl 0) e2)
theorem saveR_inv {P:List Prc} {W:List Wir} (h:SnI P W) {i:Nat} (hi:i<P.length) (thr:Int):SnI (doneAt P i) (saveR P W i thr).2:=by
 have:=saveF_inv hi thr (List.range P.length) W (fun o ho => List.mem_range.1 ho) h
 simpa [SnI,doneAt,saveR] using this
theorem SnI.proc {P:List Prc} {W:List Wir} (h:SnI P W) (i:Nat) (p:Prc):SnI (P.set i p) W:=by simpa [SnI] using h
theorem SnI.wire {P:List Prc} {W:List Wir} (h:SnI P W) (k:Nat) {w:Wir} (hw:w.1.length≤12∧w.2.1.length≤200∧∀ x,x∈w.1→0≤x):SnI P (W.set k w):=by
 refine ⟨h.1,by simp [h.2.1],fun v hv => ?_⟩
 rcases List.mem_or_eq_of_mem_set hv with hv | rfl
 · exact h.2.2 v hv
 · exact hw
theorem step_inv {P:List Prc} {W:List Wir} (h:SnI P W) (kind f t by_:Int):SnI (stepR P W kind f t by_).2.1 (stepR P W kind f t by_).2.2:=by
 unfold stepR
 split
 · exact h
 rename_i hf
 have hf:0≤f∧f<P.length:=Decidable.not_not.1 hf
 have hf':=lt_of_in hf
 split
 · split
   · exact h
   · exact saveR_inv h hf' f
 split
 · exact h
 rename_i ht
 have ht:0≤t∧t<P.length:=Decidable.not_not.1 ht
 have ht':=lt_of_in ht
 have hk:f.toNat * P.length+t.toNat<W.length:=by rw [h.2.1]; exact idx_lt hf' ht'
 split
 · exact h
 split
 · unfold sendR
   simp only
   split
   · rename_i h1
     have h2:=inB_iff.1 (Bool.and_eq_true_iff.1 h1.1).2
     exact (h.addWord hk h2.1 h1.2).proc _ _
   · exact h
 split
 · unfold takeR
   have hb:=h.2.2 _ (getD_mem zW hk)
   have hd:∀ y,y∈(W.getD (f.toNat * P.length+t.toNat) zW).1.drop 1→0≤y:=fun y hy => hb.2.2 y (List.mem_of_mem_drop hy)
   have hl:((W.getD (f.toNat * P.length+t.toNat) zW).1.drop 1).length≤12:=by simp only [List.length_drop]; omega
   simp only
   split
   · exact h
   rename_i h1
   split
   · split
     · exact h.wire _ ⟨hl,hb.2.1,hd⟩
     · exact saveR_inv (h.dropW hk) ht' _
   · refine SnI.proc ?_ _ _
     split
     · refine h.wire _ ⟨hl, ?_, hd⟩
       simp only [List.length_append,List.length_singleton]; omega
     · exact h.wire _ ⟨hl,hb.2.1,hd⟩
 · exact h
theorem SnI.hl {P:List Prc} {W:List Wir} (h:SnI P W):∀ w,w∈W→w.1.length≤1073741824∧w.2.1.length≤1073741824:=fun w hw => by have:=h.2.2 w hw; omega
theorem SnI.w16 {P:List Prc} {W:List Wir} (h:SnI P W):W.length≤16:=by
 rw [h.2.1]
 exact Nat.mul_le_mul h.1.2 h.1.2
abbrev TSn:Ty:=.pair (.sl (.pair (.int .i64) (.pair (.int .i64) .bool))) (.sl (.pair (.sl (.int .i64)) (.pair (.sl (.int .i64)) .bool)))
theorem SnI.size {P:List Prc} {W:List Wir} (h:SnI P W):szT TSn (P,W)≤1073741824:=by
 have h1:szT (.sl (.pair (.int .i64) (.pair (.int .i64) .bool))) P=P.length:=szT_sl_flat (t:=.pair (.int .i64) (.pair (.int .i64) .bool)) P rfl
 have h2:∀ (V:List Wir),(∀ w,w∈V→w.1.length≤12∧w.2.1.length≤200∧∀ x,x∈w.1→0≤x)→szT (.sl (.pair (.sl (.int .i64)) (.pair (.sl (.int .i64)) .bool))) V≤V.length * 1000:=by
  intro V
  induction V with
  | nil => intro _; simp [szT]
  | cons w V ih =>
    intro hV
    have h3:=ih fun v hv => hV v (List.mem_cons_of_mem _ hv)
    have h4:=hV w (List.mem_cons_self ..)
    have h5:szT (.sl (.int .i64)) w.1=w.1.length:=szT_sl_flat (t:=.int .i64) w.1 rfl
    have h6:szT (.sl (.int .i64)) w.2.1=w.2.1.length:=szT_sl_flat (t:=.int .i64) w.2.1 rfl
    simp only [szT,List.map_cons,List.length_cons,List.sum_cons] at h3 h5 h6 ⊢
    omega
 have h3:=h2 W h.2.2
 have h4:=h.w16
 have h5:=h.1
 simp only [szT] at h1 h3 ⊢
 omega
/-- A step, from a good picture into a good one. -/
def stepS (P:List Prc) (W:List Wir) (kind f t by_:Int):List Prc × List Wir × Bool :=
 bif (stepR P W kind f t by_).1 && goodB (stepR P W kind f t by_).2.1 (stepR P W kind f t by_).2.2 then ((stepR P W kind f t by_).2.1,(stepR P W kind f t by_).2.2,true) else ([],[],false)
theorem impl_stepped_eq {P:List Prc} {W:List Wir} (h:SnI P W) (kind f t by_:Int):xi0r P W kind f t by_=some (stepS P W kind f t by_):=by
 have h':=step_inv h kind f t by_
 have b1:=h.w16
 have b2:=h'.w16
 have b3:=h.1
 have b4:=h'.1
 refine xi0r.eq _ _ _ _ _ _ ?_
 simp only [xi0r.t,xi16_eq P W (by omega) (by omega) h.hl,impl_step_eq h,xi14_eq _ _ h'.hl,xi16_eq _ _ (show (stepR P W kind f t by_).2.1.length≤1073741824 by omega) (by omega) h'.hl,Option.bind_some,stepS]
 cases (stepR P W kind f t by_).1 with
 | false => rfl
 | true =>
   cases goodB (stepR P W kind f t by_).2.1 (stepR P W kind f t by_).2.2 with
   | false => rfl
   | true => rfl
end GoV

/- Pictures: a step of the specification's. -/
namespace GoV
open Go
section
variable {P:List Prc} {i:Nat} (hi:i<P.length)
include hi
theorem spec_save_l5 (thr : Int) (W0 : List Wir) (P0 : List Prc) : ∀ o, o ≤ P.length → ∀ W : List Wir, SnI P W → xs0w.l5 (i : Int) thr P W P0 W0 (P.length : Int) (o : Int) =
 some (P,(saveF P.length i thr ((List.range P.length).drop o) W).2,(saveF P.length i thr ((List.range P.length).drop o) W).1):=by
 refine upto ?_ ?_
 · intro W _
   refine xs0w.eq5 _ _ _ _ _ _ _ _ ?_
   rw [List.drop_eq_nil_of_le (by simp)]
   simp only [xs0w.t5,ix_lt,Nat.lt_irrefl,decide_false,cond_false,saveF]
 · intro o ho ih W hI
   have hn:=hI.1
   have hdrop:(List.range P.length).drop o=o::(List.range P.length).drop (o+1):=by
    rw [drop_getD 0 (by simpa using ho)]
    congr 1
    simp [List.getD_eq_getElem?_getD,ho]
   rw [hdrop]
   refine xs0w.eq5 _ _ _ _ _ _ _ _ ?_
   have k1:o * P.length+i<W.length:=by rw [hI.2.1]; exact idx_lt ho hi
   have k2:i * P.length+o<W.length:=by rw [hI.2.1]; exact idx_lt hi ho
   simp only [xs0w.t5,ix_lt,dec_t ho,cond_true,wrap_succ (show o<9223372036854775807 by omega),idx_nat hn.2 ho hi,idx_nat hn.2 hi ho,ix_nn,ix_nat,dec_t k1,List.length_set,dec_t k2]
   by_cases e:o=i
   · have : ((o : Int) == (i : Int)) = true := by simp [e]
     rw [this]
     simp only [cond_true,saveF,if_pos e]
     exact ih W hI
   · have : ((o : Int) == (i : Int)) = false := by simp; omega
     rw [this]
     simp only [cond_false,saveF,if_neg e]
     have hI1:=hI.setOpen k1 ((o:Int) != thr)
     have k3:i * P.length+o<(setOpen W (o * P.length+i) ((o:Int) != thr)).length:=by simpa [setOpen] using k2
     have hS:W.set (o * P.length+i) ((W.getD (o * P.length+i) zW).1,(W.getD (o * P.length+i) zW).2.1,(o:Int) != thr)=setOpen W (o * P.length+i) ((o:Int) != thr):=rfl
     simp only [hS]
     by_cases h12:((setOpen W (o * P.length+i) ((o:Int) != thr)).getD (i * P.length+o) zW).1.length=12
     · have h13 : ((((setOpen W (o * P.length + i) ((o : Int) != thr)).getD (i * P.length + o) zW).1.length : Int) == 12) = true := by rw [h12]; rfl
       simp only [if_pos h12,h13,cond_true]
     · have h13 : ((((setOpen W (o * P.length + i) ((o : Int) != thr)).getD (i * P.length + o) zW).1.length : Int) == 12) = false := len12 h12
       have hle:=(hI1.2.2 _ (getD_mem zW k3)).1
       have h14:((setOpen W (o * P.length+i) ((o:Int) != thr)).getD (i * P.length+o) zW).1.length+[(0:Int)].length≤4294967296:=by simp only [List.length_singleton]; omega
       simp only [if_neg h12,h13,cond_false,dec_t h14,cond_true,decide_true]
       exact ih _ (hI1.addWord k3 (Int.le_refl 0) h12)
theorem spec_save_eq {W:List Wir} (hI:SnI P W) (thr:Int):xs0w P W (i:Int) thr=some (doneAt P i,(saveR P W i thr).2,(saveR P W i thr).1):=by
 refine xs0w.eq _ _ _ _ ?_
 have e1:(P.set i ((P.getD i zP).1,(P.getD i zP).1,(P.getD i zP).2.2)).getD i zP=((P.getD i zP).1,(P.getD i zP).1,(P.getD i zP).2.2):=getD_set_self hi
 have hd:i<(doneAt P i).length:=by simpa [doneAt] using hi
 have hI':SnI (doneAt P i) W:=by simpa [SnI,doneAt] using hI
 have:=spec_save_l5 hd thr [] [] 0 (Nat.zero_le _) W hI'
 have hlen:(doneAt P i).length=P.length:=by simp [doneAt]
 simp only [xs0w.t,ix_nn,ix_nat,dec_t hi,List.length_set,cond_true,e1,List.set_set]
 rw [List.drop_zero,hlen] at this
 exact this
end
theorem len200 {n:Nat} (h:n≤200):((n:Int) == 200)=decide (200≤n):=by
 by_cases h2:200≤n
 · rw [dec_t h2]; simp only [beq_iff_eq]; omega
 · rw [dec_f h2]; simp only [beq_eq_false_iff_ne,ne_eq]; omega
theorem spec_step_eq {P:List Prc} {W:List Wir} (hI:SnI P W) (kind f t by_:Int):xs0x P W kind f t by_=some ((stepR P W kind f t by_).2.1,(stepR P W kind f t by_).2.2,(stepR P W kind f t by_).1):=by
 have hn:=hI.1
 refine xs0x.eq _ _ _ _ _ _ ?_
 by_cases hf:0≤f∧f<P.length
 · obtain ⟨i, rfl⟩ := Int.eq_ofNat_of_zero_le hf.1
   have hi:i<P.length:=by omega
   have nf:¬¬(0≤(i:Int)∧(i:Int)<(P.length:Int)):=fun h => h hf
   have a1:decide ((i:Int)<0)=false:=dec_f (by omega)
   have a2:decide ((i:Int) ≥ (P.length:Int))=false:=dec_f (by omega)
   by_cases h3:kind=3
   · subst h3
     have e:=spec_save_eq hi hI (-1)
     have e0:saveR P W i (-1)=saveR P W i (i:Int):=by unfold saveR; exact saveF_start
     rw [e0] at e
     simp only [xs0x.t,a1,a2,cond_false,ix_nn,ix_nat,dec_t hi,cond_true,e,Option.bind_some,stepR,if_neg nf,if_true,beq_self_eq_true]
     cases hd:(P.getD i zP).2.2 with
     | true => rfl
     | false => rfl
   · have h3' : (kind == 3) = false := by simpa using h3
     by_cases ht:0≤t∧t<P.length
     · obtain ⟨j, rfl⟩ := Int.eq_ofNat_of_zero_le ht.1
       have hj:j<P.length:=by omega
       have nt:¬¬(0≤(j:Int)∧(j:Int)<(P.length:Int)):=fun h => h ht
       have b1:decide ((j:Int)<0)=false:=dec_f (by omega)
       have b2:decide ((j:Int) ≥ (P.length:Int))=false:=dec_f (by omega)
       by_cases hft:i=j
       · have h4 : ((i : Int) == (j : Int)) = true := by simp only [beq_iff_eq]; omega
         have h5:(i:Int)=(j:Int):=by omega
         simp only [xs0x.t,a1,a2,b1,b2,h3',h4,cond_false,cond_true,stepR,if_neg nf,if_neg h3,if_neg nt,if_pos h5]
       · have h4 : ((i : Int) == (j : Int)) = false := by simp only [beq_eq_false_iff_ne, ne_eq]; omega
         have h5:¬(i:Int)=(j:Int):=by omega
         have hk:i * P.length+j<W.length:=by rw [hI.2.1]; exact idx_lt hi hj
         have hI1:=hI.dropW hk
         have hg:∀ x:Wir,(W.set (i * P.length+j) x).getD (i * P.length+j) zW=x:=fun x => getD_set_self hk
         have hb:=hI.2.2 _ (getD_mem zW hk)
         simp only [xs0x.t,a1,a2,b1,b2,h3',h4,cond_false,idx_nat hn.2 hi hj,ix_nn,ix_nat,dec_t hi,dec_t hj,dec_t hk,cond_true,stepR,if_neg nf,if_neg h3,if_neg nt,if_neg h5,Int.toNat_natCast,List.length_set,hg,List.set_set,Option.getD_some,decide_true,List.nil_append,toNat1,xs1i_eq,xs13_eq,Option.bind_some]
         by_cases h1:kind=1
         · subst h1
           simp only [beq_self_eq_true,cond_true,if_true,sendR]
           cases c1:inB 1 (P.getD i zP).1 by_ with
           | false => simp
           | true =>
             cases c2:inB 0 1000000 by_ with
             | false => simp
             | true =>
               by_cases h12:(W.getD (i * P.length+j) zW).1.length=12
               · have h13 : (((W.getD (i * P.length + j) zW).1.length : Int) == 12) = true := by rw [h12]; rfl
                 rw [if_neg (fun h => h.2 h12)]
                 simp only [Bool.not_true,cond_false,h13,cond_true]
               · have h13 : (((W.getD (i * P.length + j) zW).1.length : Int) == 12) = false := len12 h12
                 have h14:(W.getD (i * P.length+j) zW).1.length+[by_].length≤4294967296:=by simp only [List.length_singleton]; omega
                 rw [if_pos ⟨rfl,h12⟩]
                 simp only [Bool.not_true,cond_false,h13,dec_t h14,cond_true,addWord]
         · have h1' : (kind == 1) = false := by simpa using h1
           rw [h1',if_neg h1,cond_false]
           by_cases h2:kind=2
           · subst h2
             have e:=spec_save_eq hj hI1 (i:Int)
             simp only [beq_self_eq_true,cond_true,if_true,takeR,e,Option.bind_some]
             generalize hw:W.getD (i * P.length+j) zW=w at hb ⊢
             by_cases h0:w.1.length=0
             · have c1 : ((w.1.length : Int) == 0) = true := by rw [h0]; rfl
               simp only [c1,cond_true]
               rw [if_pos (Or.inl h0)]
             · have c1 : ((w.1.length : Int) == 0) = false := by simp only [beq_eq_false_iff_ne, ne_eq]; omega
               rw [len200 hb.2.1]
               by_cases c2:200≤w.2.1.length
               · simp only [c1, dec_t c2, cond_true, cond_false]
                 rw [if_pos (Or.inr c2)]
               · have c4 : 0 < w.1.length := by omega
                 have c5:(1:Int)≤(w.1.length:Int):=by omega
                 have c6:w.2.1.length+[w.1.getD (0:Nat) (0:Int)].length≤4294967296:=by simp only [List.length_singleton]; omega
                 have c7:([]:List Int).length+(List.drop 1 w.1).length≤4294967296:=by simp only [List.length_nil,List.length_drop]; omega
                 have c8:=hb.2.2 _ (getD_mem 0 c4)
                 simp only [c1,dec_f c2,cond_false,Int.toNat_zero,dec_t c4,dec_t c5,dec_t c6,dec_t c7,cond_true]
                 rw [if_neg (by omega)]
                 by_cases c9:w.1.getD 0 0=0
                 · have d1 : decide (w.1.getD 0 0 > 0) = false := dec_f (by omega)
                   rw [d1,if_pos c9,cond_false]
                   cases hd:(P.getD j zP).2.2 with
                   | false => rfl
                   | true => rfl
                 · have d1 : decide (w.1.getD 0 0 > 0) = true := dec_t (by omega)
                   rw [d1,if_neg c9,cond_true]
                   cases w.2.2 with
                   | false => rfl
                   | true => rfl
           · have h2' : (kind == 2) = false := by simpa using h2
             rw [h2',if_neg h2,cond_false]
     · by_cases b1 : t < 0
       · simp only [xs0x.t,a1,a2,h3',dec_t b1,cond_false,cond_true,stepR,if_neg nf,if_neg h3,if_pos ht]
       · have b2 : t ≥ (P.length : Int) := by omega
         simp only [xs0x.t,a1,a2,h3',dec_f b1,dec_t b2,cond_false,cond_true,stepR,if_neg nf,if_neg h3,if_pos ht]
 · by_cases b1 : f < 0
   · simp only [xs0x.t,dec_t b1,cond_true,stepR,if_pos hf]
   · have b2 : f ≥ (P.length : Int) := by omega
     simp only [xs0x.t,dec_f b1,dec_t b2,cond_false,cond_true,stepR,if_pos hf]
end GoV

/- Pictures: steps, told of whole pictures. -/
namespace GoV
open Go
theorem SnI.hp {P:List Prc} {W:List Wir} (hz:szT TSn (P,W)≤1048576):P.length≤1073741824∧W.length≤1073741824∧∀ w,w∈W→w.1.length≤1073741824∧w.2.1.length≤1073741824:=by
 have h1:szT (.sl (.pair (.int .i64) (.pair (.int .i64) .bool))) P=P.length:=szT_sl_flat (t:=.pair (.int .i64) (.pair (.int .i64) .bool)) P rfl
 have h2:szT TSn (P,W)=szT (.sl (.pair (.int .i64) (.pair (.int .i64) .bool))) P+szT (.sl (.pair (.sl (.int .i64)) (.pair (.sl (.int .i64)) .bool))) W:=rfl
 have h3:=szT_len (t:=(.pair (.sl (.int .i64)) (.pair (.sl (.int .i64)) .bool))) (l:=W)
 refine ⟨by omega,by omega,fun w hw => ?_⟩
 have h4:=szT_mem (t:=(.pair (.sl (.int .i64)) (.pair (.sl (.int .i64)) .bool))) (l:=W) hw
 have h5:szT (.sl (.int .i64)) w.1=w.1.length:=szT_sl_flat (t:=.int .i64) w.1 rfl
 have h6:szT (.sl (.int .i64)) w.2.1=w.2.1.length:=szT_sl_flat (t:=.int .i64) w.2.1 rfl
 have h7:szT (.pair (.sl (.int .i64)) (.pair (.sl (.int .i64)) .bool)) w=szT (.sl (.int .i64)) w.1+(szT (.sl (.int .i64)) w.2.1+0):=rfl
 omega
theorem doneAt_len (P:List Prc) (i:Nat):(doneAt P i).length=P.length:=by simp [doneAt]
theorem step_len (P:List Prc) (W:List Wir) (kind f t by_:Int):(stepR P W kind f t by_).2.1.length=P.length:=by
 unfold stepR sendR takeR
 split
 · rfl
 split
 · split
   · rfl
   · exact doneAt_len _ _
 split
 · rfl
 split
 · rfl
 split
 · simp only
   split
   · simp
   · rfl
 split
 · simp only
   split
   · rfl
   split
   · split
     · rfl
     · exact doneAt_len _ _
   · simp
 · rfl
theorem stepS_good {P:List Prc} {W:List Wir} {kind f t by_:Int} (h:(stepS P W kind f t by_).2.2=true):goodB (stepS P W kind f t by_).1 (stepS P W kind f t by_).2.1=true∧(stepS P W kind f t by_).1.length=P.length:=by
 unfold stepS at *
 cases hc:((stepR P W kind f t by_).1 && goodB (stepR P W kind f t by_).2.1 (stepR P W kind f t by_).2.2) with
 | false => rw [hc] at h; simp at h
 | true => exact ⟨(Bool.and_eq_true_iff.1 hc).2,step_len P W kind f t by_⟩
theorem xs1a_eq {P:List Prc} {W:List Wir} (h1:goodB P W=true) (kind f t by_:Int):xs1a P W kind f t by_=some (stepS P W kind f t by_):=by
 have hI:=good_inv h1
 have h':=step_inv hI kind f t by_
 have b1:=hI.w16
 have b2:=hI.1
 have e4:=spec_step_eq hI kind f t by_
 refine xs1a.eq _ _ _ _ _ _ ?_
 simp only [xs1a.t,xs18_eq P W hI.hl,h1,Option.bind_some,bang_t,cond_false,xs1g_eq P W (by omega) (by omega) hI.hl,e4,xs18_eq _ _ h'.hl,stepS]
 cases (stepR P W kind f t by_).1 with
 | false => rfl
 | true =>
   cases goodB (stepR P W kind f t by_).2.1 (stepR P W kind f t by_).2.2 with
   | false => rfl
   | true => rfl
end GoV

/- Pictures: taking all words; what is saved and recorded. -/
namespace GoV
open Go
def picB (P:List Prc) (W:List Wir):Bool:=P.all (fun p => p.2.2) && W.all (fun w => !w.2.2)
def savP : List Prc → Int
 | [] => 0
 | p::r => p.2.1+savP r
def recW : List Wir → Int
 | [] => 0
 | w::r => sumI w.2.1+recW r
def picR (P:List Prc) (W:List Wir):Int × Bool:=bif picB P W then (savP P+recW W,true) else (0,false)
theorem picR_snd (P:List Prc) (W:List Wir):(picR P W).2=picB P W:=by
 unfold picR
 cases picB P W <;> rfl
theorem good_recs {P : List Prc} : ∀ {W : List Wir} {k : Nat}, wiresB P k W = true → ∀ w, w ∈ W → w.2.1.length ≤ 1000 ∧ w.2.1.all (inB 0 1000000) = true
 | [],_,_,w,hw => by simp at hw
 | v::W,k,h,w,hw => by
   simp only [wiresB,Bool.and_eq_true] at h
   rcases List.mem_cons.1 hw with rfl | hw
   · obtain ⟨h1, h2, h3, h4⟩ := wire_bounds h.1
     exact ⟨by omega,all_10 h4⟩
   · exact good_recs h.2 w hw
theorem good_savs {P:List Prc} (h:P.all procB=true):∀ p,p∈P→0≤p.2.1∧p.2.1≤2000000000:=fun p hp => by
 have:=List.all_eq_true.1 h p hp
 simp only [procB,Bool.and_eq_true] at this
 exact inB_iff.1 this.2.1
section
variable {P:List Prc} {W:List Wir} (hP:P.length≤1000) (hW:W.length≤1000) (hp:∀ p,p∈P→0≤p.2.1∧p.2.1≤2000000000) (hr:∀ w,w∈W→w.2.1.length≤1000∧w.2.1.all (inB 0 1000000)=true)
include hW hr
theorem impl_picture_l10:∀ i,i≤W.length→∀ a:Int,0≤a→a≤2000000000000+i * 1000000000→xi0q.l10 a W (W.length:Int) (i:Int)=some (bif (W.drop i).all (fun w => !w.2.2) then (a+recW (W.drop i),true) else (0,false)):=by
 refine upto ?_ ?_
 · intro a _ _
   refine xi0q.eq10 _ _ _ _ ?_
   rw [List.drop_length]
   simp only [xi0q.t10,ix_lt,Nat.lt_irrefl,decide_false,cond_false,List.all_nil,cond_true,recW,Int.add_zero]
 · intro i hi ih a ha hb
   have h1:=hr _ (getD_mem zW hi)
   have h3:=sumI_bound h1.2
   rw [drop_getD zW hi]
   refine xi0q.eq10 _ _ _ _ ?_
   simp only [xi0q.t10,ix_lt,ix_nn,ix_nat,dec_t hi,cond_true,xi1h_eq h1.1 h1.2,Option.bind_some,wrap_succ (show i<9223372036854775807 by omega),List.all_cons,recW]
   cases (W.getD i zW).2.2 with
   | true => rfl
   | false =>
     simp only [cond_false,Bool.not_false,Bool.true_and]
     rw [wrap_id (by omega) (by omega),ih _ (by omega) (by omega),Int.add_assoc]
include hP hp
theorem impl_picture_eq:xi0q P W=some (picR P W):=by
 have main:∀ i,i≤P.length→∀ a:Int,0≤a→a≤i * 2000000000→xi0q.l3 P W a P (P.length:Int) (i:Int)=some (bif (P.drop i).all (fun p => p.2.2) && W.all (fun w => !w.2.2) then (a+savP (P.drop i)+recW W,true) else (0,false)):=by
  refine upto ?_ ?_
  · intro a ha hb
    have hx:=impl_picture_l10 hW hr 0 (Nat.zero_le _) a ha (by omega)
    refine xi0q.eq3 _ _ _ _ _ _ ?_
    rw [List.drop_length]
    simp only [xi0q.t3,ix_lt,Nat.lt_irrefl,decide_false,cond_false,List.all_nil,Bool.true_and,savP,Int.add_zero]
    exact hx
  · intro i hi ih a ha hb
    have h1:=hp _ (getD_mem zP hi)
    rw [drop_getD zP hi]
    refine xi0q.eq3 _ _ _ _ _ _ ?_
    simp only [xi0q.t3,ix_lt,ix_nn,ix_nat,dec_t hi,cond_true,wrap_succ (show i<9223372036854775807 by omega),List.all_cons,savP]
    generalize P.getD i zP=p at h1 ⊢
    cases p.2.2 with
    | false => rfl
    | true =>
      simp only [Bool.not_true,cond_false,Bool.true_and]
      rw [wrap_id (by omega) (by omega),ih _ (by omega) (by omega),← Int.add_assoc]
 have:=main 0 (Nat.zero_le _) 0 (by omega) (by omega)
 refine xi0q.eq _ _ ?_
 simp only [xi0q.t]
 rw [List.drop_zero,Int.zero_add] at this
 exact this
end
theorem good_pic {P:List Prc} {W:List Wir} (hg:goodB P W=true):P.length≤1000∧W.length≤1000∧(∀ p,p∈P→0≤p.2.1∧p.2.1≤2000000000)∧∀ w,w∈W→w.2.1.length≤1000∧w.2.1.all (inB 0 1000000)=true:=by
 have hI:=good_inv hg
 have h1:=hI.1
 have h2:=hI.w16
 simp only [goodB,Bool.and_eq_true] at hg
 exact ⟨by omega,by omega,good_savs hg.2.2.1,good_recs hg.2.2.2.1⟩
/-- Is a wire not empty. -/
def fullB (w:Wir):Bool:=decide (0<w.1.length)
def endF (P:List Prc) (W:List Wir) (m:Nat):List Prc × List Wir × Int × Bool:=bif picB P W then (P,W,(m:Int),true) else ([],[],0,false)
def finF : Nat → List Prc → List Wir → Nat → List Prc × List Wir × Int × Bool
 | 0,P,W,m => endF P W m
 | r + 1, P, W, m => if W.findIdx fullB = W.length then endF P W m else
   bif (stepS P W 2 ((W.findIdx fullB / P.length : Nat) : Int) ((W.findIdx fullB % P.length : Nat) : Int) 0).2.2 then
     finF r (stepS P W 2 ((W.findIdx fullB / P.length:Nat):Int) ((W.findIdx fullB % P.length:Nat):Int) 0).1 (stepS P W 2 ((W.findIdx fullB / P.length:Nat):Int) ((W.findIdx fullB % P.length:Nat):Int) 0).2.1 (m+1)
   else ([],[],0,false)
/-! ## The program's -/
theorem impl_find_eq (W:List Wir) (hW:W.length≤1073741824):xs06 W=some (if W.findIdx fullB=W.length then -1 else ((W.findIdx fullB:Nat):Int)):=by
 have h2:∀ w:Wir,xi0p w.1 w.2.1 w.2.2=some (fullB w):=fun w => xi0p.eq _ _ _ (by
  simp only [xi0p.t,fullB]
  congr 1
  exact bool_eq (by rw [decide_eq_true_eq,decide_eq_true_eq]; omega))
 have main:∀ i,i≤W.findIdx fullB→xs06.l2 W (W.length:Int) (i:Int)=some (if W.findIdx fullB=W.length then -1 else ((W.findIdx fullB:Nat):Int)):=by
  have hle:W.findIdx fullB≤W.length:=List.findIdx_le_length
  refine upto ?_ ?_
  · refine xs06.eq2 _ _ _ ?_
    by_cases he:W.findIdx fullB=W.length
    · rw [if_pos he]
      simp only [xs06.t2,ix_lt,he,Nat.lt_irrefl,decide_false,cond_false]
    · have hi : W.findIdx fullB < W.length := by omega
      have hf:fullB (W.getD (W.findIdx fullB) zW)=true:=by
       have:=List.findIdx_getElem (p:=fullB) (xs:=W) (w:=hi)
       rw [List.getD_eq_getElem?_getD,List.getElem?_eq_getElem hi]
       exact this
      rw [if_neg he]
      simp only [xs06.t2,ix_lt,ix_nn,ix_nat,dec_t hi,cond_true,h2,hf,Option.bind_some]
  · intro i hi ih
    have hi':i<W.length:=by omega
    have hf:fullB (W.getD i zW)=false:=by
        have:=List.not_of_lt_findIdx hi
        rw [List.getD_eq_getElem?_getD,List.getElem?_eq_getElem hi']
        simpa using this
    refine xs06.eq2 _ _ _ ?_
    simp only [xs06.t2,ix_lt,ix_nn,ix_nat,dec_t hi',cond_true,cond_false,h2,hf,Option.bind_some,wrap_succ (show i<9223372036854775807 by omega)]
    exact ih
 refine xs06.eq _ ?_
 simp only [xs06.t]
 exact main 0 (Nat.zero_le _)
theorem impl_any_eq (P:List Prc) (hP:P.length≤1073741824):xs04 P=some (P.any (fun p => p.2.2)) :=
 xs04_ok P _ (by omega) (fun p _ => xi0o.eq _ _ _ (by simp only [xi0o.t]))
theorem wrap_div (a b:Nat) (ha:a≤1000):IntKind.i64.wrap (((a / b:Nat):Int))=((a / b:Nat):Int):=by
 have hq:=Nat.div_le_self a b
 generalize a / b=q at hq ⊢
 exact wrap_id (by omega) (by omega)
theorem impl_fin_l4 {P0:List Prc} {W0:List Wir}:∀ (r m:Nat) (P:List Prc) (W:List Wir),m+r=2000→goodB P W=true→P0.length=P.length→xi0y.l4 P0 W0 [] [] P W (m:Int)=some (finF r P W m):=by
 intro r
 induction r with
 | zero =>
   intro m P W hm hg hl
   have hI:=good_inv hg
   obtain ⟨p1,p2,p3,p4⟩:=good_pic hg
   have hx:=impl_picture_eq p1 p2 p3 p4
   refine xi0y.eq4 _ _ _ _ _ _ _ ?_
   have h1:decide ((m:Int)<2000)=false:=dec_f (by omega)
   simp only [xi0y.t4,h1,cond_false,hx,Option.bind_some,finF,endF,picR_snd]
   cases picB P W <;> rfl
 | succ r ih =>
   intro m P W hm hg hl
   have hI:=good_inv hg
   have hn:=hI.1
   have h16:=hI.w16
   obtain ⟨p1,p2,p3,p4⟩:=good_pic hg
   have hx:=impl_picture_eq p1 p2 p3 p4
   have h1:decide ((m:Int)<2000)=true:=dec_t (by omega)
   have hle:W.findIdx fullB≤W.length:=List.findIdx_le_length
   refine xi0y.eq4 _ _ _ _ _ _ _ ?_
   simp only [xi0y.t4,h1,cond_true,impl_find_eq W (by omega),Option.bind_some,finF]
   by_cases he:W.findIdx fullB=W.length
   · rw [if_pos he, if_pos he]
     have h2:decide ((-1:Int)<0)=true:=rfl
     simp only [h2,cond_true,hx,Option.bind_some,endF,picR_snd]
     cases picB P W <;> rfl
   · rw [if_neg he, if_neg he]
     have h2:decide (((W.findIdx fullB:Nat):Int)<0)=false:=dec_f (by omega)
     have h3:((P.length:Nat):Int)≠0:=by omega
     simp only [h2,cond_false,dec_t h3,cond_true,hl,tdiv_nat,tmod_nat,wrap_div _ _ (show W.findIdx fullB≤1000 by omega),impl_stepped_eq hI,Option.bind_some]
     cases hc:(stepS P W 2 ((W.findIdx fullB / P.length:Nat):Int) ((W.findIdx fullB % P.length:Nat):Int) 0).2.2 with
     | false => rfl
     | true =>
       have h4:=stepS_good hc
       simp only [Bool.not_true,cond_false,cond_true,wrap_succ (show m<9223372036854775807 by omega)]
       exact ih (m+1) _ _ (by omega) h4.1 (by rw [h4.2]; exact hl)
theorem xi0y_eq {P : List Prc} {W : List Wir} (hP : P.length ≤ 1073741824) (hW : W.length ≤ 1073741824) (hl : ∀ w, w ∈ W → w.1.length ≤ 1073741824 ∧ w.2.1.length ≤ 1073741824) :
 xi0y P W=some (bif goodB P W && P.any (fun p => p.2.2) then finF 2000 P W 0 else ([],[],0,false)):=by
 refine xi0y.eq _ _ ?_
 simp only [xi0y.t,xi14_eq _ _ hl,impl_any_eq P hP,xi16_eq P W hP hW hl,Option.bind_some]
 cases hg:goodB P W with
 | false => rfl
 | true =>
   cases P.any (fun p => p.2.2) with
   | false => rfl
   | true =>
     have:=impl_fin_l4 (P0:=P) (W0:=W) 2000 0 P W rfl hg rfl
     simpa using this
end GoV

/- Pictures: nothing is lost and nothing is made. -/
namespace GoV
open Go
def sumN (g : Nat → Int) : Nat → Int
 | 0 => 0
 | n+1 => sumN g n+g n
theorem sumN_congr {g h : Nat → Int} : ∀ {n : Nat}, (∀ k, k < n → g k = h k) → sumN g n = sumN h n
 | 0,_ => rfl
 | n+1,he => by rw [sumN,sumN,sumN_congr fun k hk => he k (by omega),he n (by omega)]
theorem sumN_one {g h : Nat → Int} {k : Nat} : ∀ {n : Nat}, k < n → (∀ j, j < n → j ≠ k → h j = g j) → sumN h n = sumN g n + (h k - g k)
 | 0,hk,_ => by omega
 | n+1,hk,he => by
   by_cases hkn:k=n
   · subst hkn
     rw [sumN,sumN,sumN_congr (g:=h) (h:=g) fun j hj => he j (by omega) (by omega)]
     omega
   · rw [sumN, sumN, sumN_one (by omega) fun j hj hjk => he j (by omega) hjk, he n (by omega) (fun e => hkn e.symm)]
     omega
theorem sumN_front (g : Nat → Int) : ∀ n, sumN g (n + 1) = g 0 + sumN (fun i => g (i + 1)) n
 | 0 => by simp [sumN]
 | n+1 => by rw [sumN,sumN_front g n,sumN]; omega
/-- A word's worth before the first marker. -/
def preM : List Int → Int
 | [] => 0
 | x::r => if x=0 then 0 else x+preM r
theorem preM_mark : ∀ l : List Int, preM (l ++ [0]) = preM l
 | [] => by simp [preM]
 | x::r => by simp only [List.cons_append,preM,preM_mark r]
theorem preM_in {x : Int} : ∀ {l : List Int}, (0 : Int) ∈ l → preM (l ++ [x]) = preM l
 | [],h => by simp at h
 | y::r,h => by
   simp only [List.cons_append,preM]
   by_cases hy:y=0
   · rw [if_pos hy,if_pos hy]
   · rw [if_neg hy, if_neg hy, preM_in]
     rcases List.mem_cons.1 h with h | h
     · exact absurd h.symm hy
     · exact h
theorem preM_out {x : Int} : ∀ {l : List Int}, (0 : Int) ∉ l → x ≠ 0 → preM (l ++ [x]) = preM l + x
 | [],_,hx => by simp [preM,hx]
 | y::r,h,hx => by
   have hy:y≠0:=fun e => h (by rw [e]; exact List.mem_cons_self ..)
   simp only [List.cons_append,preM,if_neg hy]
   rw [preM_out (fun e => h (List.mem_cons_of_mem _ e)) hx]
   omega
theorem sumI_app (x : Int) : ∀ l : List Int, sumI (l ++ [x]) = sumI l + x
 | [] => by simp [sumI]
 | y::r => by simp only [List.cons_append,sumI,sumI_app x r]; omega
def dn (P:List Prc) (i:Nat):Bool:=(P.getD i zP).2.2
def pc (P:List Prc) (i:Nat):Int:=bif dn P i then (P.getD i zP).2.1 else (P.getD i zP).1
def wc (P:List Prc) (W:List Wir) (k:Nat):Int:=sumI (W.getD k zW).2.1+(bif !dn P (k % P.length) || (W.getD k zW).2.2 then preM (W.getD k zW).1 else 0)
/-- What a picture in the making holds. -/
def kept (P:List Prc) (W:List Wir):Int:=sumN (pc P) P.length+sumN (wc P W) W.length
/-- What there is. -/
def total (P:List Prc) (W:List Wir):Int:=sumN (fun i => (P.getD i zP).1) P.length+sumN (fun k => sumI (W.getD k zW).1) W.length
structure Inv (P : List Prc) (W : List Wir) : Prop where
 nom:∀ f t,f<P.length→t<P.length→f≠t→dn P f=false→(0:Int) ∉ (W.getD (f * P.length+t) zW).1
 op:∀ f t,f<P.length→t<P.length→f≠t→dn P t=true→dn P f=false→(W.getD (f * P.length+t) zW).2.2=true
 sh:∀ f t,f<P.length→t<P.length→f≠t→dn P f=true→(0:Int)∈(W.getD (f * P.length+t) zW).1∨(dn P t=true∧(W.getD (f * P.length+t) zW).2.2=false)
theorem idx_mod {n f t:Nat} (ht:t<n):(f * n+t) % n=t:=by
 rw [Nat.mul_comm,Nat.mul_add_mod,Nat.mod_eq_of_lt ht]
theorem idx_div {n f t:Nat} (ht:t<n):(f * n+t) / n=f:=by
 rw [Nat.mul_comm,Nat.mul_add_div (by omega),Nat.div_eq_of_lt ht,Nat.add_zero]
theorem idx_inj {n a b f t:Nat} (hb:b<n) (ht:t<n) (h:a * n+b=f * n+t):a=f∧b=t:=by
 have h1:=congrArg (· / n) h
 have h2:=congrArg (· % n) h
 simp only [idx_div hb,idx_div ht,idx_mod hb,idx_mod ht] at h1 h2
 exact ⟨h1,h2⟩
theorem idx_of (n k:Nat):k=k / n * n+k % n:=by rw [Nat.mul_comm]; exact (Nat.div_add_mod k n).symm
theorem getD_set_ne {α:Type} {l:List α} {i j:Nat} {x z:α} (h:i≠j):(l.set i x).getD j z=l.getD j z:=by
 simp [List.getD_eq_getElem?_getD,List.getElem?_set_ne h]
/-- What is good of one wire. -/
theorem wires_at {P : List Prc} : ∀ {W : List Wir} {k i : Nat}, wiresB P k W = true → i < W.length → wireB P (k + i) (W.getD i zW) = true
 | [],_,_,_,hi => by simp at hi
 | v::W,k,0,h,_ => by
   simp only [wiresB,Bool.and_eq_true] at h
   simpa using h.1
 | v::W,k,i+1,h,hi => by
   simp only [wiresB,Bool.and_eq_true] at h
   have:=wires_at (i:=i) h.2 (by simpa using hi)
   rw [show k+(i+1)=k+1+i by omega]
   simpa using this
structure Gd (P : List Prc) (W : List Wir) : Prop where
 inv:SnI P W
 amt:∀ i,i<P.length→0≤(P.getD i zP).1∧(P.getD i zP).1≤2000000000
 wrd:∀ k,k<W.length→∀ x,x∈(W.getD k zW).1→x≤1000000
 dia:∀ f,f<P.length→(W.getD (f * P.length+f) zW).1=[]
 cls:∀ k,k<W.length→dn P (k % P.length)=false→(W.getD k zW).2.2=false
theorem good_gd {P:List Prc} {W:List Wir} (hg:goodB P W=true):Gd P W:=by
 have hI:=good_inv hg
 simp only [goodB,Bool.and_eq_true] at hg
 have hw:∀ k,k<W.length→wireB P k (W.getD k zW)=true:=fun k hk => by
  have:=wires_at (i:=k) hg.2.2.2.1 hk
  simpa using this
 refine ⟨hI,fun i hi => ?_,fun k hk x hx => ?_,fun f hf => ?_,fun k hk hd => ?_⟩
 · have := List.all_eq_true.1 hg.2.2.1 _ (getD_mem zP hi)
   simp only [procB,Bool.and_eq_true] at this
   exact inB_iff.1 this.1
 · exact (inB_iff.1 (List.all_eq_true.1 (wire_bounds (hw k hk)).2.1 x hx)).2
 · have hk : f * P.length + f < W.length := by rw [hI.2.1]; exact idx_lt hf hf
   have h1:=hw _ hk
   rw [wireB_tail] at h1
   simp only [tailB,Bool.and_eq_true,idx_div hf,idx_mod hf,decide_true,Bool.not_true,Bool.false_or,decide_eq_true_eq] at h1
   exact List.eq_nil_of_length_eq_zero h1.2.2.2.2.1.1
 · have h1 := hw _ hk
   rw [wireB_tail] at h1
   simp only [tailB,Bool.and_eq_true] at h1
   have h2:=h1.2.2.2.2.2
   rw [dn] at hd
   rw [hd,Bool.false_or,Bool.and_eq_true] at h2
   simpa using h2.1
end GoV

/- Pictures: a step loses nothing and makes nothing. -/
namespace GoV
open Go
theorem saveF_at {n who : Nat} {shut : Int} (hw : who < n) : ∀ (l : List Nat) (W W' : List Wir), l.Nodup → (∀ o, o ∈ l → o < n) → W.length = n * n → saveF n who shut l W = (true, W') →
 W'.length = W.length ∧ ∀ a b, a < n → b < n → W'.getD (a * n + b) zW =
  if a≠b∧b=who∧a∈l then ((W.getD (a * n+b) zW).1,(W.getD (a * n+b) zW).2.1,(a:Int) != shut)
  else if a≠b∧a=who∧b∈l then ((W.getD (a * n+b) zW).1 ++ [0],(W.getD (a * n+b) zW).2) else W.getD (a * n+b) zW
 | [],W,W',_,_,_,h => by
   simp only [saveF,Prod.mk.injEq,true_and] at h
   subst h
   exact ⟨rfl,fun a b _ _ => by simp⟩
 | o::r,W,W',hnd,hl,hWl,h => by
   have ho:=hl o (List.mem_cons_self ..)
   have hnd':=List.nodup_cons.1 hnd
   have hl':∀ q,q∈r→q<n:=fun q hq => hl q (List.mem_cons_of_mem _ hq)
   simp only [saveF] at h
   by_cases e:o=who
   · rw [if_pos e] at h
     obtain ⟨h1,h2⟩:=saveF_at hw r W W' hnd'.2 hl' hWl h
     refine ⟨h1,fun a b ha hb => ?_⟩
     rw [h2 a b ha hb]
     subst e
     have c1:(a≠b∧b=o∧a∈r)↔(a≠b∧b=o∧a∈o::r):=by
        refine ⟨fun h => ⟨h.1,h.2.1,List.mem_cons_of_mem _ h.2.2⟩,fun h => ⟨h.1,h.2.1, ?_⟩⟩
        rcases List.mem_cons.1 h.2.2 with h3 | h3
        · exact absurd (h3.trans h.2.1.symm) h.1
        · exact h3
     have c2:(a≠b∧a=o∧b∈r)↔(a≠b∧a=o∧b∈o::r):=by
        refine ⟨fun h => ⟨h.1,h.2.1,List.mem_cons_of_mem _ h.2.2⟩,fun h => ⟨h.1,h.2.1, ?_⟩⟩
        rcases List.mem_cons.1 h.2.2 with h3 | h3
        · exact absurd (h.2.1.trans h3.symm) h.1
        · exact h3
     simp only [c1,c2]
   · rw [if_neg e] at h
     by_cases e2:((setOpen W (o * n+who) ((o:Int) != shut)).getD (who * n+o) zW).1.length=12
     · rw [if_pos e2] at h; simp at h
     · rw [if_neg e2] at h
       have k1:o * n+who<W.length:=by rw [hWl]; exact idx_lt ho hw
       have k2:who * n+o<W.length:=by rw [hWl]; exact idx_lt hw ho
       have hne:o * n+who≠who * n+o:=fun h => e (idx_inj hw ho h).1
       have hlen:(addWord (setOpen W (o * n+who) ((o:Int) != shut)) (who * n+o) 0).length=W.length:=by simp [addWord,setOpen]
       obtain ⟨h1,h2⟩:=saveF_at hw r _ W' hnd'.2 hl' (hlen.trans hWl) h
       refine ⟨h1.trans hlen,fun a b ha hb => ?_⟩
       have hat : (addWord (setOpen W (o * n + who) ((o : Int) != shut)) (who * n + o) 0).getD (a * n + b) zW =
           if a=o∧b=who then ((W.getD (a * n+b) zW).1,(W.getD (a * n+b) zW).2.1,(o:Int) != shut) else if a=who∧b=o then ((W.getD (a * n+b) zW).1 ++ [0],(W.getD (a * n+b) zW).2) else W.getD (a * n+b) zW:=by
         have g1:(setOpen W (o * n+who) ((o:Int) != shut)).getD (who * n+o) zW=W.getD (who * n+o) zW:=getD_set_ne hne
         unfold addWord
         rw [g1]
         by_cases c1:a=who∧b=o
         · rw [if_neg (fun h => e (h.1.symm.trans c1.1)),if_pos c1,c1.1,c1.2,getD_set_self (by simpa [setOpen] using k2)]
         · rw [getD_set_ne (fun h => c1 (by have := idx_inj ho hb h; exact ⟨this.1.symm, this.2.symm⟩)), if_neg c1]
           by_cases c2:a=o∧b=who
           · rw [if_pos c2, c2.1, c2.2]
             exact getD_set_self k1
           · rw [if_neg c2]
             exact getD_set_ne (fun h => c2 (by have:=idx_inj hw hb h; exact ⟨this.1.symm,this.2.symm⟩))
       rw [h2 a b ha hb,hat]
       by_cases c1:a=o∧b=who
       · obtain ⟨rfl, rfl⟩ := c1
         rw [if_neg (fun h => hnd'.1 h.2.2),if_neg (fun h => e h.2.1),if_pos ⟨rfl,rfl⟩,if_pos ⟨e,rfl,List.mem_cons_self ..⟩]
       · by_cases c2 : a = who ∧ b = o
         · obtain ⟨rfl, rfl⟩ := c2
           rw [if_neg (fun h => e h.2.1),if_neg (fun h => hnd'.1 h.2.2),if_neg c1,if_pos ⟨rfl,rfl⟩,if_neg (fun h => e h.2.1),if_pos ⟨fun h => e h.symm,rfl,List.mem_cons_self ..⟩]
         · rw [if_neg c1, if_neg c2]
           have d1:(a≠b∧b=who∧a∈r)↔(a≠b∧b=who∧a∈o::r):=by
            refine ⟨fun h => ⟨h.1,h.2.1,List.mem_cons_of_mem _ h.2.2⟩,fun h => ⟨h.1,h.2.1, ?_⟩⟩
            rcases List.mem_cons.1 h.2.2 with h3 | h3
            · exact absurd ⟨h3,h.2.1⟩ c1
            · exact h3
           have d2:(a≠b∧a=who∧b∈r)↔(a≠b∧a=who∧b∈o::r):=by
            refine ⟨fun h => ⟨h.1,h.2.1,List.mem_cons_of_mem _ h.2.2⟩,fun h => ⟨h.1,h.2.1, ?_⟩⟩
            rcases List.mem_cons.1 h.2.2 with h3 | h3
            · exact absurd ⟨h.2.1,h3⟩ c2
            · exact h3
           simp only [d1,d2]
theorem dn_done {P:List Prc} {who:Nat} (hw:who<P.length) (i:Nat):dn (doneAt P who) i=(decide (i=who) || dn P i):=by
 unfold dn doneAt
 by_cases h:i=who
 · subst h
   rw [getD_set_self hw]
   simp
 · rw [getD_set_ne (fun e => h e.symm),decide_eq_false h,Bool.false_or]
theorem sum_idx {n:Nat} {g h:Nat→Int} {m:Nat} (hm:m=n * n) (he:∀ a b,a<n→b<n→g (a * n+b)=h (a * n+b)):sumN g m=sumN h m:=by
 refine sumN_congr fun k hk => ?_
 have hn:0<n:=by
  cases n with
  | zero => omega
  | succ n => omega
 rw [idx_of n k]
 refine he _ _ ?_ (Nat.mod_lt _ hn)
 rw [Nat.div_lt_iff_lt_mul hn]
 omega
section
variable {P:List Prc} {W:List Wir} (hg:Gd P W)
include hg
/-- What saving keeps. -/
theorem save_keep (hi : Inv P W) {who shut : Nat} (hw : who < P.length) (hd : dn P who = false) {W1 W' : List Wir} (hl : W1.length = W.length)
 (H:∀ a b,a<P.length→b<P.length→((a=shut∧b=who∧a≠b)∧W.getD (a * P.length+b) zW=(0::(W1.getD (a * P.length+b) zW).1,(W1.getD (a * P.length+b) zW).2))∨(¬(a=shut∧b=who∧a≠b)∧W1.getD (a * P.length+b) zW=W.getD (a * P.length+b) zW))
 (hs:saveR P W1 who (shut:Int)=(true,W')):kept (doneAt P who) W'=kept P W∧Inv (doneAt P who) W':=by
 have hWl:=hg.inv.2.1
 have hPl:(doneAt P who).length=P.length:=by simp [doneAt]
 obtain ⟨hl',hat⟩:=saveF_at hw (List.range P.length) W1 W' List.nodup_range (fun o ho => List.mem_range.1 ho) (hl.trans hWl) hs
 have hat' : ∀ a b, a < P.length → b < P.length → W'.getD (a * P.length + b) zW =
  if a≠b∧b=who then ((W1.getD (a * P.length+b) zW).1,(W1.getD (a * P.length+b) zW).2.1,(a:Int) != (shut:Int))
  else if a≠b∧a=who then ((W1.getD (a * P.length+b) zW).1 ++ [0],(W1.getD (a * P.length+b) zW).2) else W1.getD (a * P.length+b) zW:=fun a b ha hb => by
  rw [hat a b ha hb]
  have d1:(a≠b∧b=who∧a∈List.range P.length)↔(a≠b∧b=who):=⟨fun h => ⟨h.1,h.2.1⟩,fun h => ⟨h.1,h.2,List.mem_range.2 ha⟩⟩
  have d2:(a≠b∧a=who∧b∈List.range P.length)↔(a≠b∧a=who):=⟨fun h => ⟨h.1,h.2.1⟩,fun h => ⟨h.1,h.2,List.mem_range.2 hb⟩⟩
  simp only [d1,d2]
 have hdw:dn (doneAt P who) who=true:=by rw [dn_done hw]; simp
 have hdo:∀ i,i≠who→dn (doneAt P who) i=dn P i:=fun i h => by rw [dn_done hw,decide_eq_false h,Bool.false_or]
 constructor
 · unfold kept
   rw [hPl,hl',hl]
   congr 1
   · refine sumN_congr fun i hi' => ?_
     unfold pc
     by_cases h:i=who
     · subst h
       rw [hdw,hd]
       unfold doneAt
       rw [getD_set_self hw]
       rfl
     · rw [hdo i h]
       unfold doneAt
       rw [getD_set_ne (fun e => h e.symm)]
   · refine sum_idx hWl fun a b ha hb => ?_
     unfold wc
     rw [hPl,idx_mod hb,hat' a b ha hb]
     by_cases hab:a=b
     · subst hab
       rw [if_neg (fun h => h.1 rfl),if_neg (fun h => h.1 rfl)]
       rcases H a a ha ha with h | h
       · exact absurd rfl h.1.2.2
       · rw [h.2, hg.dia a ha]
         have:∀ b:Bool,(bif b then preM [] else 0)=0:=fun b => by cases b <;> rfl
         rw [this,this]
     · by_cases hbw : b = who
       · subst hbw
         rw [if_pos ⟨hab,rfl⟩,hdw,hd]
         simp only [Bool.not_true,Bool.false_or,Bool.not_false,Bool.true_or,cond_true]
         rcases H a b ha hb with h | h
         · obtain ⟨⟨rfl, _, _⟩, h2⟩ := h
           have h3:((a:Int) != (a:Int))=false:=by simp
           rw [h2,h3,cond_false]
           simp only [preM,if_true]
         · have h3:((a:Int) != (shut:Int))=true:=by
            simp only [bne_iff_ne,ne_eq]
            intro e
            exact h.1 ⟨by omega,rfl,hab⟩
           rw [h.2,h3,cond_true]
       · rw [if_neg (fun h => hbw h.2), hdo b hbw]
         rcases H a b ha hb with h | h
         · exact absurd h.1.2.1 hbw
         · rw [h.2]
           by_cases haw:a=who
           · rw [if_pos ⟨hab, haw⟩]
             simp only [preM_mark]
           · rw [if_neg (fun h => haw h.2)]
 · refine ⟨fun a b ha hb hab hda => ?_, fun a b ha hb hab hdb hda => ?_, fun a b ha hb hab hda => ?_⟩
   · rw [hPl] at *
     have haw:a≠who:=fun e => by rw [e,hdw] at hda; cases hda
     rw [hdo a haw] at hda
     have h0:=hi.nom a b ha hb hab hda
     have hsub:∀ x,x∈(W1.getD (a * P.length+b) zW).1→x∈(W.getD (a * P.length+b) zW).1:=fun x hx => by
        rcases H a b ha hb with h | h
        · rw [h.2]; exact List.mem_cons_of_mem _ hx
        · rw [← h.2]; exact hx
     rw [hat' a b ha hb]
     by_cases hbw:b=who
     · rw [if_pos ⟨hab,hbw⟩]; exact fun h => h0 (hsub _ h)
     · rw [if_neg (fun h => hbw h.2),if_neg (fun h => haw h.2)]; exact fun h => h0 (hsub _ h)
   · rw [hPl] at *
     have haw:a≠who:=fun e => by rw [e,hdw] at hda; cases hda
     rw [hdo a haw] at hda
     rw [hat' a b ha hb]
     by_cases hbw:b=who
     · rw [if_pos ⟨hab, hbw⟩]
       simp only [bne_iff_ne,ne_eq]
       intro e
       have h0:=hi.nom a b ha hb hab hda
       rcases H a b ha hb with h | h
       · rw [h.2] at h0; exact h0 (List.mem_cons_self ..)
       · exact h.1 ⟨by omega,hbw,hab⟩
     · rw [hdo b hbw] at hdb
       rw [if_neg (fun h => hbw h.2),if_neg (fun h => haw h.2)]
       rcases H a b ha hb with h | h
       · exact absurd h.1.2.1 hbw
       · rw [h.2]; exact hi.op a b ha hb hab hdb hda
   · rw [hPl] at *
     rw [hat' a b ha hb]
     by_cases haw:a=who
     · have hbw : b ≠ who := fun e => hab (haw.trans e.symm)
       rw [if_neg (fun h => hbw h.2),if_pos ⟨hab,haw⟩]
       exact .inl (List.mem_append_right _ (List.mem_singleton.2 rfl))
     · rw [hdo a haw] at hda
       by_cases hbw:b=who
       · rw [if_pos ⟨hab, hbw⟩]
         rcases H a b ha hb with h | h
         · right
           rw [hbw]
           refine ⟨hdw, ?_⟩
           rw [h.1.1]
           simp
         · left
           show (0:Int)∈(W1.getD (a * P.length+b) zW).1
           rw [h.2]
           rcases hi.sh a b ha hb hab hda with h3 | h3
           · exact h3
           · rw [hbw,hd] at h3; cases h3.1
       · rw [hdo b hbw, if_neg (fun h => hbw h.2), if_neg (fun h => haw h.2)]
         rcases H a b ha hb with h | h
         · exact absurd h.1.2.1 hbw
         · rw [h.2]; exact hi.sh a b ha hb hab hda
end
end GoV

/- Pictures: what every step keeps. -/
namespace GoV
open Go
theorem at_set {n:Nat} {W:List Wir} {f t:Nat} (ht:t<n) (hk:f * n+t<W.length) (w:Wir) {a b:Nat} (hb:b<n):(W.set (f * n+t) w).getD (a * n+b) zW=if a=f∧b=t then w else W.getD (a * n+b) zW:=by
 by_cases h:a=f∧b=t
 · rw [if_pos h,h.1,h.2]; exact getD_set_self hk
 · rw [if_neg h]
   exact getD_set_ne fun e => h (by have:=idx_inj ht hb e; exact ⟨this.1.symm,this.2.symm⟩)
theorem dn_amt {P:List Prc} {f:Nat} (hf:f<P.length) (x:Int) (i:Nat):dn (P.set f (x,(P.getD f zP).2)) i=dn P i:=by
 unfold dn
 by_cases h:f=i
 · subst h; rw [getD_set_self hf]
 · rw [getD_set_ne h]
theorem pc_amt_ne {P:List Prc} {f:Nat} (x:Int) {i:Nat} (h:i≠f):pc (P.set f (x,(P.getD f zP).2)) i=pc P i:=by
 unfold pc dn
 rw [getD_set_ne (fun e => h e.symm)]
theorem pc_amt {P:List Prc} {f:Nat} (hf:f<P.length) (x:Int):pc (P.set f (x,(P.getD f zP).2)) f=bif dn P f then (P.getD f zP).2.1 else x:=by
 unfold pc
 rw [dn_amt hf,getD_set_self hf]
section
variable {P:List Prc} {W:List Wir} (hg:Gd P W) (hi:Inv P W) {f t:Nat} (hf:f<P.length) (ht:t<P.length) (hft:f≠t)
include hg hf ht
theorem kept_two {i : Nat} (hii : i < P.length) (x : Int) (w : Wir) (he : (bif dn P i then (P.getD i zP).2.1 else x) - pc P i + (sumI w.2.1 + (bif !dn P t || w.2.2 then preM w.1 else 0) - wc P W (f * P.length + t)) = 0) :
 kept (P.set i (x,(P.getD i zP).2)) (W.set (f * P.length+t) w)=kept P W:=by
 have hk:f * P.length+t<W.length:=by rw [hg.inv.2.1]; exact idx_lt hf ht
 unfold kept
 rw [List.length_set, List.length_set, sumN_one (g := pc P) hii fun j _ hj => pc_amt_ne x hj, pc_amt hii,
  sumN_one (g:=wc P W) (k:=f * P.length+t) hk fun j hjl hj => ?_]
 · have h1:wc (P.set i (x,(P.getD i zP).2)) (W.set (f * P.length+t) w) (f * P.length+t)=sumI w.2.1+(bif !dn P t || w.2.2 then preM w.1 else 0):=by
    unfold wc
    rw [getD_set_self hk,List.length_set,idx_mod ht,dn_amt hii]
   rw [h1]
   omega
 · unfold wc
   rw [getD_set_ne (fun e => hj e.symm),List.length_set,dn_amt hii]
theorem total_two {i : Nat} (hii : i < P.length) (x : Int) (w : Wir) (he : x - (P.getD i zP).1 + (sumI w.1 - sumI (W.getD (f * P.length + t) zW).1) = 0) :
 total (P.set i (x,(P.getD i zP).2)) (W.set (f * P.length+t) w)=total P W:=by
 have hk:f * P.length+t<W.length:=by rw [hg.inv.2.1]; exact idx_lt hf ht
 unfold total
 rw [List.length_set, List.length_set, sumN_one (g := fun i => (P.getD i zP).1) (k := i) hii fun j _ hj => ?_,
  sumN_one (g:=fun k => sumI (W.getD k zW).1) (k:=f * P.length+t) hk fun j _ hj => ?_]
 · simp only [getD_set_self hii, getD_set_self hk]
   omega
 · simp only [getD_set_ne (fun e => hj (Eq.symm e))]
 · simp only [getD_set_ne (fun e => hj (Eq.symm e))]
include hft
theorem send_keep {by_ : Int} (h1 : 1 ≤ by_) (h2 : by_ ≤ (P.getD f zP).1) :
 total (P.set f (IntKind.i64.wrap ((P.getD f zP).1 - by_),(P.getD f zP).2)) (addWord W (f * P.length+t) by_)=total P W ∧
 (Inv P W→kept (P.set f (IntKind.i64.wrap ((P.getD f zP).1 - by_),(P.getD f zP).2)) (addWord W (f * P.length+t) by_)=kept P W∧Inv (P.set f (IntKind.i64.wrap ((P.getD f zP).1 - by_),(P.getD f zP).2)) (addWord W (f * P.length+t) by_)):=by
 have hk:f * P.length+t<W.length:=by rw [hg.inv.2.1]; exact idx_lt hf ht
 have hamt:=hg.amt f hf
 rw [wrap_id (by omega) (by omega)]
 unfold addWord
 refine ⟨total_two hg hf ht hf _ _ ?_,fun hi => ⟨kept_two hg hf ht hf _ _ ?_, ?_⟩⟩
 · rw [sumI_app]; omega
 · unfold wc pc
   rw [idx_mod ht]
   cases hd:dn P f with
   | false =>
     have h0:=hi.nom f t hf ht hft hd
     have hc:(!dn P t || (W.getD (f * P.length+t) zW).2.2)=true:=by
        cases hd2:dn P t with
        | false => rfl
        | true => rw [hi.op f t hf ht hft hd2 hd]; rfl
     rw [hc]
     simp only [cond_false,cond_true]
     rw [preM_out h0 (by omega)]
     omega
   | true =>
     simp only [cond_true]
     rcases hi.sh f t hf ht hft hd with h0 | h0
     · rw [preM_in h0]
       omega
     · rw [h0.1, h0.2]
       simp only [Bool.not_true,Bool.or_self,cond_false]
       omega
 · refine ⟨fun a b ha hb hab hda => ?_, fun a b ha hb hab hdb hda => ?_, fun a b ha hb hab hda => ?_⟩
   · rw [List.length_set] at *
     rw [dn_amt hf] at hda
     rw [at_set ht hk _ hb]
     split
     · rename_i e
       obtain ⟨rfl,rfl⟩:=e
       intro h
       rcases List.mem_append.1 h with h | h
       · exact hi.nom a b ha hb hab hda h
       · have:=List.mem_singleton.1 h; omega
     · exact hi.nom a b ha hb hab hda
   · rw [List.length_set] at *
     rw [dn_amt hf] at hda hdb
     rw [at_set ht hk _ hb]
     split
     · rename_i e
       obtain ⟨rfl,rfl⟩:=e
       exact hi.op a b ha hb hab hdb hda
     · exact hi.op a b ha hb hab hdb hda
   · rw [List.length_set] at *
     rw [dn_amt hf] at hda
     rw [at_set ht hk _ hb,dn_amt hf]
     split
     · rename_i e
       obtain ⟨rfl,rfl⟩:=e
       rcases hi.sh a b ha hb hab hda with h | h
       · exact .inl (List.mem_append_left _ h)
       · exact .inr h
     · exact hi.sh a b ha hb hab hda
theorem take_keep {x : Int} {r : List Int} (hw : (W.getD (f * P.length + t) zW).1 = x :: r) (hx : x ≠ 0) :
 total (P.set t (IntKind.i64.wrap ((P.getD t zP).1+x),(P.getD t zP).2)) (W.set (f * P.length+t) (r,(if (W.getD (f * P.length+t) zW).2.2=true then (W.getD (f * P.length+t) zW).2.1 ++ [x] else (W.getD (f * P.length+t) zW).2.1),(W.getD (f * P.length+t) zW).2.2))=total P W ∧
 (Inv P W → kept (P.set t (IntKind.i64.wrap ((P.getD t zP).1 + x), (P.getD t zP).2)) (W.set (f * P.length + t) (r, (if (W.getD (f * P.length + t) zW).2.2 = true then (W.getD (f * P.length + t) zW).2.1 ++ [x] else (W.getD (f * P.length + t) zW).2.1), (W.getD (f * P.length + t) zW).2.2)) = kept P W ∧
  Inv (P.set t (IntKind.i64.wrap ((P.getD t zP).1+x),(P.getD t zP).2)) (W.set (f * P.length+t) (r,(if (W.getD (f * P.length+t) zW).2.2=true then (W.getD (f * P.length+t) zW).2.1 ++ [x] else (W.getD (f * P.length+t) zW).2.1),(W.getD (f * P.length+t) zW).2.2))):=by
 have hk:f * P.length+t<W.length:=by rw [hg.inv.2.1]; exact idx_lt hf ht
 have hamt:=hg.amt t ht
 have hx1:=hg.wrd _ hk x (by rw [hw]; exact List.mem_cons_self ..)
 have hx2:=(hg.inv.2.2 _ (getD_mem zW hk)).2.2 x (by rw [hw]; exact List.mem_cons_self ..)
 have hcl:=hg.cls _ hk
 rw [idx_mod ht] at hcl
 rw [wrap_id (by omega) (by omega)]
 refine ⟨total_two hg hf ht ht _ _ ?_,fun hi => ⟨kept_two hg hf ht ht _ _ ?_, ?_⟩⟩
 · rw [hw]
   simp only [sumI]
   omega
 · unfold wc pc
   rw [idx_mod ht,hw]
   simp only [preM,if_neg hx]
   cases hd:dn P t with
   | false =>
     rw [hcl hd]
     simp only [cond_false,Bool.not_false,Bool.true_or,cond_true,Bool.false_eq_true,if_false]
     omega
   | true =>
     cases ho:(W.getD (f * P.length+t) zW).2.2 with
     | false =>
       simp only [Bool.not_true,Bool.or_self,cond_false,cond_true,Bool.false_eq_true,if_false]
       omega
     | true =>
       simp only [Bool.not_true,Bool.false_or,cond_true,if_true,sumI_app]
       omega
 · refine ⟨fun a b ha hb hab hda => ?_, fun a b ha hb hab hdb hda => ?_, fun a b ha hb hab hda => ?_⟩
   · rw [List.length_set] at *
     rw [dn_amt ht] at hda
     rw [at_set ht hk _ hb]
     split
     · rename_i e
       obtain ⟨rfl,rfl⟩:=e
       have:=hi.nom a b ha hb hab hda
       rw [hw] at this
       exact fun h => this (List.mem_cons_of_mem _ h)
     · exact hi.nom a b ha hb hab hda
   · rw [List.length_set] at *
     rw [dn_amt ht] at hda hdb
     rw [at_set ht hk _ hb]
     split
     · rename_i e
       obtain ⟨rfl,rfl⟩:=e
       exact hi.op a b ha hb hab hdb hda
     · exact hi.op a b ha hb hab hdb hda
   · rw [List.length_set] at *
     rw [dn_amt ht] at hda
     rw [at_set ht hk _ hb,dn_amt ht]
     split
     · rename_i e
       obtain ⟨rfl,rfl⟩:=e
       rcases hi.sh a b ha hb hab hda with h | h
       · rw [hw] at h
         rcases List.mem_cons.1 h with h | h
         · exact absurd h.symm hx
         · exact .inl h
       · exact .inr h
     · exact hi.sh a b ha hb hab hda
/-- A marker comes where the picture is taken already. -/
theorem shut_keep {r : List Int} (hw : (W.getD (f * P.length + t) zW).1 = 0 :: r) (hd : dn P t = true) :
 total P (W.set (f * P.length+t) (r,(W.getD (f * P.length+t) zW).2.1,false))=total P W ∧
 (Inv P W→kept P (W.set (f * P.length+t) (r,(W.getD (f * P.length+t) zW).2.1,false))=kept P W∧Inv P (W.set (f * P.length+t) (r,(W.getD (f * P.length+t) zW).2.1,false))):=by
 have hk:f * P.length+t<W.length:=by rw [hg.inv.2.1]; exact idx_lt hf ht
 have hP:P.set t ((P.getD t zP).1,(P.getD t zP).2)=P:=by
  rw [List.getD_eq_getElem?_getD,List.getElem?_eq_getElem ht]
  exact List.set_getElem_self ht
 refine ⟨?_,fun hi => ⟨?_, ?_⟩⟩
 · have := total_two hg hf ht ht (P.getD t zP).1 (r, (W.getD (f * P.length + t) zW).2.1, false) (by rw [hw]; simp only [sumI]; omega)
   rw [hP] at this
   exact this
 · have:=kept_two hg hf ht ht (P.getD t zP).1 (r,(W.getD (f * P.length+t) zW).2.1,false) (by
    unfold wc pc
    rw [idx_mod ht,hw,hd]
    have h3:∀ b:Bool,(bif b then preM (0::r) else 0)=0:=fun b => by cases b <;> simp [preM]
    rw [h3]
    simp only [Bool.not_true,Bool.or_self,cond_false,cond_true]
    omega)
   rw [hP] at this
   exact this
 · have hdf:dn P f=true:=by
    cases h:dn P f with
    | true => rfl
    | false => exact absurd (by rw [hw]; exact List.mem_cons_self ..) (hi.nom f t hf ht hft h)
   refine ⟨fun a b ha hb hab hda => ?_,fun a b ha hb hab hdb hda => ?_,fun a b ha hb hab hda => ?_⟩
   · rw [at_set ht hk _ hb]
     split
     · rename_i e; rw [e.1,hdf] at hda; cases hda
     · exact hi.nom a b ha hb hab hda
   · rw [at_set ht hk _ hb]
     split
     · rename_i e; rw [e.1,hdf] at hda; cases hda
     · exact hi.op a b ha hb hab hdb hda
   · rw [at_set ht hk _ hb]
     split
     · rename_i e; rw [e.2]; exact .inr ⟨hd,rfl⟩
     · exact hi.sh a b ha hb hab hda
end
theorem save_total {P:List Prc} {W W':List Wir} {who:Nat} {shut:Int} (hl:W.length=P.length * P.length) (hw:who<P.length) (hs:saveR P W who shut=(true,W')):total (doneAt P who) W'=total P W:=by
 obtain ⟨hl',hat⟩:=saveF_at hw (List.range P.length) W W' List.nodup_range (fun o ho => List.mem_range.1 ho) hl hs
 unfold total
 rw [hl',show (doneAt P who).length=P.length by simp [doneAt]]
 congr 1
 · refine sumN_congr fun i hi => ?_
   unfold doneAt
   by_cases h:who=i
   · subst h; rw [getD_set_self hw]
   · rw [getD_set_ne h]
 · refine sum_idx hl fun a b ha hb => ?_
   rw [hat a b ha hb]
   split
   · rfl
   · split
     · simp only [sumI_app,Int.add_zero]
     · rfl
/-- A step from a good picture keeps what there is, and what a picture in the making holds. -/
theorem step_keep {P : List Prc} {W : List Wir} (hg : Gd P W) {kind f t by_ : Int} (h : (stepR P W kind f t by_).1 = true) :
 total (stepR P W kind f t by_).2.1 (stepR P W kind f t by_).2.2=total P W∧(Inv P W→kept (stepR P W kind f t by_).2.1 (stepR P W kind f t by_).2.2=kept P W∧Inv (stepR P W kind f t by_).2.1 (stepR P W kind f t by_).2.2):=by
 have hWl:=hg.inv.2.1
 unfold stepR at h ⊢
 by_cases hf:0≤f∧f<P.length
 case neg => rw [if_pos hf] at h; cases h
 have nf:¬¬(0≤f∧f<P.length):=fun h => h hf
 rw [if_neg nf] at h ⊢
 obtain ⟨i,rfl⟩:=Int.eq_ofNat_of_zero_le hf.1
 have hi:i<P.length:=by omega
 rw [Int.toNat_natCast] at h ⊢
 by_cases h3:kind=3
 · rw [if_pos h3] at h ⊢
   cases hd:(P.getD i zP).2.2 with
   | true => rw [hd,if_pos rfl] at h; cases h
   | false =>
     rw [hd,if_neg (by simp)] at h
     rw [if_neg (by simp)]
     have hs:saveR P W i (i:Int)=(true,(saveR P W i (i:Int)).2):=by
       have:(saveR P W i (i:Int)).1=true:=h
       rw [← this]
     exact ⟨save_total hWl hi hs,fun hinv => save_keep hg hinv hi hd rfl (fun a b ha hb => .inr ⟨fun e => e.2.2 (e.1.trans e.2.1.symm),rfl⟩) hs⟩
 rw [if_neg h3] at h ⊢
 by_cases ht:0≤t∧t<P.length
 case neg => rw [if_pos ht] at h; cases h
 have nt:¬¬(0≤t∧t<P.length):=fun h => h ht
 rw [if_neg nt] at h ⊢
 obtain ⟨j,rfl⟩:=Int.eq_ofNat_of_zero_le ht.1
 have hj:j<P.length:=by omega
 rw [Int.toNat_natCast] at h ⊢
 by_cases hft:(i:Int)=(j:Int)
 · rw [if_pos hft] at h; cases h
 rw [if_neg hft] at h ⊢
 have hij:i≠j:=by omega
 have hk:i * P.length+j<W.length:=by rw [hWl]; exact idx_lt hi hj
 by_cases h1:kind=1
 · rw [if_pos h1] at h ⊢
   unfold sendR at h ⊢
   simp only at h ⊢
   by_cases hc:(inB 1 (P.getD i zP).1 by_ && inB 0 1000000 by_)=true∧(W.getD (i * P.length+j) zW).1.length≠12
   · rw [if_pos hc]
     have h4:=inB_iff.1 (Bool.and_eq_true_iff.1 hc.1).1
     exact send_keep hg hi hj hij h4.1 h4.2
   · rw [if_neg hc] at h; cases h
 rw [if_neg h1] at h ⊢
 by_cases h2:kind=2
 case neg => rw [if_neg h2] at h; cases h
 rw [if_pos h2] at h ⊢
 unfold takeR at h ⊢
 simp only at h ⊢
 by_cases hc:(W.getD (i * P.length+j) zW).1.length=0∨200≤(W.getD (i * P.length+j) zW).2.1.length
 · rw [if_pos hc] at h; cases h
 rw [if_neg hc] at h ⊢
 have hl:0<(W.getD (i * P.length+j) zW).1.length:=by omega
 have hw:(W.getD (i * P.length+j) zW).1=(W.getD (i * P.length+j) zW).1.getD 0 0::(W.getD (i * P.length+j) zW).1.drop 1:=drop_getD 0 hl
 by_cases hx:(W.getD (i * P.length+j) zW).1.getD 0 0=0
 · rw [if_pos hx] at h ⊢
   rw [hx] at hw
   cases hd:(P.getD j zP).2.2 with
   | true =>
     rw [if_pos rfl]
     exact shut_keep hg hi hj hij hw hd
   | false =>
     rw [hd,if_neg (by simp)] at h
     rw [if_neg (by simp)]
     have hs:saveR P (W.set (i * P.length+j) ((W.getD (i * P.length+j) zW).1.drop 1,(W.getD (i * P.length+j) zW).2)) j (i:Int)=(true,(saveR P (W.set (i * P.length+j) ((W.getD (i * P.length+j) zW).1.drop 1,(W.getD (i * P.length+j) zW).2)) j (i:Int)).2):=by
       have:(saveR P (W.set (i * P.length+j) ((W.getD (i * P.length+j) zW).1.drop 1,(W.getD (i * P.length+j) zW).2)) j (i:Int)).1=true:=h
       rw [← this]
     have hP:P.set j ((P.getD j zP).1,(P.getD j zP).2)=P:=by
       rw [List.getD_eq_getElem?_getD,List.getElem?_eq_getElem hj]
       exact List.set_getElem_self hj
     refine ⟨?_,fun hinv => save_keep hg hinv hj hd (by simp) (fun a b ha hb => ?_) hs⟩
     · rw [save_total (by simpa using hWl) hj hs]
       have:=total_two hg hi hj hj (P.getD j zP).1 ((W.getD (i * P.length+j) zW).1.drop 1,(W.getD (i * P.length+j) zW).2) (by
        have h5:=congrArg sumI hw
        simp only [sumI] at h5
        simp only
        omega)
       rw [hP] at this
       exact this
     · rw [at_set hj hk _ hb]
       by_cases e:a=i∧b=j
       · left
         obtain ⟨rfl,rfl⟩:=e
         refine ⟨⟨rfl,rfl,hij⟩, ?_⟩
         rw [if_pos ⟨rfl,rfl⟩]
         exact Prod.ext hw rfl
       · right
         rw [if_neg e]
         exact ⟨fun h => e ⟨h.1,h.2.1⟩,rfl⟩
 · rw [if_neg hx]
   have:=take_keep hg hi hj hij hw hx
   cases ho:(W.getD (i * P.length+j) zW).2.2 with
   | true =>
     rw [ho] at this
     rw [if_pos rfl]
     rw [if_pos rfl] at this
     exact this
   | false =>
     rw [ho,if_neg (by simp)] at this
     rw [if_neg (by simp)]
     rw [show (W.getD (i * P.length+j) zW).2=((W.getD (i * P.length+j) zW).2.1,false) from Prod.ext rfl ho]
     exact this
end GoV

/- Pictures: totals; the same pictures are told to be the same. -/
namespace GoV
open Go
def amtP : List Prc → Int
 | [] => 0
 | p::r => p.1+amtP r
def wrdW : List Wir → Int
 | [] => 0
 | w::r => sumI w.1+wrdW r
def totR (P:List Prc) (W:List Wir):Int × Bool:=bif goodB P W then (amtP P+wrdW W,true) else (0,false)
theorem sum_list {α : Type} (f : α → Int) (z : α) (S : List α → Int) (h0 : S [] = 0) (h1 : ∀ x r, S (x :: r) = f x + S r) : ∀ l : List α, S l = sumN (fun i => f (l.getD i z)) l.length
 | [] => h0
 | x::r => by
   rw [h1,List.length_cons,sumN_front,sum_list f z S h0 h1 r]
   rfl
theorem total_eq (P:List Prc) (W:List Wir):total P W=amtP P+wrdW W:=by
 unfold total
 rw [sum_list (fun p:Prc => p.1) zP amtP rfl (fun _ _ => rfl) P,sum_list (fun w:Wir => sumI w.1) zW wrdW rfl (fun _ _ => rfl) W]
theorem good_words {P : List Prc} : ∀ {W : List Wir} {k : Nat}, wiresB P k W = true → ∀ w, w ∈ W → w.1.length ≤ 1000 ∧ w.1.all (inB 0 1000000) = true
 | [],_,_,w,hw => by simp at hw
 | v::W,k,h,w,hw => by
   simp only [wiresB,Bool.and_eq_true] at h
   rcases List.mem_cons.1 hw with rfl | hw
   · obtain ⟨h1, h2, h3, h4⟩ := wire_bounds h.1
     exact ⟨by omega,h2⟩
   · exact good_words h.2 w hw
section
variable {P:List Prc} {W:List Wir} (hP:P.length≤1000) (hW:W.length≤1000) (hp:∀ p,p∈P→0≤p.1∧p.1≤2000000000) (hr:∀ w,w∈W→w.1.length≤1000∧w.1.all (inB 0 1000000)=true)
include hW hr
theorem impl_total_l10:∀ i,i≤W.length→∀ a:Int,0≤a→a≤2000000000000+i * 1000000000→xi1c.l10 a W (W.length:Int) (i:Int)=some (a+wrdW (W.drop i),true):=by
 refine upto ?_ ?_
 · intro a _ _
   refine xi1c.eq10 _ _ _ _ ?_
   rw [List.drop_length]
   simp only [xi1c.t10,ix_lt,Nat.lt_irrefl,decide_false,cond_false,wrdW,Int.add_zero]
 · intro i hi ih a ha hb
   have h1:=hr _ (getD_mem zW hi)
   have h3:=sumI_bound h1.2
   rw [drop_getD zW hi]
   refine xi1c.eq10 _ _ _ _ ?_
   simp only [xi1c.t10,ix_lt,ix_nn,ix_nat,dec_t hi,cond_true,xi1h_eq h1.1 h1.2,Option.bind_some,wrap_succ (show i<9223372036854775807 by omega),wrdW]
   rw [wrap_id (by omega) (by omega),ih _ (by omega) (by omega),Int.add_assoc]
include hP hp
theorem impl_total_l5:∀ i,i≤P.length→∀ a:Int,0≤a→a≤i * 2000000000→xi1c.l5 P W a P (P.length:Int) (i:Int)=some (a+amtP (P.drop i)+wrdW W,true):=by
 refine upto ?_ ?_
 · intro a ha hb
   have hx:=impl_total_l10 hW hr 0 (Nat.zero_le _) a ha (by omega)
   refine xi1c.eq5 _ _ _ _ _ _ ?_
   rw [List.drop_length]
   simp only [xi1c.t5,ix_lt,Nat.lt_irrefl,decide_false,cond_false,amtP,Int.add_zero]
   exact hx
 · intro i hi ih a ha hb
   have h1:=hp _ (getD_mem zP hi)
   rw [drop_getD zP hi]
   refine xi1c.eq5 _ _ _ _ _ _ ?_
   simp only [xi1c.t5,ix_lt,ix_nn,ix_nat,dec_t hi,cond_true,wrap_succ (show i<9223372036854775807 by omega),amtP]
   generalize P.getD i zP=p at h1 ⊢
   rw [wrap_id (by omega) (by omega),ih _ (by omega) (by omega),← Int.add_assoc]
end
theorem good_tot {P:List Prc} {W:List Wir} (hg:goodB P W=true):P.length≤1000∧W.length≤1000∧(∀ p,p∈P→0≤p.1∧p.1≤2000000000)∧∀ w,w∈W→w.1.length≤1000∧w.1.all (inB 0 1000000)=true:=by
 have h:=good_pic hg
 simp only [goodB,Bool.and_eq_true] at hg
 refine ⟨h.1,h.2.1,fun p hp => ?_,good_words hg.2.2.2.1⟩
 have:=List.all_eq_true.1 hg.2.2.1 p hp
 simp only [procB,Bool.and_eq_true] at this
 exact inB_iff.1 this.1
section
variable {P:List Prc} {W:List Wir} (hl:∀ w,w∈W→w.1.length≤1073741824∧w.2.1.length≤1073741824)
include hl
theorem xi1c_eq:xi1c P W=some (totR P W):=by
 refine xi1c.eq _ _ ?_
 simp only [xi1c.t,xi14_eq _ _ hl,Option.bind_some,totR]
 cases hg:goodB P W with
 | false => rfl
 | true =>
   obtain ⟨h1,h2,h3,h4⟩:=good_tot hg
   have:=impl_total_l5 h1 h2 h3 h4 0 (Nat.zero_le _) 0 (by omega) (by omega)
   rw [List.drop_zero,Int.zero_add] at this
   simp only [bang_t,cond_false,cond_true]
   exact this
theorem xi10_eq:xi10 P W=some (bif goodB P W then picR P W else (0,false)):=by
 refine xi10.eq _ _ ?_
 simp only [xi10.t,xi14_eq _ _ hl,Option.bind_some]
 cases hg:goodB P W with
 | false => rfl
 | true =>
   obtain ⟨h1,h2,h3,h4⟩:=good_pic hg
   simp only [bang_t,cond_false,cond_true,impl_picture_eq h1 h2 h3 h4,Option.bind_some]
end
theorem sameInts_rf (l:List Int) (hl:l.length≤1073741824):xl17 l l=some true:=by
 have main:∀ i,i≤l.length→xl17.l4 l l (l.length:Int) (i:Int)=some true:=by
  refine upto ?_ ?_
  · refine xl17.eq4 _ _ _ _ ?_
    simp only [xl17.t4,ix_lt,Nat.lt_irrefl,decide_false,cond_false]
  · intro i hi ih
    refine xl17.eq4 _ _ _ _ ?_
    simp only [xl17.t4,ix_lt,ix_nn,ix_nat,dec_t hi,cond_true,cond_false,bne_self_eq_false,wrap_succ (show i<9223372036854775807 by omega)]
    exact ih
 refine xl17.eq _ _ ?_
 simp only [xl17.t,bne_self_eq_false,cond_false]
 exact main 0 (Nat.zero_le _)
theorem sameSnaps_rf (P:List Prc) (W:List Wir) (hP:P.length≤1073741824) (hW:W.length≤1073741824) (hl:∀ w,w∈W→w.1.length≤1073741824∧w.2.1.length≤1073741824):xl12 P W P W=some true:=by
 have m10:∀ i,i≤W.length→xl12.l10 P W P W (W.length:Int) (i:Int)=some true:=by
  refine upto ?_ ?_
  · refine xl12.eq10 _ _ _ _ _ _ ?_
    simp only [xl12.t10,ix_lt,Nat.lt_irrefl,decide_false,cond_false]
  · intro i hi ih
    have h1:=hl _ (getD_mem zW hi)
    refine xl12.eq10 _ _ _ _ _ _ ?_
    simp only [xl12.t10,ix_lt,ix_nn,ix_nat,dec_t hi,cond_true,sameInts_rf _ h1.1,sameInts_rf _ h1.2,Option.bind_some,bang_t,cond_false,wrap_succ (show i<9223372036854775807 by omega),ih]
    cases (W.getD i zW).2.2 <;> rfl
 have m4:∀ i,i≤P.length→xl12.l4 P W P W (P.length:Int) (i:Int)=some true:=by
  refine upto ?_ ?_
  · refine xl12.eq4 _ _ _ _ _ _ ?_
    simp only [xl12.t4,ix_lt,Nat.lt_irrefl,decide_false,cond_false]
    exact m10 0 (Nat.zero_le _)
  · intro i hi ih
    refine xl12.eq4 _ _ _ _ _ _ ?_
    simp only [xl12.t4,ix_lt,ix_nn,ix_nat,dec_t hi,cond_true,decide_true,Bool.and_self,bang_t,cond_false,wrap_succ (show i<9223372036854775807 by omega),ih]
 refine xl12.eq _ _ _ _ ?_
 simp only [xl12.t,bne_self_eq_false,cond_false]
 exact m4 0 (Nat.zero_le _)
end GoV

/- Drawing: a cursor always answers; what every seat has of it. -/
namespace GoV
open Go
def Byt (b:List Int):Prop:=∀ x,x∈b→0≤x∧x≤255
theorem u64_id {x:Int} (h1:0≤x) (h2:x≤255):IntKind.u64.wrap x=x:=by
 simp [IntKind.wrap,IntKind.signed,IntKind.bits]
 omega
theorem low_byte (x:BitVec IntKind.u64.bits):0≤IntKind.i64.wrap (IntKind.u64.wrap (((x &&& BitVec.ofInt IntKind.u64.bits (255:Int)).toNat:Nat):Int))∧IntKind.i64.wrap (IntKind.u64.wrap (((x &&& BitVec.ofInt IntKind.u64.bits (255:Int)).toNat:Nat):Int))≤255:=by
 have h:(x &&& BitVec.ofInt IntKind.u64.bits (255:Int)).toNat≤255:=by
  rw [BitVec.toNat_and]
  exact Nat.and_le_right
 rw [u64_id (by omega) (by omega),wrap_id (by omega) (by omega)]
 omega
section
variable {b:List Int} (hb:Byt b)
include hb
theorem nextD_ok {a:Int} (s:Int) (h0:0≤a) (h1:a≤1000000):∃ x s',xs0g b a s=some (x,b,a+1,s')∧0≤x∧x≤255:=by
 have hw:IntKind.i64.wrap (a+1)=a+1:=wrap_id (by omega) (by omega)
 by_cases g:a<(b.length:Int)
 · have g2 : a.toNat < b.length := by omega
   have g3:a+1≤(b.length:Int):=by omega
   have hx:=hb _ (getD_mem (0:Int) g2)
   have hwx:IntKind.i64.wrap (b.getD a.toNat 0)=b.getD a.toNat 0:=wrap_id (by omega) (by omega)
   have k:∃ s',xs0g.t some b a s=some (b.getD a.toNat 0,b,a+1,s'):=by
    simp only [xs0g.t,dec_t g,dec_t h0,dec_t g2,hw,hwx,dec_t g3,cond_true]
    exact ⟨_,rfl⟩
   obtain ⟨s',k⟩:=k
   exact ⟨_,s',xs0g.eq _ _ _ k,hx⟩
 · have g3 : ¬ a + 1 ≤ (b.length : Int) := by omega
   have k:∃ x s',xs0g.t some b a s=some (x,b,a+1,s')∧0≤x∧x≤255:=by
    simp only [xs0g.t,dec_f g,hw,dec_f g3,cond_false]
    exact ⟨_,_,rfl,low_byte _⟩
   obtain ⟨x,s',k,hx⟩:=k
   exact ⟨x,s',xs0g.eq _ _ _ k,hx⟩
theorem pickD_ok {a:Int} (s k:Int) (h0:0≤a) (h1:a≤1000000) (hk:2≤k) (hk2:k≤200):∃ x s',xs0h b a s k=some (x,b,a+1,s')∧0≤x∧x<k:=by
 obtain ⟨x,s',e,hx⟩:=nextD_ok hb s h0 h1
 have g1:¬ k≤1:=by omega
 have g2:¬ k > 200:=by omega
 have g3:k≠0:=by omega
 refine ⟨x.tmod k,s',xs0h.eq _ _ _ _ ?_,Int.tmod_nonneg _ hx.1,Int.tmod_lt_of_pos _ (by omega)⟩
 simp only [xs0h.t,dec_f g1,e,Option.bind_some,dec_f g2,dec_t g3,cond_true,cond_false]
theorem oneD_ok {a:Int} (s k:Int) (h0:0≤a) (h1:a≤1000000) (hk:2≤k) (hk2:k≤200):∃ x s',xs0n b a s k=some (x,b,a+1,s'):=by
 obtain ⟨x,s',e,hx⟩:=pickD_ok hb s k h0 h1 hk hk2
 exact ⟨x == 0,s',xs0n.eq _ _ _ _ (by simp only [xs0n.t,e,Option.bind_some])⟩
theorem amongD_ok {a:Int} (s:Int) (l:List Int) (h0:0≤a) (h1:a≤1000000) (hk:2≤l.length) (hk2:l.length≤200):∃ x s',xs0f b a s l=some (x,b,a+1,s'):=by
 obtain ⟨x,s',e,hx⟩:=pickD_ok hb s (l.length:Int) h0 h1 (by omega) (by omega)
 have g:x.toNat<l.length:=by omega
 exact ⟨l.getD x.toNat 0,s',xs0f.eq _ _ _ _ (by simp only [xs0f.t,e,Option.bind_some,dec_t hx.1,dec_t g,cond_true])⟩
theorem pickAny {a:Int} (s k:Int) (h0:0≤a) (h1:a≤1000000) (hk:1≤k) (hk2:k≤200):∃ x a' s',xs0h b a s k=some (x,b,a',s')∧(0≤x∧x<k)∧a≤a'∧a'≤a+1:=by
 by_cases h:k≤1
 · exact ⟨0,a,s,xs0h.eq _ _ _ _ (by simp only [xs0h.t,dec_t h,cond_true]),by omega,by omega,by omega⟩
 · obtain ⟨x, s', e, hx⟩ := pickD_ok hb s k h0 h1 (by omega) hk2
   exact ⟨x,a+1,s',e,hx,by omega,by omega⟩
end
end GoV

/- Pictures: new ones, and steps made one after the other. -/
namespace GoV
open Go
def newP (l:List Int):List Prc:=l.map fun n => (n,0,false)
def newW (n:Nat):List Wir:=List.replicate (n * n) ([],[],false)
def newR (l:List Int):List Prc × List Wir × Bool:=bif goodB (newP l) (newW l.length) then (newP l,newW l.length,true) else ([],[],false)
theorem newW_hl (n:Nat):∀ w,w∈newW n→w.1.length≤1073741824∧w.2.1.length≤1073741824:=fun w hw => by
 obtain ⟨_,rfl⟩:=List.mem_replicate.1 hw
 exact ⟨by simp,by simp⟩
theorem newP_len (l:List Int):(newP l).length=l.length:=by simp [newP]
theorem newP_snoc (l:List Int) {i:Nat} (hi:i<l.length):newP (l.take i) ++ [(l.getD i 0,0,false)]=newP (l.take (i+1)):=by
 rw [List.take_succ_eq_append_getElem hi]
 simp only [newP,List.map_append,List.map_cons,List.map_nil,List.getD_eq_getElem?_getD,List.getElem?_eq_getElem hi,Option.getD_some]
theorem xs1e_eq (l:List Int) (hl:l.length≤1048576):xs1e l=some (newR l):=by
 have hsq:l.length * l.length≤1048576 * 1048576:=Nat.mul_le_mul hl hl
 have main:∀ i,i≤l.length→xs1e.l3 l [] [] (newP (l.take i)) [] l (l.length:Int) (i:Int)=some (newR l):=by
  refine upto ?_ ?_
  · refine xs1e.eq3 _ _ _ _ _ _ _ _ ?_
    have h1:((0:Int)≤((l.length * l.length:Nat):Int)):=by omega
    have h2:((l.length * l.length:Nat):Int) * ((3:Nat):Int)≤4398046511104:=by omega
    rw [List.take_length]
    simp only [xs1e.t3,ix_lt,Nat.lt_irrefl,decide_false,cond_false,sq_big l.length (by omega),dec_t h1,dec_t h2,decide_true,cond_true,Int.toNat_natCast,xs18_eq _ _ (newW_hl l.length),newR]
    have h3:xs18 (newP l) (List.replicate (l.length * l.length) ([],[],false))=some (goodB (newP l) (newW l.length)):=xs18_eq _ _ (newW_hl l.length)
    rw [h3,Option.bind_some]
    cases goodB (newP l) (newW l.length) with
    | false => rfl
    | true => rfl
  · intro i hi ih
    refine xs1e.eq3 _ _ _ _ _ _ _ _ ?_
    have h1:(newP (l.take i)).length+[(l.getD i 0,(0:Int),false)].length≤4294967296:=by
        rw [newP_len,List.length_singleton,List.length_take]; omega
    simp only [xs1e.t3,ix_lt,ix_nn,ix_nat,dec_t hi,cond_true,dec_t h1,wrap_succ (show i<9223372036854775807 by omega),newP_snoc l hi]
    exact ih
 refine xs1e.eq _ ?_
 simp only [xs1e.t]
 exact main 0 (Nat.zero_le _)
abbrev Stp4:=Int × Int × Int × Int
def playF : List Stp4 → List Prc → List Wir → List Bool → List Prc × List Wir × List Bool × Bool
 | [],P,W,D => (P,W,D,true)
 | x::r,P,W,D => bif (stepS P W x.1 x.2.1 x.2.2.1 x.2.2.2).2.2 then playF r (stepS P W x.1 x.2.1 x.2.2.1 x.2.2.2).1 (stepS P W x.1 x.2.1 x.2.2.1 x.2.2.2).2.1 (D ++ [true]) else playF r P W (D ++ [false])
theorem playF_small : ∀ (l : List Stp4) (P : List Prc) (W : List Wir) (D : List Bool), goodB P W = true → goodB (playF l P W D).1 (playF l P W D).2.1 = true ∧ (playF l P W D).2.2.1.length = D.length + l.length
 | [],P,W,D,hg => ⟨hg,rfl⟩
 | x::r,P,W,D,hg => by
   simp only [playF]
   cases hc:(stepS P W x.1 x.2.1 x.2.2.1 x.2.2.2).2.2 with
   | false =>
     have:=playF_small r P W (D ++ [false]) hg
     refine ⟨this.1, ?_⟩
     have h2:=this.2
     simp only [cond_false,List.length_append,List.length_cons,List.length_nil] at h2 ⊢
     omega
   | true =>
     have:=playF_small r _ _ (D ++ [true]) (stepS_good hc).1
     refine ⟨this.1, ?_⟩
     have h2:=this.2
     simp only [cond_true,List.length_append,List.length_cons,List.length_nil] at h2 ⊢
     omega
theorem spec_play_l6 {l:List Stp4} (hl:l.length≤120):∀ i,i≤l.length→∀ (P:List Prc) (W:List Wir) (D:List Bool),goodB P W=true→D.length=i→xs19.l6 [] [] P W D l (l.length:Int) (i:Int)=some (playF (l.drop i) P W D):=by
 refine upto ?_ ?_
 · intro P W D hg hD
   refine xs19.eq6 _ _ _ _ _ _ _ _ ?_
   rw [List.drop_length]
   simp only [xs19.t6,ix_lt,Nat.lt_irrefl,decide_false,cond_false,playF]
 · intro i hi ih P W D hg hD
   refine xs19.eq6 _ _ _ _ _ _ _ _ ?_
   rw [drop_getD ((0:Int),(0:Int),(0:Int),(0:Int)) hi]
   have h1:∀ b:Bool,D.length+[b].length≤4294967296:=fun b => by rw [List.length_singleton]; omega
   simp only [xs19.t6,ix_lt,ix_nn,ix_nat,dec_t hi,cond_true,xs1a_eq hg,Option.bind_some,dec_t (h1 _),wrap_succ (show i<9223372036854775807 by omega),playF]
   generalize l.getD i ((0:Int),(0:Int),(0:Int),(0:Int))=x
   cases hc:(stepS P W x.1 x.2.1 x.2.2.1 x.2.2.2).2.2 with
   | false =>
     simp only [cond_false]
     exact ih P W _ hg (by simp [hD])
   | true =>
     simp only [cond_true]
     exact ih _ _ _ (stepS_good hc).1 (by simp [hD])
def playS (v0:List Int) (v1:List Stp4):List Prc × List Wir × List Bool × Bool:=bif goodB (newP v0) (newW v0.length) && decide (v1.length≤120) then playF v1 (newP v0) (newW v0.length) [] else ([],[],[],false)
theorem xs19_eq (v0:List Int) (h0:v0.length≤1048576) (v1:List Stp4):xs19 v0 v1=some (playS v0 v1):=by
 have e1:=xs1e_eq v0 h0
 unfold playS
 cases hg:goodB (newP v0) (newW v0.length) with
 | false =>
   have h1:newR v0=([],[],false):=by rw [newR,hg,cond_false]
   exact xs19.eq _ _ (by simp only [xs19.t,e1,h1,Option.bind_some,bang_f,cond_true,Bool.false_and,cond_false])
 | true =>
   have h1:newR v0=(newP v0,newW v0.length,true):=by rw [newR,hg,cond_true]
   refine xs19.eq _ _ ?_
   by_cases hl:v1.length≤120
   · have h2 : decide ((v1.length : Int) > 120) = false := dec_f (by omega)
     simp only [xs19.t,e1,h1,Option.bind_some,bang_t,cond_false,h2,dec_t hl,Bool.true_and,cond_true]
     exact spec_play_l6 hl 0 (Nat.zero_le _) _ _ _ hg rfl
   · have h2 : decide ((v1.length : Int) > 120) = true := dec_t (by omega)
     simp only [xs19.t,e1,h1,Option.bind_some,bang_t,cond_false,h2,cond_true,dec_f hl,Bool.true_and]
theorem playF_true : ∀ (l : List Stp4) (P : List Prc) (W : List Wir) (D : List Bool), (playF l P W D).2.2.2 = true
 | [],_,_,_ => rfl
 | x::r,P,W,D => by
   simp only [playF]
   cases (stepS P W x.1 x.2.1 x.2.2.1 x.2.2.2).2.2 with
   | false => exact playF_true r _ _ _
   | true => exact playF_true r _ _ _
theorem playS_good {v0:List Int} {v1:List Stp4} (h:(playS v0 v1).2.2.2=true):goodB (newP v0) (newW v0.length)=true∧v1.length≤120∧playS v0 v1=playF v1 (newP v0) (newW v0.length) []:=by
 unfold playS at *
 cases hc:(goodB (newP v0) (newW v0.length) && decide (v1.length≤120)) with
 | false => rw [hc] at h; cases h
 | true =>
   have:=Bool.and_eq_true_iff.1 hc
   exact ⟨this.1,of_decide_eq_true this.2,rfl⟩
end GoV

/- Drawing amounts and steps. -/
namespace GoV
open Go
section
variable {b:List Int} (hb:Byt b)
include hb
theorem amounts_loop : ∀ (m : Nat) (a s : Int) (l : List Int), 0 ≤ a → a + (m : Int) ≤ 10000 → 1 ≤ l.length + m → l.length + m ≤ 10000 →
 ∃ k a' s',xs0d.l3 b a s l (m:Int)=some (k,b,a',s')∧k.length=l.length+m∧a≤a'∧a'≤a+m+2
 | 0,a,s,l,h0,h1,h2,h3 => by
   obtain ⟨o,s1,e1⟩:=oneD_ok hb (a:=a) s 20 h0 (by omega) (by omega) (by omega)
   have hd:decide (((0:Nat):Int) > 0)=false:=rfl
   have hl:0<l.length:=by omega
   cases o with
   | false => exact ⟨l,a+1,s1,xs0d.eq3 _ _ _ _ _ (by simp only [xs0d.t3,hd,cond_false,e1,Option.bind_some]),by omega,by omega,by omega⟩
   | true =>
     obtain ⟨x,s2,e2⟩:=amongD_ok hb (a:=a+1) s1 [(-1:Int),1000000,2000000001] (by omega) (by omega) (by simp) (by simp)
     exact ⟨l.set 0 x,a+1+1,s2,xs0d.eq3 _ _ _ _ _ (by simp only [xs0d.t3,hd,cond_false,cond_true,e1,e2,Option.bind_some,Int.toNat_zero,dec_t hl]),by simp,by omega,by omega⟩
 | m+1,a,s,l,h0,h1,h2,h3 => by
   obtain ⟨x,s1,e1,_⟩:=pickD_ok hb (a:=a) s 50 h0 (by omega) (by omega) (by omega)
   obtain ⟨k,a',s',e2,hk,ha,ha'⟩:=amounts_loop m (a+1) s1 (l ++ [x]) (by omega) (by omega) (by simp; omega) (by simp; omega)
   have hd:decide (((m+1:Nat):Int) > 0)=true:=dec_t (by omega)
   have hl:l.length+[x].length≤4294967296:=by simp only [List.length_singleton]; omega
   have hw:IntKind.i64.wrap (((m+1:Nat):Int) - 1)=(m:Int):=by rw [wrap_id (by omega) (by omega)]; omega
   refine ⟨k,a',s',xs0d.eq3 _ _ _ _ _ ?_,by simp at hk; omega,by omega,by omega⟩
   simp only [xs0d.t3,hd,cond_true,e1,Option.bind_some,dec_t hl,hw]
   exact e2
theorem amounts_ok {a:Int} (s:Int) (h0:0≤a) (h1:a≤1000):∃ k a' s',xs0d b a s=some (k,b,a',s')∧2≤k.length∧k.length≤4∧a≤a'∧a'≤a+10:=by
 obtain ⟨x,s1,e1,hx⟩:=pickD_ok hb (a:=a) s 3 h0 (by omega) (by omega) (by omega)
 obtain ⟨k,a',s',e2,hk,ha,ha'⟩:=amounts_loop hb (2+x.toNat) (a+1) s1 [] (by omega) (by omega) (by simp; omega) (by simp; omega)
 have hw:IntKind.i64.wrap (2+x)=((2+x.toNat:Nat):Int):=by rw [wrap_id (by omega) (by omega)]; omega
 simp only [List.length_nil,Nat.zero_add] at hk
 refine ⟨k,a',s',xs0d.eq _ _ _ ?_,by omega,by omega,by omega,by omega⟩
 simp only [xs0d.t,e1,Option.bind_some,hw]
 exact e2
theorem snapSteps_loop {n : Nat} (hn : 1 ≤ n ∧ n ≤ 100) : ∀ (m : Nat) (a s : Int) (l : List Stp4), 0 ≤ a → a + 20 * (m : Int) ≤ 100000 → l.length + m ≤ 10000 →
 ∃ k a' s',xs0c.l5 b a s (n:Int) l (m:Int)=some (k,b,a',s')∧k.length=l.length+m∧a≤a'∧a'≤a+20 * m
 | 0,a,s,l,h0,h1,h2 => by
   have hd:decide (((0:Nat):Int) > 0)=false:=rfl
   exact ⟨l,a,s,xs0c.eq5 _ _ _ _ _ _ (by simp only [xs0c.t5,hd,cond_false]),rfl,by omega,by omega⟩
 | m+1,a,s,l,h0,h1,h2 => by
   have hd:decide (((m+1:Nat):Int) > 0)=true:=dec_t (by omega)
   have hl:∀ x:Stp4,l.length+[x].length≤4294967296:=fun x => by simp only [List.length_singleton]; omega
   have hw:IntKind.i64.wrap (((m+1:Nat):Int) - 1)=(m:Int):=by rw [wrap_id (by omega) (by omega)]; omega
   obtain ⟨x1,s1,e1⟩:=amongD_ok hb (a:=a) s [(1:Int),1,2,2,2,2] h0 (by omega) (by simp) (by simp)
   obtain ⟨x2,a2,s2,e2,_,g2,g2'⟩:=pickAny hb (a:=a+1) s1 (n:Int) (by omega) (by omega) (by omega) (by omega)
   obtain ⟨x3,a3,s3,e3,_,g3,g3'⟩:=pickAny hb (a:=a2) s2 (n:Int) (by omega) (by omega) (by omega) (by omega)
   obtain ⟨x4,s4,e4,_⟩:=pickD_ok hb (a:=a3) s3 9 (by omega) (by omega) (by omega) (by omega)
   obtain ⟨o1,s5,e5⟩:=oneD_ok hb (a:=a3+1) s4 10 (by omega) (by omega) (by omega) (by omega)
   obtain ⟨o2,s6,e6⟩:=oneD_ok hb (a:=a3+1+1) s5 60 (by omega) (by omega) (by omega) (by omega)
   obtain ⟨x5,s7,e7,_⟩:=pickD_ok hb (a:=a3+1+1+1) s6 5 (by omega) (by omega) (by omega) (by omega)
   obtain ⟨x6,s8,e8,_⟩:=pickD_ok hb (a:=a3+1+1+1+1) s7 7 (by omega) (by omega) (by omega) (by omega)
   obtain ⟨x7,s9,e9,_⟩:=pickD_ok hb (a:=a3+1+1+1+1+1) s8 7 (by omega) (by omega) (by omega) (by omega)
   obtain ⟨x8,s10,e10⟩:=amongD_ok hb (a:=a3+1+1+1+1+1+1) s9 [(0:Int),1,1000001] (by omega) (by omega) (by simp) (by simp)
   have key:∀ (a' s':Int) (x:Stp4),a≤a'→a'≤a+20→∃ k a'' s'',xs0c.l5 b a' s' (n:Int) (l ++ [x]) (m:Int)=some (k,b,a'',s'')∧k.length=l.length+(m+1)∧a≤a''∧a''≤a+20 * ((m+1:Nat):Int):=fun a' s' x h3 h4 => by
     obtain ⟨k,a'',s'',e,hk,q1,q2⟩:=snapSteps_loop hn m a' s' (l ++ [x]) (by omega) (by omega) (by simp; omega)
     exact ⟨k,a'',s'',e,by simp at hk; omega,by omega,by omega⟩
   have goal:∃ k a' s',xs0c.t5 some xs0c.l5 b a s (n:Int) l ((m+1:Nat):Int)=some (k,b,a',s')∧k.length=l.length+(m+1)∧a≤a'∧a'≤a+20 * ((m+1:Nat):Int):=by
     simp only [xs0c.t5,hd,cond_true,e1,e2,e3,e4,e5,e6,e7,e8,e9,e10,Option.bind_some,dec_t (hl _),hw]
     cases o1 with
     | true =>
       cases o2 with
       | true => exact key _ _ _ (by omega) (by omega)
       | false => exact key _ _ _ (by omega) (by omega)
     | false =>
       cases o2 with
       | true => exact key _ _ _ (by omega) (by omega)
       | false => exact key _ _ _ (by omega) (by omega)
   obtain ⟨k,a',s',e,r⟩:=goal
   exact ⟨k,a',s',xs0c.eq5 _ _ _ _ _ _ e,r⟩
theorem snapSteps_ok {n:Nat} (hn:1≤n∧n≤100) {a:Int} (s:Int) (h0:0≤a) (h1:a≤1000):∃ k a' s',xs0c b a s (n:Int)=some (k,b,a',s')∧k.length≤121∧a≤a'∧a'≤a+3000:=by
 obtain ⟨x1,s1,e1,hx1⟩:=pickD_ok hb (a:=a) s 30 h0 (by omega) (by omega) (by omega)
 obtain ⟨o,s2,e2⟩:=oneD_ok hb (a:=a+1) s1 12 (by omega) (by omega) (by omega) (by omega)
 obtain ⟨x3,s3,e3,hx3⟩:=pickD_ok hb (a:=a+1+1) s2 32 (by omega) (by omega) (by omega) (by omega)
 have goal:∃ k a' s',xs0c.t some xs0c.l5 b a s (n:Int)=some (k,b,a',s')∧k.length≤121∧a≤a'∧a'≤a+3000:=by
  have hw:IntKind.i64.wrap (90+x3)=((90+x3.toNat:Nat):Int):=by rw [wrap_id (by omega) (by omega)]; omega
  have hw1:x1=((x1.toNat:Nat):Int):=by omega
  simp only [xs0c.t,e1,e2,e3,Option.bind_some,hw]
  cases o with
  | true =>
    obtain ⟨k,a',s',e,hk,q1,q2⟩:=snapSteps_loop hb hn (90+x3.toNat) (a+1+1+1) s3 [] (by omega) (by omega) (by simp; omega)
    exact ⟨k,a',s',e,by simp at hk; omega,by omega,by omega⟩
  | false =>
    obtain ⟨k,a',s',e,hk,q1,q2⟩:=snapSteps_loop hb hn x1.toNat (a+1+1) s2 [] (by omega) (by omega) (by simp; omega)
    rw [← hw1] at e
    exact ⟨k,a',s',e,by simp at hk; omega,by omega,by omega⟩
 obtain ⟨k,a',s',e,r⟩:=goal
 exact ⟨k,a',s',xs0c.eq _ _ _ _ e,r⟩
end
end GoV

/- Pictures: the program's new ones, and its steps made one after the other. -/
namespace GoV
open Go
theorem xi1d_eq (l:List Int) (hl:l.length≤4):xi1d l=some (newP l,newW l.length):=by
 have hsq:l.length * l.length≤4 * 4:=Nat.mul_le_mul hl hl
 have main:∀ i,i≤l.length→xi1d.l3 l [] [] (newP (l.take i)) [] l (l.length:Int) (i:Int)=some (newP l,newW l.length):=by
  refine upto ?_ ?_
  · refine xi1d.eq3 _ _ _ _ _ _ _ _ ?_
    have h1:((0:Int)≤((l.length * l.length:Nat):Int)):=by omega
    have h2:((l.length * l.length:Nat):Int) * ((3:Nat):Int)≤4398046511104:=by omega
    rw [List.take_length]
    simp only [xi1d.t3,ix_lt,Nat.lt_irrefl,decide_false,cond_false,sq_nat l.length hl,dec_t h1,dec_t h2,decide_true,cond_true,Int.toNat_natCast]
    rfl
  · intro i hi ih
    refine xi1d.eq3 _ _ _ _ _ _ _ _ ?_
    have h1:(newP (l.take i)).length+[(l.getD i 0,(0:Int),false)].length≤4294967296:=by
        rw [newP_len,List.length_singleton,List.length_take]; omega
    simp only [xi1d.t3,ix_lt,ix_nn,ix_nat,dec_t hi,cond_true,dec_t h1,wrap_succ (show i<9223372036854775807 by omega),newP_snoc l hi]
    exact ih
 refine xi1d.eq _ ?_
 simp only [xi1d.t]
 exact main 0 (Nat.zero_le _)
theorem xi1b_eq (l:List Int):xi1b l=some (newR l):=by
 refine xi1b.eq _ ?_
 simp only [xi1b.t,xi1f_eq,inB24,Option.bind_some]
 by_cases hp:2≤l.length∧l.length≤4
 · rw [dec_t hp]
   simp only [bang_t,cond_false,xi1d_eq l hp.2,xi14_eq _ _ (newW_hl l.length),Option.bind_some,newR]
   cases goodB (newP l) (newW l.length) with
   | false => rfl
   | true => rfl
 · rw [dec_f hp]
   have h1:goodB (newP l) (newW l.length)=false:=by
    simp only [goodB,newP_len,dec_f hp,Bool.false_and]
   simp only [bang_f,cond_true,newR,h1,cond_false]
theorem impl_play_l6 {l:List Stp4} (hl:l.length≤120):∀ i,i≤l.length→∀ (P:List Prc) (W:List Wir) (D:List Bool),goodB P W=true→D.length=i→xi15.l6 [] [] P W D l (l.length:Int) (i:Int)=some (playF (l.drop i) P W D):=by
 refine upto ?_ ?_
 · intro P W D hg hD
   refine xi15.eq6 _ _ _ _ _ _ _ _ ?_
   rw [List.drop_length]
   simp only [xi15.t6,ix_lt,Nat.lt_irrefl,decide_false,cond_false,playF]
 · intro i hi ih P W D hg hD
   refine xi15.eq6 _ _ _ _ _ _ _ _ ?_
   rw [drop_getD ((0:Int),(0:Int),(0:Int),(0:Int)) hi]
   have h1:∀ b:Bool,D.length+[b].length≤4294967296:=fun b => by rw [List.length_singleton]; omega
   simp only [xi15.t6,ix_lt,ix_nn,ix_nat,dec_t hi,cond_true,impl_stepped_eq (good_inv hg),Option.bind_some,dec_t (h1 _),wrap_succ (show i<9223372036854775807 by omega),playF]
   generalize l.getD i ((0:Int),(0:Int),(0:Int),(0:Int))=x
   cases hc:(stepS P W x.1 x.2.1 x.2.2.1 x.2.2.2).2.2 with
   | false =>
     simp only [cond_false]
     exact ih P W _ hg (by simp [hD])
   | true =>
     simp only [cond_true]
     exact ih _ _ _ (stepS_good hc).1 (by simp [hD])
theorem xi15_eq (v0:List Int) (v1:List Stp4):xi15 v0 v1=some (playS v0 v1):=by
 have e2:=xi1b_eq v0
 unfold playS
 cases hg:goodB (newP v0) (newW v0.length) with
 | false =>
   have h1:newR v0=([],[],false):=by rw [newR,hg,cond_false]
   exact xi15.eq _ _ (by simp only [xi15.t,e2,h1,Option.bind_some,bang_f,cond_true,Bool.false_and,cond_false])
 | true =>
   have h1:newR v0=(newP v0,newW v0.length,true):=by rw [newR,hg,cond_true]
   refine xi15.eq _ _ ?_
   by_cases hl:v1.length≤120
   · have h2 : decide ((v1.length : Int) > 120) = false := dec_f (by omega)
     simp only [xi15.t,e2,h1,Option.bind_some,bang_t,cond_false,h2,dec_t hl,Bool.true_and,cond_true]
     exact impl_play_l6 hl 0 (Nat.zero_le _) _ _ _ hg rfl
   · have h2 : decide ((v1.length : Int) > 120) = true := dec_t (by omega)
     simp only [xi15.t,e2,h1,Option.bind_some,bang_t,cond_false,h2,cond_true,dec_f hl,Bool.true_and]
end GoV

/- FnPictured: a picture holds what there is. -/
namespace GoV
open Go
/-- What is kept all along. -/
structure All (P : List Prc) (W : List Wir) (s : Int) : Prop where
 g:goodB P W=true
 i:Inv P W
 k:kept P W=s
 t:total P W=s
theorem All.step {P:List Prc} {W:List Wir} {s kind f t by_:Int} (h:All P W s) (hs:(stepS P W kind f t by_).2.2=true):All (stepS P W kind f t by_).1 (stepS P W kind f t by_).2.1 s:=by
 have hg:=(stepS_good hs).1
 unfold stepS at *
 cases hc:((stepR P W kind f t by_).1 && goodB (stepR P W kind f t by_).2.1 (stepR P W kind f t by_).2.2) with
 | false => rw [hc] at hs; cases hs
 | true =>
   rw [hc,cond_true] at hg
   have h1:=step_keep (good_gd h.g) (Bool.and_eq_true_iff.1 hc).1
   have h2:=h1.2 h.i
   exact ⟨hg,h2.2,h2.1.trans h.k,h1.1.trans h.t⟩
theorem All.play {s : Int} : ∀ (l : List Stp4) (P : List Prc) (W : List Wir) (D : List Bool), All P W s → All (playF l P W D).1 (playF l P W D).2.1 s
 | [],_,_,_,h => h
 | x::r,P,W,D,h => by
   simp only [playF]
   cases hc:(stepS P W x.1 x.2.1 x.2.2.1 x.2.2.2).2.2 with
   | false => exact All.play r P W _ h
   | true => exact All.play r _ _ _ (h.step hc)
theorem All.fin {s : Int} : ∀ (r : Nat) (P : List Prc) (W : List Wir) (m : Nat), All P W s → (finF r P W m).2.2.2 = true → All (finF r P W m).1 (finF r P W m).2.1 s ∧ picB (finF r P W m).1 (finF r P W m).2.1 = true
 | 0,P,W,m,hg,h => by
   simp only [finF,endF] at h ⊢
   cases hp:picB P W with
   | false => rw [hp] at h; cases h
   | true => exact ⟨hg,hp⟩
 | r+1,P,W,m,hg,h => by
   simp only [finF] at h ⊢
   split
   · rename_i he
     rw [if_pos he] at h
     simp only [endF] at h ⊢
     cases hp:picB P W with
     | false => rw [hp] at h; cases h
     | true => exact ⟨hg,hp⟩
   · rename_i he
     rw [if_neg he] at h
     cases hc:(stepS P W 2 ((W.findIdx fullB / P.length:Nat):Int) ((W.findIdx fullB % P.length:Nat):Int) 0).2.2 with
     | false => rw [hc] at h; cases h
     | true =>
       rw [hc,cond_true] at h
       exact All.fin r _ _ _ (hg.step hc) h
/-- Where all is done and shut, what is kept is what is saved and recorded. -/
theorem All.pic {P:List Prc} {W:List Wir} {s:Int} (h:All P W s) (hp:picB P W=true):savP P+recW W=s:=by
 rw [← h.k]
 unfold kept
 simp only [picB,Bool.and_eq_true,List.all_eq_true] at hp
 rw [sum_list (fun p:Prc => p.2.1) zP savP rfl (fun _ _ => rfl) P,sum_list (fun w:Wir => sumI w.2.1) zW recW rfl (fun _ _ => rfl) W]
 congr 1
 · refine sumN_congr fun i hi => ?_
   unfold pc dn
   rw [hp.1 _ (getD_mem zP hi),cond_true]
 · refine sumN_congr fun k hk => ?_
   have hn:=(good_inv h.g).1
   have hm:k % P.length<P.length:=Nat.mod_lt _ (by omega)
   have h2:=hp.2 _ (getD_mem zW hk)
   unfold wc dn
   rw [hp.1 _ (getD_mem zP hm)]
   have h3:(W.getD k zW).2.2=false:=by simpa using h2
   rw [h3]
   simp
theorem amt_new : ∀ l : List Int, amtP (newP l) = sumI l
 | [] => rfl
 | x::r => by
   have:=amt_new r
   simp only [newP,List.map_cons,amtP,sumI] at this ⊢
   rw [this]
theorem new_wire (n k:Nat):(newW n).getD k zW=zW:=by
 unfold newW
 rw [List.getD_eq_getElem?_getD]
 by_cases h:k<n * n
 · rw [List.getElem?_replicate_of_lt h]; rfl
 · rw [List.getElem?_eq_none (by simpa using h)]; rfl
theorem new_done (l:List Int) (i:Nat):dn (newP l) i=false:=by
 unfold dn newP
 rw [List.getD_eq_getElem?_getD,List.getElem?_map]
 cases l[i]? <;> rfl
theorem All.new {l:List Int} (hg:goodB (newP l) (newW l.length)=true):All (newP l) (newW l.length) (sumI l):=by
 have ht:total (newP l) (newW l.length)=sumI l:=by
  rw [← amt_new]
  unfold total
  rw [sum_list (fun p:Prc => p.1) zP amtP rfl (fun _ _ => rfl) (newP l)]
  have:sumN (fun k => sumI ((newW l.length).getD k zW).1) (newW l.length).length=0:=by
   have h0:∀ n,sumN (fun k => sumI ((newW l.length).getD k zW).1) n=0:=by
        intro n
        induction n with
        | zero => rfl
        | succ n ih => rw [sumN,ih,new_wire]; rfl
   exact h0 _
  rw [this,Int.add_zero]
 refine ⟨hg,⟨fun f t _ _ _ _ => ?_,fun f t _ _ _ h => ?_,fun f t _ _ _ h => ?_⟩, ?_,ht⟩
 · rw [new_wire]; simp
 · rw [new_done] at h; cases h
 · rw [new_done] at h; cases h
 · rw [← ht]
   unfold kept total
   congr 1
   · refine sumN_congr fun i _ => ?_
     unfold pc
     rw [new_done,cond_false]
   · refine sumN_congr fun k _ => ?_
     unfold wc
     rw [new_wire,new_done]
     rfl
theorem sameBools_rf (l:List Bool) (hl:l.length≤1073741824):xl11 l l=some true:=by
 have main:∀ i,i≤l.length→xl11.l4 l l (l.length:Int) (i:Int)=some true:=by
  refine upto ?_ ?_
  · refine xl11.eq4 _ _ _ _ ?_
    simp only [xl11.t4,ix_lt,Nat.lt_irrefl,decide_false,cond_false]
  · intro i hi ih
    refine xl11.eq4 _ _ _ _ ?_
    simp only [xl11.t4,ix_lt,ix_nn,ix_nat,dec_t hi,cond_true,beq_ref,bang_t,cond_false,wrap_succ (show i<9223372036854775807 by omega)]
    exact ih
 refine xl11.eq _ _ ?_
 simp only [xl11.t,bne_self_eq_false,cond_false]
 exact main 0 (Nat.zero_le _)
theorem drawPlay_ok {b:List Int} (hb:Byt b):∃ k l,xs0t b=some (k,l)∧k.length≤4∧l.length≤121:=by
 obtain ⟨k,a,s,e,h1,h2,g1,g2⟩:=amounts_ok hb (a:=0) 0 (by omega) (by omega)
 obtain ⟨l,a2,s2,e2,h3,_⟩:=snapSteps_ok hb (n:=k.length) ⟨by omega,by omega⟩ (a:=a) s (by omega) (by omega)
 exact ⟨k,l,xs0t.eq _ (by simp only [xs0t.t,e,e2,Option.bind_some]),h2,h3⟩
theorem All.tot {P:List Prc} {W:List Wir} {s:Int} (h:All P W s):totR P W=(s,true):=by
 unfold totR
 rw [h.g,cond_true,← total_eq,h.t]
theorem pictured_l12 {v:List Int} (hv:∀ x,x∈v→0≤x∧x≤2000000000) (hl:v.length≤1000) {P:List Prc} {W:List Wir} (h:All P W (sumI v)):∀ i,i≤v.length→∀ a:Int,0≤a→a≤i * 2000000000→a+sumI (v.drop i)=sumI v→xl0z.l12 v P W a (v.length:Int) (i:Int)=some true:=by
 have hI:=good_inv h.g
 have h1:=hI.1
 have h2:=hI.w16
 refine upto ?_ ?_
 · intro a _ _ he
   rw [List.drop_length,sumI,Int.add_zero] at he
   subst he
   refine xl0z.eq12 _ _ _ _ _ _ ?_
   have e2:=xi0y_eq (P:=P) (W:=W) (by omega) (by omega) hI.hl
   rw [h.g,Bool.true_and] at e2
   simp only [xl0z.t12,ix_lt,Nat.lt_irrefl,decide_false,cond_false,xi1c_eq hI.hl,h.tot,xi14_eq _ _ hI.hl,h.g,xi10_eq hI.hl,cond_true,Option.bind_some,bang_t,bne_ref,e2]
   have tail : ∀ (q : List Prc × List Wir × Int × Bool), (q.2.2.2 = true → All q.1 q.2.1 (sumI v) ∧ picB q.1 q.2.1 = true) → (bif !q.2.2.2 then some true else
        (xi10 q.1 q.2.1).bind fun (r12:Int × Bool) => (xi1c q.1 q.2.1).bind fun (r13:Int × Bool) => bif r12.snd then bif r12.fst == sumI v then bif r13.snd then some (r13.fst == sumI v) else some false else some false else some false)=some true:=fun q hq => by
    cases hc:q.2.2.2 with
    | false => rfl
    | true =>
      obtain ⟨ha,hp⟩:=hq hc
      have hl':=(good_inv ha.g).hl
      simp only [bang_t,cond_false,xi10_eq hl',xi1c_eq hl',ha.tot,ha.g,picR,hp,ha.pic hp,cond_true,Option.bind_some,beq_ref]
   have hfin:∀ (q:List Prc × List Wir × Int × Bool),q=(bif P.any (fun p => p.2.2) then finF 2000 P W 0 else ([],[],0,false))→(q.2.2.2=true→All q.1 q.2.1 (sumI v)∧picB q.1 q.2.1=true):=fun q hq hc => by
    subst hq
    cases ha:P.any (fun p => p.2.2) with
    | false => rw [ha] at hc; cases hc
    | true =>
      rw [ha,cond_true] at hc
      exact All.fin _ _ _ _ h hc
   have t1:=tail _ (hfin _ rfl)
   cases hp:picB P W with
   | false =>
     simp only [picR,hp,cond_false]
     exact t1
   | true =>
     simp only [picR,hp,cond_true,h.pic hp,bne_ref,cond_false]
     exact t1
 · intro i hi ih a ha hb he
   have hx:=hv _ (getD_mem 0 hi)
   rw [drop_getD 0 hi,sumI] at he
   refine xl0z.eq12 _ _ _ _ _ _ ?_
   simp only [xl0z.t12,ix_lt,ix_nn,ix_nat,dec_t hi,cond_true,wrap_succ (show i<9223372036854775807 by omega)]
   rw [wrap_id (by omega) (by omega)]
   exact ih _ (by omega) (by omega) (by omega)
theorem FnPictured_true (v0:List Int) (w0:WfT (.sl (.int .u8)) v0):xl0z v0=some true:=by
 refine xl0z.eq _ ?_
 by_cases hc:(v0.length:Int) > 1048576
 · simp only [xl0z.t,dec_t hc,cond_true]
 · have hb : Byt v0 := fun x hx => w0.2 x hx
   obtain ⟨k,l,e,hk,hl⟩:=drawPlay_ok hb
   have e1:=xi15_eq k l
   have e2:=xs19_eq k (by omega) l
   cases hok:(playS k l).2.2.2 with
   | false =>
     have hq:playS k l=([],[],[],false):=by
        unfold playS at *
        cases hc:(goodB (newP k) (newW k.length) && decide (l.length≤120)) with
        | false => rfl
        | true => rw [hc,cond_true,playF_true] at hok; cases hok
     have s1:=sameBools_rf [] (by simp)
     have s2:=sameSnaps_rf [] [] (by simp) (by simp) (fun w hw => by simp at hw)
     simp only [xl0z.t,dec_f hc,cond_false,e,e1,e2,hq,Option.bind_some,beq_ref,bang_t,s1,s2,bang_f,cond_true]
     rfl
   | true =>
     obtain ⟨g1,g2,g3⟩:=playS_good hok
     have hA:=All.play l _ _ [] (All.new g1)
     have hlen:=(playF_small l _ _ [] g1).2
     rw [← g3] at hA hlen
     have hI:=good_inv hA.g
     have h1:=hI.1
     have h2:=hI.w16
     have s1:=sameBools_rf (playS k l).2.2.1 (by rw [hlen]; simp; omega)
     have s2:=sameSnaps_rf (playS k l).1 (playS k l).2.1 (by omega) (by omega) hI.hl
     have hv:∀ x,x∈k→0≤x∧x≤2000000000:=fun x hx => by
        have h3:=(good_tot g1).2.2.1 (x,0,false) (List.mem_map.2 ⟨x,hx,rfl⟩)
        exact h3
     have h3:=pictured_l12 hv (by omega) hA 0 (Nat.zero_le _) 0 (by omega) (by omega) (by rw [List.drop_zero,Int.zero_add])
     simp only [xl0z.t,dec_f hc,cond_false,e,e1,e2,hok,Option.bind_some,beq_ref,bang_t,s1,s2]
     exact h3
end GoV

/- FnPictured: its core is the law. -/
