/- A part of the proof of FnExactConflictsOf: an interpreter of the model over plain data, its soundness, and what it makes of the functions that the statement reaches. Conditions: none beyond what the given statement itself says. -/
import Derived.Test.YtnelnnjegledcaaTL
set_option linter.unusedVariables false
set_option linter.unusedSimpArgs false
set_option linter.unnecessarySimpa false
set_option linter.unusedSectionVars false
/- Sets of small numbers, told by the bits of a number. -/
namespace GoV
open Go

theorem ofInt_nat (m:Nat):BitVec.ofInt 64 (m:Int)=BitVec.ofNat 64 m:=by
 apply BitVec.eq_of_toNat_eq
 simp [BitVec.toNat_ofInt]
theorem bits64:IntKind.i64.bits=64:=rfl
theorem or_lt {m n:Nat} (hm:m<4611686018427387904) (hn:n<4611686018427387904):m ||| n<4611686018427387904:=Nat.or_lt_two_pow (n:=62) hm hn
theorem and_lt {m n:Nat} (hm:m<4611686018427387904):m &&& n<4611686018427387904:=Nat.lt_of_le_of_lt Nat.and_le_left hm
theorem or_nat {m n : Nat} (hm : m < 4611686018427387904) (hn : n < 4611686018427387904) :
 IntKind.i64.wrap (((BitVec.ofInt IntKind.i64.bits (m:Int) ||| BitVec.ofInt IntKind.i64.bits (n:Int)).toNat:Nat):Int)=((m ||| n:Nat):Int):=by
 have h:=or_lt hm hn
 rw [bits64,ofInt_nat,ofInt_nat]
 rw [BitVec.toNat_or,BitVec.toNat_ofNat,BitVec.toNat_ofNat,Nat.mod_eq_of_lt (by omega),Nat.mod_eq_of_lt (by omega)]
 rw [wrap_id] <;> omega
theorem and_nat {m n : Nat} (hm : m < 4611686018427387904) (hn : n < 4611686018427387904) :
 IntKind.i64.wrap (((BitVec.ofInt IntKind.i64.bits (m:Int) &&& BitVec.ofInt IntKind.i64.bits (n:Int)).toNat:Nat):Int)=((m &&& n:Nat):Int):=by
 have h:=and_lt (n:=n) hm
 rw [bits64,ofInt_nat,ofInt_nat]
 rw [BitVec.toNat_and,BitVec.toNat_ofNat,BitVec.toNat_ofNat,Nat.mod_eq_of_lt (by omega),Nat.mod_eq_of_lt (by omega)]
 rw [wrap_id] <;> omega
theorem pow_lt {k:Nat} (h:k<62):2 ^ k<4611686018427387904:=by
 have:(2:Nat) ^ k≤2 ^ 61:=Nat.pow_le_pow_right (by omega) (by omega)
 omega
theorem one_shl {k:Nat} (h:k<62):IntKind.i64.wrap ((1:Int) * (2:Int) ^ Min.min k IntKind.i64.bits)=((2 ^ k:Nat):Int):=by
 have:=pow_lt h
 rw [bits64,Nat.min_eq_left (by omega),Int.one_mul]
 have e:(2:Int) ^ k=((2 ^ k:Nat):Int):=by simp
 rw [e]
 generalize (2:Nat) ^ k=z at this ⊢
 rw [wrap_id] <;> omega
theorem shr_nat (m k:Nat) (h:k≤64):((m:Int)).fdiv ((2:Int) ^ Min.min k IntKind.i64.bits)=((m >>> k:Nat):Int):=by
 rw [bits64,Nat.min_eq_left h,Nat.shiftRight_eq_div_pow]
 have e:(2:Int) ^ k=((2 ^ k:Nat):Int):=by simp
 rw [e,Int.fdiv_eq_ediv_of_nonneg _ (Int.natCast_nonneg _)]
 rfl
def bitsF (m i n:Nat):List Int:=((List.range' i n).filter fun k => m.testBit k).map fun (k:Nat) => (k:Int)
theorem bitsF_step (m i n:Nat):bitsF m i (n+1)=if m.testBit i then (i:Int)::bitsF m (i+1) n else bitsF m (i+1) n:=by
 simp only [bitsF,List.range'_succ,List.filter_cons]
 split <;> simp
theorem bitsF_none {m i n:Nat} (h:m >>> i=0):bitsF m i n=[]:=by
 have hz:∀ k,i≤k→m.testBit k=false:=by
  intro k hk
  have:(m >>> i).testBit (k - i)=m.testBit k:=by rw [Nat.testBit_shiftRight]; congr 1; omega
  rw [← this,h]
  simp
 simp only [bitsF,List.map_eq_nil_iff,List.filter_eq_nil_iff]
 intro k hk
 rw [List.mem_range'_1] at hk
 rw [hz k hk.1]
 simp
theorem bitsF_mem {m i n:Nat} {x:Int}:x∈bitsF m i n↔∃ k:Nat,x=(k:Int)∧i≤k∧k<i+n∧m.testBit k=true:=by
 simp only [bitsF,List.mem_map,List.mem_filter,List.mem_range'_1]
 constructor
 · rintro ⟨k, ⟨⟨h1, h2⟩, h3⟩, rfl⟩
   exact ⟨k,rfl,h1,h2,h3⟩
 · rintro ⟨k, rfl, h1, h2, h3⟩
   exact ⟨k,⟨⟨h1,h2⟩,h3⟩,rfl⟩
theorem bitsF_congr {m m' i n:Nat} (h:∀ k,i≤k→k<i+n→m.testBit k=m'.testBit k):bitsF m i n=bitsF m' i n:=by
 simp only [bitsF]
 congr 1
 refine List.filter_congr fun k hk => ?_
 rw [List.mem_range'_1] at hk
 exact h k hk.1 hk.2
theorem bitsF_len (m i n:Nat):(bitsF m i n).length≤n:=by
 simp only [bitsF,List.length_map]
 refine Nat.le_trans (List.length_filter_le _ _) ?_
 simp
def putS (n:Int) (l:List Int):List Int:=l.takeWhile (fun x => decide (x<n)) ++ [n] ++ l.dropWhile (fun x => decide (x<n))
theorem putS_bits : ∀ (n i m x : Nat), i ≤ x → x < i + n → m.testBit x = false → putS (x : Int) (bitsF m i n) = bitsF (m ||| 2 ^ x) i n
 | 0,i,m,x,h1,h2,_ => by omega
 | n+1,i,m,x,h1,h2,hb => by
   by_cases e:i=x
   · subst e
     have hab:∀ y,y∈bitsF m (i+1) n→¬ y<(i:Int):=by
       intro y hy
       obtain ⟨k,rfl,g1,_⟩:=bitsF_mem.1 hy
       omega
     have hl:bitsF m i (n+1)=bitsF m (i+1) n:=by rw [bitsF_step,if_neg (by simp [hb])]
     have hr:bitsF (m ||| 2 ^ i) i (n+1)=(i:Int)::bitsF m (i+1) n:=by
       rw [bitsF_step,if_pos (by simp [Nat.testBit_or])]
       congr 1
       refine bitsF_congr fun k hk _ => ?_
       rw [Nat.testBit_or,Nat.testBit_two_pow]
       have:¬ i=k:=by omega
       simp [this]
     rw [hl,hr]
     have ht:(bitsF m (i+1) n).takeWhile (fun y => decide (y<(i:Int)))=[]∧(bitsF m (i+1) n).dropWhile (fun y => decide (y<(i:Int)))=bitsF m (i+1) n:=by
       generalize bitsF m (i+1) n=l at hab
       cases l with
       | nil => exact ⟨rfl,rfl⟩
       | cons y l =>
         have:=hab y List.mem_cons_self
         simp only [List.takeWhile_cons,List.dropWhile_cons,dec_f this]
         exact ⟨rfl,rfl⟩
     simp only [putS,ht.1,ht.2]
     rfl
   · have ih := putS_bits n (i + 1) m x (by omega) (by omega) hb
     have hbi:(m ||| 2 ^ x).testBit i=m.testBit i:=by
       rw [Nat.testBit_or,Nat.testBit_two_pow]
       have:¬ x=i:=by omega
       simp [this]
     rw [bitsF_step,bitsF_step,hbi]
     split
     · rw [← ih]
       have:(i:Int)<(x:Int):=by omega
       simp only [putS,List.takeWhile_cons,List.dropWhile_cons,dec_t this]
       rfl
     · exact ih
theorem or_same {m x:Nat} (h:m.testBit x=true):m ||| 2 ^ x=m:=by
 apply Nat.eq_of_testBit_eq
 intro i
 rw [Nat.testBit_or,Nat.testBit_two_pow]
 by_cases e:x=i
 · subst e; simp [h]
 · simp [e]
end GoV
