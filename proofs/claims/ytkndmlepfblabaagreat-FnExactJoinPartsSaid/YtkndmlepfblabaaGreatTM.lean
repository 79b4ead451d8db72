/- A part of the proof of FnExactJoinParts: an interpreter of the model over plain data, its soundness, and what it makes of the functions that the statement reaches. Conditions: none beyond what the given statement itself says. -/
import Derived.Test.YtkndmlepfblabaaGreatTL
set_option linter.unusedVariables false
set_option linter.unusedSimpArgs false
set_option linter.unnecessarySimpa false
set_option linter.unusedSectionVars false
/- Rows: their order; tables: what is good. Plain Lean. -/
namespace GoV
open Go
abbrev WRow:=List Int × Int
def cmpL : List Int → List Int → Int
 | [],[] => 0
 | [],_::_ => -1
 | _::_,[] => 1
 | x::a,y::b => if x<y then -1 else if x > y then 1 else cmpL a b
theorem cmpL_cases : ∀ a b, cmpL a b = -1 ∨ cmpL a b = 0 ∨ cmpL a b = 1
 | [],[] => .inr (.inl rfl)
 | [],_::_ => .inl rfl
 | _::_,[] => .inr (.inr rfl)
 | x::a,y::b => by
   simp only [cmpL]
   split
   · exact .inl rfl
   · split
     · exact .inr (.inr rfl)
     · exact cmpL_cases a b
theorem cmpL_refl : ∀ a, cmpL a a = 0
 | [] => rfl
 | x::a => by simp [cmpL,cmpL_refl a]
theorem cmpL_eq : ∀ {a b}, cmpL a b = 0 → a = b
 | [],[],_ => rfl
 | [],_::_,h => by simp [cmpL] at h
 | _::_,[],h => by simp [cmpL] at h
 | x::a,y::b,h => by
   simp only [cmpL] at h
   split at h
   · omega
   · split at h
     · omega
     · rw [cmpL_eq h,show x=y by omega]
theorem cmpL_zero {a b:List Int}:cmpL a b=0↔a=b:=⟨cmpL_eq,fun h => by rw [h]; exact cmpL_refl b⟩
theorem cmpL_swap : ∀ a b, cmpL b a = -cmpL a b
 | [],[] => rfl
 | [],_::_ => rfl
 | _::_,[] => rfl
 | x::a,y::b => by
   simp only [cmpL]
   by_cases h1:x<y
   · have : ¬ y < x := by omega
     have:y > x:=by omega
     simp [*]
   · by_cases h2 : x > y
     · have : y < x := by omega
       simp [*]
     · have : ¬ y < x := by omega
       have:¬ y > x:=by omega
       simp [*,cmpL_swap a b]
def ltR (a b:List Int):Prop:=cmpL a b<0
theorem ltR_irrefl (a:List Int):¬ ltR a a:=by simp [ltR,cmpL_refl]
theorem ltR_trans : ∀ {a b c}, ltR a b → ltR b c → ltR a c
 | [],[],c,h,_ => by simp [ltR,cmpL] at h
 | [],_::_,[],_,h => by simp [ltR,cmpL] at h
 | [],_::_,_::_,_,_ => by simp [ltR,cmpL]
 | _::_,[],c,h,_ => by simp [ltR,cmpL] at h
 | _::_,_::_,[],_,h => by simp [ltR,cmpL] at h
 | x::a,y::b,z::c,h1,h2 => by
   simp only [ltR,cmpL] at h1 h2 ⊢
   split at h1
   · split at h2
     · rw [if_pos (by omega)]; omega
     · split at h2
       · omega
       · rw [if_pos (by omega)]; omega
   · split at h1
     · omega
     · split at h2
       · rw [if_pos (by omega)]; omega
       · split at h2
         · omega
         · rw [if_neg (by omega), if_neg (by omega)]
           exact ltR_trans (a:=a) (b:=b) (c:=c) h1 h2
theorem ltR_total (a b:List Int):ltR a b∨a=b∨ltR b a:=by
 rcases cmpL_cases a b with h | h | h
 · exact .inl (by simp [ltR,h])
 · exact .inr (.inl (cmpL_eq h))
 · exact .inr (.inr (by simp [ltR,cmpL_swap a b,h]))
theorem ltR_asymm {a b:List Int} (h:ltR a b):¬ ltR b a:=fun h2 => ltR_irrefl a (ltR_trans h h2)
/-! ## Good rows, good tables -/
def goodR (r:List Int):Bool:=r.all (inB (-100000) 100000) && decide (r.length≤6)
def goodW (n:Int):Bool:=inB (-1000000) 1000000 n && decide (n≠0)
def sortedW (l:List WRow):Prop:=l.Pairwise fun a b => ltR a.1 b.1
def rowB (c:Int) (w:WRow):Bool:=goodR w.1 && (decide ((w.1.length:Int)=c) && goodW w.2)
def tabB (c:Int) (l:List WRow) (i:Nat):Bool:=rowB c (l.getD i ([],0)) && (decide (i=0) || decide (cmpL (l.getD (i - 1) ([],0)).1 (l.getD i ([],0)).1<0))
def goodT (c:Int) (l:List WRow):Bool:=allR (tabB c l) 0 l.length && (inB 0 6 c && decide (l.length≤60))
theorem chain_pairwise {α : Type} {R : α → α → Prop} (ht : ∀ {a b c}, R a b → R b c → R a c) (z : α) : ∀ {l : List α}, (∀ i, 0 < i → i < l.length → R (l.getD (i - 1) z) (l.getD i z)) → l.Pairwise R
 | [],_ => .nil
 | x::l,h => by
   have ih:l.Pairwise R:=chain_pairwise (R:=R) (l:=l) ht z (fun i h1 h2 => by
     have:=h (i+1) (by omega) (by simp only [List.length_cons]; omega)
     obtain ⟨k,rfl⟩:∃ k,i=k+1:=⟨i - 1,by omega⟩
     simpa using this)
   refine .cons (fun y hy => ?_) ih
   cases l with
   | nil => cases hy
   | cons y0 l =>
     have h0:R x y0:=by simpa using h 1 (by omega) (by simp)
     rcases List.mem_cons.1 hy with rfl | hy
     · exact h0
     · exact ht h0 (List.rel_of_pairwise_cons ih hy)
theorem pairwise_chain {α:Type} {R:α→α→Prop} (z:α) {l:List α} (h:l.Pairwise R) {i:Nat} (h1:0<i) (h2:i<l.length):R (l.getD (i - 1) z) (l.getD i z):=by
 rw [getD_of_lt h2,getD_of_lt (by omega:i - 1<l.length)]
 exact List.pairwise_iff_getElem.1 h _ _ (by omega) h2 (by omega)
theorem goodT_iff {c:Int} {l:List WRow}:goodT c l=true↔(0≤c∧c≤6)∧l.length≤60∧(∀ w,w∈l→rowB c w=true)∧sortedW l:=by
 simp only [goodT,Bool.and_eq_true,allR_iff,tabB,decide_eq_true_eq,inB_iff,Bool.or_eq_true]
 constructor
 · rintro ⟨h1, h2, h3⟩
   refine ⟨h2,h3,fun w hw => ?_, ?_⟩
   · obtain ⟨i, hi, rfl⟩ := List.mem_iff_getElem.1 hw
     have:=(h1 i (Nat.zero_le _) hi).1
     rwa [getD_of_lt hi] at this
   · refine chain_pairwise (R := fun a b : WRow => ltR a.1 b.1) (fun h h' => ltR_trans h h') ([], 0) fun i h4 h5 => ?_
     rcases (h1 i (Nat.zero_le _) h5).2 with h6 | h6
     · omega
     · exact h6
 · rintro ⟨h1, h2, h3, h4⟩
   refine ⟨fun k _ hk => ⟨h3 _ (getD_mem _ hk), ?_⟩,h1,h2⟩
   by_cases h5:k=0
   · exact .inl h5
   · exact .inr (pairwise_chain ([],0) h4 (by omega) hk)
theorem rowB_iff {c:Int} {w:WRow}:rowB c w=true↔goodR w.1=true∧(w.1.length:Int)=c∧(-1000000≤w.2∧w.2≤1000000)∧w.2≠0:=by
 simp only [rowB,goodW,Bool.and_eq_true,decide_eq_true_eq,inB_iff]
theorem goodR_len {r:List Int} (h:goodR r=true):r.length≤6:=by
 simp only [goodR,Bool.and_eq_true,decide_eq_true_eq] at h
 exact h.2
theorem goodT_size {c:Int} {l:List WRow} (h:goodT c l=true):szT (.sl (.pair (.sl (.int .i64)) (.int .i64))) l≤1000:=by
 rw [goodT_iff] at h
 obtain ⟨_,h2,h3,_⟩:=h
 have key:∀ l:List WRow,(∀ w,w∈l→rowB c w=true)→szT (.sl (.pair (.sl (.int .i64)) (.int .i64))) l≤7 * l.length:=by
  intro l
  induction l with
  | nil => intro _; simp [szT]
  | cons w r ih =>
    intro h
    have h1:=ih fun x hx => h x (List.mem_cons_of_mem _ hx)
    have h2:=goodR_len (rowB_iff.1 (h w List.mem_cons_self)).1
    have h3:=szT_sl_flat (t:=.int .i64) w.1 rfl
    simp only [szT,List.length_cons,List.map_cons,List.sum_cons] at h1 h3 ⊢
    omega
 have:=key l h3
 omega

/-! ## Tables with other weights -/
theorem tab_len {c:Int} {l:List WRow} {n:Nat} (h:szT (.pair (.int .i64) (.sl (.pair (.sl (.int .i64)) (.int .i64)))) (c,l)≤n):l.length≤n∧∀ w,w∈l→w.1.length≤n:=by
 have h1:=szT_len (t:=.pair (.sl (.int .i64)) (.int .i64)) (l:=l)
 refine ⟨by simp only [szT] at h h1; omega,fun w hw => ?_⟩
 have h2:=szT_mem (t:=.pair (.sl (.int .i64)) (.int .i64)) hw
 simp only [szT] at h h2
 omega
end GoV
