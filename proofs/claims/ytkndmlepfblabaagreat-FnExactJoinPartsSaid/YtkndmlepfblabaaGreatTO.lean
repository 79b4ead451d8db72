/- A part of the proof of FnExactJoinParts: an interpreter of the model over plain data, its soundness, and what it makes of the functions that the statement reaches. Conditions: none beyond what the given statement itself says. -/
import Derived.Test.YtkndmlepfblabaaGreatTN
set_option linter.unusedVariables false
set_option linter.unusedSimpArgs false
set_option linter.unnecessarySimpa false
set_option linter.unusedSectionVars false
/- Sorting in place, in plain Lean: swaps, ranges swapped, rotation, merging. -/
namespace GoV
open Go
section
variable {α:Type} {z:α}
theorem at_set {d:List α} {i j:Nat} {x:α} (h:i<d.length):(d.set i x).getD j z=if i=j then x else d.getD j z:=by
 simp only [List.getD_eq_getElem?_getD,List.getElem?_set]
 by_cases e:i=j
 · subst e; simp [h]
 · simp [e]
def swapL (z:α) (d:List α) (i j:Nat):List α:=(d.set i (d.getD j z)).set j (d.getD i z)
theorem swapL_len (d:List α) (i j:Nat):(swapL z d i j).length=d.length:=by simp [swapL]
theorem swapL_at {d:List α} {i j k:Nat} (hi:i<d.length) (hj:j<d.length):(swapL z d i j).getD k z=if k=j then d.getD i z else if k=i then d.getD j z else d.getD k z:=by
 rw [swapL,at_set (by simpa using hj)]
 by_cases e:j=k
 · subst e; simp
 · rw [if_neg e, if_neg (fun h => e h.symm), at_set hi]
   by_cases e2:i=k
   · subst e2; simp
   · rw [if_neg e2,if_neg (fun h => e2 h.symm)]
theorem swapL_perm {d:List α} {i j:Nat} (hi:i<d.length) (hj:j<d.length):(swapL z d i j).Perm d:=by
 rw [swapL,getD_of_lt hi,getD_of_lt hj]
 exact List.set_set_perm hi hj
structure Mv (z : α) (d d' : List α) (a b : Nat) : Prop where
 len:d'.length=d.length
 perm:d'.Perm d
 out:∀ k,k<a∨b≤k→d'.getD k z=d.getD k z
 from':∀ k,a≤k→k<b→∃ j,a≤j∧j<b∧d'.getD k z=d.getD j z
theorem Mv.refl (d:List α) (a b:Nat):Mv z d d a b:=⟨rfl,.refl _,fun _ _ => rfl,fun k h1 h2 => ⟨k,h1,h2,rfl⟩⟩
theorem Mv.trans {d d' d2:List α} {a b:Nat} (h:Mv z d d' a b) (h':Mv z d' d2 a b):Mv z d d2 a b :=
 ⟨h'.len.trans h.len,h'.perm.trans h.perm,fun k hk => (h'.out k hk).trans (h.out k hk),fun k h1 h2 => by
  obtain ⟨j,g1,g2,g3⟩:=h'.from' k h1 h2
  obtain ⟨i,k1,k2,k3⟩:=h.from' j g1 g2
  exact ⟨i,k1,k2,g3.trans k3⟩⟩
theorem Mv.mono {d d':List α} {a b a' b':Nat} (h:Mv z d d' a b) (ha:a'≤a) (hb:b≤b'):Mv z d d' a' b' :=
 ⟨h.len,h.perm,fun k hk => h.out k (by omega),fun k h1 h2 => by
  by_cases e:a≤k∧k<b
  · obtain ⟨j, g1, g2, g3⟩ := h.from' k e.1 e.2
    exact ⟨j,by omega,by omega,g3⟩
  · exact ⟨k,h1,h2,h.out k (by omega)⟩⟩
theorem Mv.swap {d:List α} {i j a b:Nat} (hi:i<d.length) (hj:j<d.length) (h1:a≤i) (h2:i<b) (h3:a≤j) (h4:j<b):Mv z d (swapL z d i j) a b :=
 ⟨swapL_len d i j,swapL_perm hi hj,fun k hk => by rw [swapL_at hi hj,if_neg (by omega),if_neg (by omega)],fun k g1 g2 => by
  rw [swapL_at hi hj]
  by_cases e:k=j
  · exact ⟨i,h1,h2,by rw [if_pos e]⟩
  · by_cases e2 : k = i
    · exact ⟨j,h3,h4,by rw [if_neg e,if_pos e2]⟩
    · exact ⟨k,g1,g2,by rw [if_neg e,if_neg e2]⟩⟩
/-! ## Ranges swapped -/
def swapR (z : α) : Nat → List α → Nat → Nat → List α
 | 0,d,_,_ => d
 | n+1,d,a,b => swapR z n (swapL z d a b) (a+1) (b+1)
theorem swapR_ok : ∀ (n : Nat) (d : List α) (a b : Nat), a + n ≤ b → b + n ≤ d.length → (swapR z n d a b).length = d.length ∧ Mv z d (swapR z n d a b) a (b + n) ∧
 ∀ k,(swapR z n d a b).getD k z=if a≤k∧k<a+n then d.getD (k - a+b) z else if b≤k∧k<b+n then d.getD (k - b+a) z else d.getD k z
 | 0,d,a,b,_,_ => ⟨rfl,Mv.refl d _ _,fun k => by rw [if_neg (by omega),if_neg (by omega)]; rfl⟩
 | n+1,d,a,b,h1,h2 => by
   have ha:a<d.length:=by omega
   have hb:b<d.length:=by omega
   obtain ⟨i1,i2,i3⟩:=swapR_ok n (swapL z d a b) (a+1) (b+1) (by omega) (by rw [swapL_len]; omega)
   rw [swapL_len] at i1
   refine ⟨i1,(Mv.swap (a:=a) (b:=b+(n+1)) ha hb (by omega) (by omega) (by omega) (by omega)).trans (i2.mono (by omega) (by omega)),fun k => ?_⟩
   show (swapR z n (swapL z d a b) (a+1) (b+1)).getD k z=_
   rw [i3]
   simp only [swapL_at ha hb]
   by_cases c1:a≤k∧k<a+(n+1)
   · rw [if_pos c1]
     by_cases c2:k=a
     · subst c2
       rw [if_neg (by omega),if_neg (by omega),if_neg (by omega),if_pos rfl]
       congr 1; omega
     · rw [if_pos (by omega), if_neg (by omega), if_neg (by omega)]
       congr 1; omega
   · rw [if_neg c1]
     by_cases c2:b≤k∧k<b+(n+1)
     · rw [if_pos c2]
       by_cases c3:k=b
       · subst c3
         rw [if_neg (by omega),if_neg (by omega),if_pos rfl]
         congr 1; omega
       · rw [if_neg (by omega), if_pos (by omega), if_neg (by omega), if_neg (by omega)]
         congr 1; omega
     · rw [if_neg c2,if_neg (by omega),if_neg (by omega),if_neg (by omega),if_neg (by omega)]
/-! ## Rotation -/
def RotF (f f':Nat→α) (p m q:Nat):Prop:=∀ k,f' k=if p≤k∧k<p+(q - m) then f (k+(m - p)) else if p+(q - m)≤k∧k<q then f (k - (q - m)) else f k
theorem rot_left {f f1 f' : Nat → α} {m i j : Nat} (hi : i ≤ m) (hij : j < i) (hj : 0 < j)
 (h1:∀ k,f1 k=if m - i≤k∧k<m - i+j then f (k - (m - i)+m) else if m≤k∧k<m+j then f (k - m+(m - i)) else f k)
 (h2:RotF f1 f' (m - (i - j)) m (m+j)):RotF f f' (m - i) m (m+j):=by
 intro k
 rw [h2 k]
 simp only [h1]
 by_cases c1:m - i≤k∧k<m - i+j
 · rw [if_neg (by omega), if_neg (by omega), if_pos c1, if_pos (by omega)]
   congr 1; omega
 · by_cases c2 : m - i + j ≤ k ∧ k < m + j
   · by_cases c3 : k < m - (i - j) + j
     · rw [if_pos (by omega), if_neg (by omega), if_pos (by omega), if_neg (by omega), if_pos (by omega)]
       congr 1; omega
     · rw [if_neg (by omega),if_pos (by omega),if_neg (by omega),if_neg (by omega),if_neg (by omega),if_pos (by omega)]
   · rw [if_neg (by omega),if_neg (by omega),if_neg (by omega),if_neg (by omega),if_neg (by omega),if_neg (by omega)]
theorem rot_right {f f1 f' : Nat → α} {m i j : Nat} (hi : i ≤ m) (hij : i < j) (hj : 0 < i)
 (h1:∀ k,f1 k=if m - i≤k∧k<m - i+i then f (k - (m - i)+(m+j - i)) else if m+j - i≤k∧k<m+j - i+i then f (k - (m+j - i)+(m - i)) else f k)
 (h2:RotF f1 f' (m - i) m (m+(j - i))):RotF f f' (m - i) m (m+j):=by
 intro k
 rw [h2 k]
 simp only [h1]
 by_cases c1:m - i≤k∧k<m - i+(j - i)
 · by_cases c3 : k + (m - (m - i)) < m + j - i
   · rw [if_pos (by omega),if_neg (by omega),if_neg (by omega),if_pos (by omega)]
   · omega
 · by_cases c2 : m - i + (j - i) ≤ k ∧ k < m + (j - i)
   · rw [if_neg (by omega), if_pos (by omega), if_pos (by omega), if_pos (by omega)]
     congr 1; omega
   · by_cases c4 : m + (j - i) ≤ k ∧ k < m + j
     · rw [if_neg (by omega), if_neg (by omega), if_neg (by omega), if_pos (by omega), if_neg (by omega), if_pos (by omega)]
       congr 1; omega
     · rw [if_neg (by omega),if_neg (by omega),if_neg (by omega),if_neg (by omega),if_neg (by omega),if_neg (by omega)]
theorem rot_last {f f1:Nat→α} {m i:Nat} (hi:i≤m) (h1:∀ k,f1 k=if m - i≤k∧k<m - i+i then f (k - (m - i)+m) else if m≤k∧k<m+i then f (k - m+(m - i)) else f k):RotF f f1 (m - i) m (m+i):=by
 intro k
 rw [h1]
 by_cases c1:m - i≤k∧k<m - i+i
 · rw [if_pos c1,if_pos (by omega)]; congr 1; omega
 · by_cases c2 : m ≤ k ∧ k < m + i
   · rw [if_neg c1,if_pos c2,if_neg (by omega),if_pos (by omega)]; congr 1; omega
   · rw [if_neg c1,if_neg c2,if_neg (by omega),if_neg (by omega)]
/-! ## Sorted stretches -/
def SortS (z:α) (lt:α→α→Bool) (d:List α) (a b:Nat):Prop:=∀ i j,a≤i→i<j→j<b→lt (d.getD j z) (d.getD i z)=false
structure Ord (lt : α → α → Bool) : Prop where
 irr:∀ x,lt x x=false
 tr:∀ x y w,lt y x=false→lt w y=false→lt w x=false
theorem SortS.sub {lt:α→α→Bool} {d:List α} {a b a' b':Nat} (h:SortS z lt d a b) (ha:a≤a') (hb:b'≤b):SortS z lt d a' b':=fun i j h1 h2 h3 => h i j (by omega) h2 (by omega)
theorem SortS.le {lt:α→α→Bool} (ho:Ord lt) {d:List α} {a b i j:Nat} (h:SortS z lt d a b) (h1:a≤i) (h2:i≤j) (h3:j<b):lt (d.getD j z) (d.getD i z)=false:=by
 by_cases e:i=j
 · subst e; exact ho.irr _
 · exact h i j h1 (by omega) h3
theorem SortS.congr {lt:α→α→Bool} {d d':List α} {a b:Nat} (h:SortS z lt d a b) (he:∀ k,a≤k→k<b→d'.getD k z=d.getD k z):SortS z lt d' a b:=fun i j h1 h2 h3 => by rw [he i h1 (by omega),he j (by omega) h3]; exact h i j h1 h2 h3
theorem SortS.join {lt:α→α→Bool} {d:List α} {a m b:Nat} (h1:SortS z lt d a m) (h2:SortS z lt d m b) (h3:∀ i j,a≤i→i<m→m≤j→j<b→lt (d.getD j z) (d.getD i z)=false):SortS z lt d a b:=by
 intro i j g1 g2 g3
 by_cases e1:j<m
 · exact h1 i j g1 g2 e1
 · by_cases e2 : m ≤ i
   · exact h2 i j e2 g2 g3
   · exact h3 i j g1 (by omega) (by omega) g3

theorem SortS.one {lt:α→α→Bool} {d:List α} {a b:Nat} (h:b≤a+1):SortS z lt d a b:=fun i j h1 h2 h3 => by omega
/-! ## Insertion -/
structure InsK (z : α) (lt : α → α → Bool) (d : List α) (a i j : Nat) : Prop where
 lo:SortS z lt d a j
 hi:SortS z lt d j (i+1)
 ac:∀ p q,a≤p→p<j→j<q→q≤i→lt (d.getD q z) (d.getD p z)=false
theorem InsK.start {lt:α→α→Bool} {d:List α} {a i:Nat} (h:SortS z lt d a i):InsK z lt d a i i:=⟨h,.one (by omega),fun p q h1 h2 h3 h4 => by omega⟩
theorem InsK.zero {lt:α→α→Bool} {d:List α} {a i:Nat} (h:InsK z lt d a i a):SortS z lt d a (i+1):=h.hi
theorem InsK.stop {lt:α→α→Bool} (ho:Ord lt) {d:List α} {a i j:Nat} (h:InsK z lt d a i j) (hj:a<j) (hji:j≤i) (hl:lt (d.getD j z) (d.getD (j - 1) z)=false):SortS z lt d a (i+1):=by
 refine SortS.join h.lo h.hi fun p q h1 h2 h3 h4 => ?_
 by_cases e:q=j
 · subst e
   exact ho.tr _ _ _ (h.lo.le ho h1 (show p≤q - 1 by omega) (by omega)) hl
 · exact h.ac p q h1 h2 (by omega) (by omega)
theorem InsK.step {lt : α → α → Bool} (has : ∀ x y, lt x y = true → lt y x = false) {d : List α} {a i j : Nat} (h : InsK z lt d a i j) (hj : a < j) (hji : j ≤ i) (hd : i < d.length) (hl : lt (d.getD j z) (d.getD (j - 1) z) = true) :
 InsK z lt (swapL z d j (j - 1)) a i (j - 1):=by
 have hat:=fun k => swapL_at (z:=z) (d:=d) (i:=j) (j:=j - 1) (k:=k) (by omega) (by omega)
 refine ⟨(h.lo.sub (Nat.le_refl _) (by omega)).congr fun k h1 h2 => by rw [hat,if_neg (by omega),if_neg (by omega)],fun p q h1 h2 h3 => ?_,fun p q h1 h2 h3 h4 => ?_⟩
 · rw [hat, hat]
   by_cases e1:p=j - 1
   · rw [if_neg (by omega : ¬ q = j - 1), if_pos e1]
     by_cases e2:q=j
     · rw [if_pos e2]; exact has _ _ hl
     · rw [if_neg e2]; exact h.hi j q (Nat.le_refl _) (by omega) (by omega)
   · rw [if_neg (by omega : ¬ q = j - 1), if_neg e1, if_neg (by omega : ¬ q = j)]
     by_cases e2:p=j
     · rw [if_pos e2]; exact h.ac (j - 1) q (by omega) (by omega) (by omega) (by omega)
     · rw [if_neg e2]; exact h.hi p q (by omega) h2 h3
 · rw [hat, hat, if_neg (by omega : ¬ q = j - 1), if_neg (by omega : ¬ p = j - 1), if_neg (by omega : ¬ p = j)]
   by_cases e2:q=j
   · rw [if_pos e2]; exact h.lo p (j - 1) h1 (by omega) (by omega)
   · rw [if_neg e2]; exact h.ac p q h1 (by omega) (by omega) h4
/-! ## Merging -/
theorem sort_up {lt : α → α → Bool} (has : ∀ x y, lt x y = true → lt y x = false) {d d' : List α} {a b i : Nat} (hs : SortS z lt d (a + 1) b) (h1 : a < i) (h2 : i ≤ b) (hlo : ∀ k, a < k → k < i → lt (d.getD k z) (d.getD a z) = true) (hhi : ∀ k, i ≤ k → k < b → lt (d.getD k z) (d.getD a z) = false)
 (hd:∀ k,d'.getD k z=if a≤k∧k<i - 1 then d.getD (k+1) z else if k=i - 1 then d.getD a z else d.getD k z):SortS z lt d' a b:=by
 intro p q g1 g2 g3
 rw [hd,hd]
 by_cases c1:q<i - 1
 · rw [if_pos ⟨by omega, c1⟩, if_pos ⟨g1, by omega⟩]
   exact hs _ _ (by omega) (by omega) (by omega)
 · rw [if_neg (by omega : ¬ (a ≤ q ∧ q < i - 1))]
   by_cases c2:q=i - 1
   · rw [if_pos c2, if_pos ⟨g1, by omega⟩]
     exact has _ _ (hlo _ (by omega) (by omega))
   · rw [if_neg c2]
     by_cases c3:p<i - 1
     · rw [if_pos ⟨g1, c3⟩]
       exact hs _ _ (by omega) (by omega) g3
     · rw [if_neg (by omega : ¬ (a ≤ p ∧ p < i - 1))]
       by_cases c4:p=i - 1
       · rw [if_pos c4]; exact hhi q (by omega) g3
       · rw [if_neg c4]; exact hs _ _ (by omega) g2 g3
theorem sort_down {lt : α → α → Bool} (has : ∀ x y, lt x y = true → lt y x = false) {d d' : List α} {a m i : Nat} (hs : SortS z lt d a m) (h1 : a ≤ i) (h2 : i ≤ m) (hlo : ∀ k, a ≤ k → k < i → lt (d.getD m z) (d.getD k z) = false) (hhi : ∀ k, i ≤ k → k < m → lt (d.getD m z) (d.getD k z) = true)
 (hd:∀ k,d'.getD k z=if k=i then d.getD m z else if i<k∧k≤m then d.getD (k - 1) z else d.getD k z):SortS z lt d' a (m+1):=by
 intro p q g1 g2 g3
 rw [hd,hd]
 by_cases c1:q=i
 · rw [if_pos c1, if_neg (by omega : ¬ p = i), if_neg (by omega : ¬ (i < p ∧ p ≤ m))]
   exact hlo p g1 (by omega)
 · rw [if_neg c1]
   by_cases c2:i<q
   · rw [if_pos ⟨c2, by omega⟩]
     by_cases c3:p=i
     · rw [if_pos c3]; exact has _ _ (hhi _ (by omega) (by omega))
     · rw [if_neg c3]
       by_cases c4:i<p
       · rw [if_pos ⟨c4,by omega⟩]; exact hs _ _ (by omega) (by omega) (by omega)
       · rw [if_neg (by omega : ¬ (i < p ∧ p ≤ m))]
         by_cases c5:p=q - 1
         · omega
         · exact hs _ _ g1 (by omega) (by omega)
   · rw [if_neg (by omega : ¬ (i < q ∧ q ≤ m)), if_neg (by omega : ¬ p = i), if_neg (by omega : ¬ (i < p ∧ p ≤ m))]
     exact hs _ _ g1 g2 (by omega)
theorem sym_halves {lt : α → α → Bool} (ho : Ord lt) (has : ∀ x y, lt x y = true → lt y x = false) {d e : List α} {a m b mid s t r0 s0 : Nat} (hmid : mid = (a + b) / 2) (ham : a < m) (hmb : m < b)
 (h1:SortS z lt d a m) (h2:SortS z lt d m b) (hs0:s0=if m > mid then mid+m - b else a) (hr0:r0=if m > mid then mid else m) (hs:s0≤s) (hr:s≤r0) (ht:t=mid+m - s)
 (hgood:∀ c,s0≤c→c<s→lt (d.getD (mid+m - 1 - c) z) (d.getD c z)=false) (hbad:∀ c,s≤c→c<r0→lt (d.getD (mid+m - 1 - c) z) (d.getD c z)=true)
 (he:RotF (fun k => d.getD k z) (fun k => e.getD k z) s m t) :
 (a≤s∧s≤m∧m≤t∧t≤b∧s≤mid∧mid≤t)∧SortS z lt e a s∧SortS z lt e s mid∧SortS z lt e mid t∧SortS z lt e t b∧∀ i j,a≤i→i<mid→mid≤j→j<b→lt (e.getD j z) (e.getD i z)=false:=by
 have hb:a≤s∧s≤m∧m≤t∧t≤b∧s≤mid∧mid≤t:=by
  split at hs0 <;> split at hr0 <;> omega
 obtain ⟨b1,b2,b3,b4,b5,b6⟩:=hb
 have hmt:s+(t - m)=mid:=by omega
 have at1:∀ k,a≤k→k<s→e.getD k z=d.getD k z:=fun k _ h => by
  have:=he k
  simp only at this
  rw [this,if_neg (by omega),if_neg (by omega)]
 have at2:∀ k,s≤k→k<mid→e.getD k z=d.getD (k+(m - s)) z:=fun k g h => by
  have:=he k
  simp only at this
  rw [this,if_pos (by omega)]
 have at3:∀ k,mid≤k→k<t→e.getD k z=d.getD (k - (t - m)) z:=fun k g h => by
  have:=he k
  simp only at this
  rw [this,if_neg (by omega),if_pos (by omega)]
 have at4:∀ k,t≤k→e.getD k z=d.getD k z:=fun k g => by
  have:=he k
  simp only at this
  rw [this,if_neg (by omega),if_neg (by omega)]
 refine ⟨⟨b1,b2,b3,b4,b5,b6⟩,(h1.sub (Nat.le_refl _) b2).congr at1,fun i j g1 g2 g3 => ?_,fun i j g1 g2 g3 => ?_,(h2.sub b3 (Nat.le_refl _)).congr fun k g _ => at4 k g,fun i j g1 g2 g3 g4 => ?_⟩
 · rw [at2 i g1 (by omega), at2 j (by omega) g3]
   exact h2 _ _ (by omega) (by omega) (by omega)
 · rw [at3 i g1 (by omega), at3 j (by omega) g3]
   exact h1 _ _ (by omega) (by omega) (by omega)
 · by_cases c1 : i < s
   · rw [at1 i g1 c1]
     by_cases c2:j<t
     · rw [at3 j g3 c2]
       exact h1 _ _ (by omega) (by omega) (by omega)
     · rw [at4 j (by omega)]
       -- through the last one that stays and the first one behind
       have hs':s0<s:=by
         split at hs0
         · by_cases hh : s0 < s
           · exact hh
           · omega
         · omega
       have hg:=hgood (s - 1) (by omega) (by omega)
       have ht':mid+m - 1 - (s - 1)=t:=by omega
       rw [ht'] at hg
       exact ho.tr _ _ _ (ho.tr _ _ _ (h1.le ho g1 (show i≤s - 1 by omega) (by omega)) hg) (h2.le ho b3 (show t≤j by omega) g4)
   · rw [at2 i (by omega) g2]
     by_cases c2:j<t
     · rw [at3 j g3 c2]
       have hr':s<r0:=by
         split at hr0 <;> omega
       have hg:=hbad s (Nat.le_refl _) hr'
       have ht':mid+m - 1 - s=t - 1:=by omega
       rw [ht'] at hg
       exact ho.tr _ _ _ (ho.tr _ _ _ (h2.le ho (show m≤i+(m - s) by omega) (show i+(m - s)≤t - 1 by omega) (by omega)) (has _ _ hg)) (h1.le ho b1 (show s≤j - (t - m) by omega) (by omega))
     · rw [at4 j (by omega)]
       exact h2 _ _ (by omega) (by omega) g4
theorem sym_join {lt : α → α → Bool} {e e' : List α} {a mid b : Nat} (h : Mv z e e' a b) (hl : ∀ k, a ≤ k → k < mid → ∃ j, a ≤ j ∧ j < mid ∧ e'.getD k z = e.getD j z) (hr : ∀ k, mid ≤ k → k < b → ∃ j, mid ≤ j ∧ j < b ∧ e'.getD k z = e.getD j z)
 (h1:SortS z lt e' a mid) (h2:SortS z lt e' mid b) (h3:∀ i j,a≤i→i<mid→mid≤j→j<b→lt (e.getD j z) (e.getD i z)=false):SortS z lt e' a b:=by
 refine SortS.join h1 h2 fun i j g1 g2 g3 g4 => ?_
 obtain ⟨i',k1,k2,k3⟩:=hl i g1 g2
 obtain ⟨j',k4,k5,k6⟩:=hr j g3 g4
 rw [k3,k6]
 exact h3 i' j' k1 k2 k4 k5
end
end GoV

/- Tables as sums of weights: rows put in one by one, and rows sorted and added up, give the same. Plain Lean. -/
namespace GoV
open Go
def wsum : List WRow → List Int → Int
 | [],_ => 0
 | w::l,r => (if w.1=r then w.2 else 0)+wsum l r
theorem wsum_append (a b:List WRow) (r:List Int):wsum (a ++ b) r=wsum a r+wsum b r:=by
 induction a with
 | nil => simp [wsum]
 | cons w a ih => simp only [List.cons_append,wsum,ih]; omega
theorem wsum_perm {a b:List WRow} (h:a.Perm b) (r:List Int):wsum a r=wsum b r:=by
 induction h with
 | nil => rfl
 | cons x _ ih => simp only [wsum,ih]
 | swap x y l => simp only [wsum]; omega
 | trans _ _ h1 h2 => exact h1.trans h2
theorem wsum_none {l:List WRow} {r:List Int} (h:∀ w,w∈l→w.1≠r):wsum l r=0:=by
 induction l with
 | nil => rfl
 | cons w l ih =>
   simp only [wsum]
   rw [if_neg (h w (by simp)),ih fun x hx => h x (List.mem_cons_of_mem _ hx)]
   omega
def nzW (l:List WRow):Prop:=∀ w,w∈l→w.2≠0
theorem norm_uniq : ∀ {l l' : List WRow}, sortedW l → nzW l → sortedW l' → nzW l' → (∀ r, wsum l r = wsum l' r) → l = l'
 | [],[],_,_,_,_,_ => rfl
 | [],w::l',_,_,h3,h4,h => by
   obtain ⟨k1,_⟩:=List.pairwise_cons.1 h3
   have:=h w.1
   simp only [wsum,if_true] at this
   rw [wsum_none fun x hx e => ltR_irrefl w.1 (by have:=k1 x hx; rwa [e] at this)] at this
   exact absurd (by omega) (h4 w (by simp))
 | w::l,[],h1,h2,_,_,h => by
   obtain ⟨k1,_⟩:=List.pairwise_cons.1 h1
   have:=h w.1
   simp only [wsum,if_true] at this
   rw [wsum_none fun x hx e => ltR_irrefl w.1 (by have:=k1 x hx; rwa [e] at this)] at this
   exact absurd (by omega) (h2 w (by simp))
 | w::l,w'::l',h1,h2,h3,h4,h => by
   obtain ⟨k1,k2⟩:=List.pairwise_cons.1 h1
   obtain ⟨k3,k4⟩:=List.pairwise_cons.1 h3
   have a1:wsum l w.1=0:=wsum_none fun x hx e => ltR_irrefl w.1 (by have:=k1 x hx; rwa [e] at this)
   have a2:wsum l' w'.1=0:=wsum_none fun x hx e => ltR_irrefl w'.1 (by have:=k3 x hx; rwa [e] at this)
   have e1:w.1=w'.1:=by
     rcases ltR_total w.1 w'.1 with g | g | g
     · have b := h w.1
       have ne:¬ w'.1=w.1:=fun e => ltR_irrefl w.1 (by rwa [e] at g)
       have a3:wsum l' w.1=0:=wsum_none fun x hx e => ltR_irrefl w.1 (by have:=ltR_trans g (k3 x hx); rwa [e] at this)
       simp only [wsum,if_true,if_neg ne,a1,a3] at b
       exact absurd (by omega) (h2 w (by simp))
     · exact g
     · have b := h w'.1
       have ne:¬ w.1=w'.1:=fun e => ltR_irrefl w'.1 (by rwa [e] at g)
       have a3:wsum l w'.1=0:=wsum_none fun x hx e => ltR_irrefl w'.1 (by have:=ltR_trans g (k1 x hx); rwa [e] at this)
       simp only [wsum,if_true,if_neg ne,a2,a3] at b
       exact absurd (by omega) (h4 w' (by simp))
   have e2:w.2=w'.2:=by
     have b:=h w.1
     have a4:wsum l' w.1=0:=by rw [e1]; exact a2
     simp only [wsum,if_true,if_pos e1.symm,a1,a4] at b
     omega
   have e3:w=w':=Prod.ext e1 e2
   subst e3
   have:=norm_uniq k2 (fun x hx => h2 x (List.mem_cons_of_mem _ hx)) k4 (fun x hx => h4 x (List.mem_cons_of_mem _ hx)) fun r => by
     have:=h r
     simp only [wsum] at this
     omega
   rw [this]
/-! ## Rows put in one by one -/
def oneW (r:List Int) (n:Int):List WRow:=if n=0 then [] else [(r,n)]
theorem oneW_sum (r:List Int) (n:Int) (q:List Int):wsum (oneW r n) q=if r=q then n else 0:=by
 simp only [oneW]
 by_cases h:n=0
 · rw [if_pos h,h]; simp [wsum]
 · rw [if_neg h]; simp [wsum]
theorem oneW_mem {r:List Int} {n:Int} {w:WRow} (h:w∈oneW r n):w=(r,n)∧n≠0:=by
 simp only [oneW] at h
 split at h
 · cases h
 · exact ⟨by simpa using h,by assumption⟩
def putL : List WRow → List Int → Int → List WRow
 | [],r,n => oneW r n
 | w::l,r,n => if cmpL w.1 r<0 then w::putL l r n else if cmpL w.1 r=0 then oneW r (n+w.2) ++ l else oneW r n ++ w::l
theorem putL_sum (l:List WRow) (r:List Int) (n:Int) (q:List Int):wsum (putL l r n) q=wsum l q+if r=q then n else 0:=by
 induction l with
 | nil => simp only [putL,oneW_sum,wsum]; omega
 | cons w l ih =>
   simp only [putL]
   split
   · simp only [wsum,ih]; omega
   · split
     · rename_i h
       have:=cmpL_eq h
       rw [wsum_append,oneW_sum]
       simp only [wsum,this]
       split <;> omega
     · rw [wsum_append, oneW_sum]
       omega
theorem putL_mem {l:List WRow} {r:List Int} {n:Int} {w:WRow} (h:w∈putL l r n):w∈l∨w.1=r:=by
 induction l with
 | nil => exact .inr (by rw [(oneW_mem h).1])
 | cons u l ih =>
   simp only [putL] at h
   split at h
   · rcases List.mem_cons.1 h with rfl | h
     · exact .inl (by simp)
     · exact (ih h).imp (fun h => List.mem_cons_of_mem _ h) id
   · split at h
     · rcases List.mem_append.1 h with h | h
       · exact .inr (by rw [(oneW_mem h).1])
       · exact .inl (List.mem_cons_of_mem _ h)
     · rcases List.mem_append.1 h with h | h
       · exact .inr (by rw [(oneW_mem h).1])
       · exact .inl h
theorem putL_len (l:List WRow) (r:List Int) (n:Int):(putL l r n).length≤l.length+1:=by
 have ho:∀ m:Int,(oneW r m).length≤1:=fun m => by simp only [oneW]; split <;> simp
 induction l with
 | nil => exact ho n
 | cons w l ih =>
   simp only [putL]
   split
   · simp only [List.length_cons]; omega
   · split
     · have := ho (n + w.2)
       simp only [List.length_append,List.length_cons]; omega
     · have := ho n
       simp only [List.length_append,List.length_cons]; omega
theorem oneW_cons_sorted {r:List Int} {n:Int} {l:List WRow} (h:sortedW l) (hr:∀ w,w∈l→ltR r w.1):sortedW (oneW r n ++ l):=by
 simp only [oneW]
 split
 · exact h
 · exact List.pairwise_cons.2 ⟨hr,h⟩
theorem oneW_nz {r:List Int} {n:Int} {l:List WRow} (h:nzW l):nzW (oneW r n ++ l):=by
 intro w hw
 rcases List.mem_append.1 hw with hw | hw
 · obtain ⟨rfl, h0⟩ := oneW_mem hw
   exact h0
 · exact h w hw
theorem putL_sorted {l:List WRow} {r:List Int} {n:Int} (h:sortedW l):sortedW (putL l r n):=by
 induction l with
 | nil => have:=oneW_cons_sorted (r:=r) (n:=n) (l:=[]) .nil (by simp); simpa [putL] using this
 | cons w l ih =>
   obtain ⟨k1,k2⟩:=List.pairwise_cons.1 h
   simp only [putL]
   split
   · rename_i g
     exact List.pairwise_cons.2 ⟨fun x hx => (putL_mem hx).elim (k1 x) fun e => by rw [e]; exact g,ih k2⟩
   · split
     · rename_i g
       have e:=cmpL_eq g
       exact oneW_cons_sorted k2 fun x hx => by rw [← e]; exact k1 x hx
     · rename_i g1 g2
       have g3:ltR r w.1:=by
        rcases ltR_total w.1 r with g | g | g
        · exact absurd g g1
        · exact absurd (cmpL_zero.2 g) g2
        · exact g
       exact oneW_cons_sorted h fun x hx => by
        rcases List.mem_cons.1 hx with rfl | hx
        · exact g3
        · exact ltR_trans g3 (k1 x hx)
theorem putL_nz {l:List WRow} {r:List Int} {n:Int} (h:nzW l):nzW (putL l r n):=by
 induction l with
 | nil => have:=oneW_nz (r:=r) (n:=n) (l:=[]) (fun _ h => by cases h); simpa [putL] using this
 | cons w l ih =>
   have hl:nzW l:=fun x hx => h x (List.mem_cons_of_mem _ hx)
   simp only [putL]
   split
   · intro x hx
     rcases List.mem_cons.1 hx with rfl | hx
     · exact h x (by simp)
     · exact ih hl x hx
   · split
     · exact oneW_nz hl
     · exact oneW_nz h
def putsL (l b:List WRow):List WRow:=b.foldl (fun acc w => putL acc w.1 w.2) l
theorem putsL_ok : ∀ (b : List WRow) {l : List WRow}, sortedW l → nzW l → sortedW (putsL l b) ∧ nzW (putsL l b) ∧ (∀ q, wsum (putsL l b) q = wsum l q + wsum b q) ∧ (∀ w, w ∈ putsL l b → w ∈ l ∨ ∃ u, u ∈ b ∧ w.1 = u.1) ∧ (putsL l b).length ≤ l.length + b.length
 | [],l,h1,h2 => ⟨h1,h2,fun q => by simp [putsL,wsum],fun w hw => .inl hw,by simp [putsL]⟩
 | u::b,l,h1,h2 => by
   obtain ⟨k1,k2,k3,k4,k5⟩:=putsL_ok b (putL_sorted (r:=u.1) (n:=u.2) h1) (putL_nz h2)
   refine ⟨k1,k2,fun q => ?_,fun w hw => ?_, ?_⟩
   · have := k3 q
     rw [putL_sum] at this
     show wsum (putsL (putL l u.1 u.2) b) q=_
     simp only [wsum]
     omega
   · rcases k4 w hw with h | ⟨x, hx, e⟩
     · rcases putL_mem h with h | h
       · exact .inl h
       · exact .inr ⟨u,by simp,h⟩
     · exact .inr ⟨x,List.mem_cons_of_mem _ hx,e⟩
   · have := putL_len l u.1 u.2
     show (putsL (putL l u.1 u.2) b).length≤_
     simp only [List.length_cons]
     omega
/-! ## Rows sorted and added up -/
def weakW (l:List WRow):Prop:=l.Pairwise fun a b => ¬ ltR b.1 a.1
def runW : List Int → Int → List WRow → List WRow
 | r,s,[] => oneW r s
 | r,s,w::l => if cmpL w.1 r=0 then runW r (s+w.2) l else oneW r s ++ runW w.1 w.2 l
def groupW : List WRow → List WRow
 | [] => []
 | w::l => runW w.1 w.2 l
theorem runW_sum : ∀ (l : List WRow) (r : List Int) (s : Int) (q : List Int), wsum (runW r s l) q = (if r = q then s else 0) + wsum l q
 | [],r,s,q => by simp only [runW,oneW_sum,wsum]; omega
 | w::l,r,s,q => by
   simp only [runW]
   split
   · rename_i h
     rw [runW_sum l]
     simp only [wsum,cmpL_eq h]
     split <;> omega
   · rw [wsum_append, oneW_sum, runW_sum l]
     simp only [wsum]
theorem runW_mem : ∀ {l : List WRow} {r : List Int} {s : Int} {w : WRow}, w ∈ runW r s l → w.1 = r ∨ ∃ u, u ∈ l ∧ w.1 = u.1
 | [],r,s,w,h => .inl (by rw [(oneW_mem h).1])
 | u::l,r,s,w,h => by
   simp only [runW] at h
   split at h
   · exact (runW_mem h).imp id fun ⟨x,hx,e⟩ => ⟨x,List.mem_cons_of_mem _ hx,e⟩
   · rcases List.mem_append.1 h with h | h
     · exact .inl (by rw [(oneW_mem h).1])
     · rcases runW_mem h with h | ⟨x, hx, e⟩
       · exact .inr ⟨u,by simp,h⟩
       · exact .inr ⟨x,List.mem_cons_of_mem _ hx,e⟩
theorem runW_nz : ∀ (l : List WRow) (r : List Int) (s : Int), nzW (runW r s l)
 | [],r,s => by have:=oneW_nz (r:=r) (n:=s) (l:=[]) (fun _ h => by cases h); simpa [runW] using this
 | w::l,r,s => by
   simp only [runW]
   split
   · exact runW_nz l _ _
   · exact oneW_nz (runW_nz l _ _)
theorem runW_sorted : ∀ {l : List WRow} {r : List Int} {s : Int}, weakW l → (∀ w, w ∈ l → ¬ ltR w.1 r) → sortedW (runW r s l)
 | [],r,s,_,_ => by have:=oneW_cons_sorted (r:=r) (n:=s) (l:=[]) .nil (by simp); simpa [runW] using this
 | w::l,r,s,h,hr => by
   obtain ⟨k1,k2⟩:=List.pairwise_cons.1 h
   simp only [runW]
   split
   · exact runW_sorted k2 fun x hx => hr x (List.mem_cons_of_mem _ hx)
   · rename_i g
     have g3:ltR r w.1:=by
        rcases ltR_total r w.1 with g' | g' | g'
        · exact g'
        · exact absurd (cmpL_zero.2 g'.symm) g
        · exact absurd g' (hr w (by simp))
     refine oneW_cons_sorted (runW_sorted k2 fun x hx => k1 x hx) fun x hx => ?_
     rcases runW_mem hx with e | ⟨u,hu,e⟩
     · rw [e]; exact g3
     · rw [e]
       rcases ltR_total w.1 u.1 with g' | g' | g'
       · exact ltR_trans g3 g'
       · rw [← g']; exact g3
       · exact absurd g' (k1 u hu)
theorem groupW_ok {l:List WRow} (h:weakW l):sortedW (groupW l)∧nzW (groupW l)∧∀ q,wsum (groupW l) q=wsum l q:=by
 cases l with
 | nil => exact ⟨.nil,fun _ h => (by cases h),fun _ => rfl⟩
 | cons w l =>
   obtain ⟨k1,k2⟩:=List.pairwise_cons.1 h
   exact ⟨runW_sorted k2 k1,runW_nz _ _ _,fun q => by rw [groupW,runW_sum]; rfl⟩
def ltW (x y:WRow):Bool:=decide (cmpL x.1 y.1<0)
theorem ltW_ord:Ord ltW:=⟨fun x => by simp [ltW,cmpL_refl],fun x y w h1 h2 => by
 simp only [ltW,decide_eq_false_iff_not] at h1 h2 ⊢
 intro h
 rcases ltR_total x.1 y.1 with g | g | g
 · exact h2 (ltR_trans h g)
 · rw [g] at h; exact h2 h
 · exact h1 g⟩
theorem ltW_asym (x y:WRow) (h:ltW x y=true):ltW y x=false:=by
 simp only [ltW,decide_eq_true_eq,decide_eq_false_iff_not] at h ⊢
 exact ltR_asymm h
theorem weakW_of {d:List WRow} (h:SortS ([],0) ltW d 0 d.length):weakW d:=by
 refine List.pairwise_iff_getElem.2 fun i j hi hj hij => ?_
 have:=h i j (Nat.zero_le _) hij hj
 rw [getD_of_lt hi,getD_of_lt hj] at this
 simpa [ltW,ltR] using this
theorem group_puts {a b d:List WRow} (hp:d.Perm (a ++ b)) (hs:SortS ([],0) ltW d 0 d.length) (h1:sortedW a) (h2:nzW a):groupW d=putsL a b:=by
 obtain ⟨k1,k2,k3⟩:=groupW_ok (weakW_of hs)
 obtain ⟨g1,g2,g3,_⟩:=putsL_ok b h1 h2
 refine norm_uniq k1 k2 g1 g2 fun r => ?_
 rw [k3,g3,wsum_perm hp,wsum_append]
end GoV
