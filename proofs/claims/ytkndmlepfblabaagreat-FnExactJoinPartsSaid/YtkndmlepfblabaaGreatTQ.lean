/- A part of the proof of FnExactJoinParts: an interpreter of the model over plain data, its soundness, and what it makes of the functions that the statement reaches. Conditions: none beyond what the given statement itself says. -/
import Derived.Test.YtkndmlepfblabaaGreatTP
set_option linter.unusedVariables false
set_option linter.unusedSimpArgs false
set_option linter.unnecessarySimpa false
set_option linter.unusedSectionVars false
/- The loops of sorting, by rules of the form 'what comes of the next step comes of this one'. Plain Lean. -/
namespace GoV
open Go
section
variable {α β:Type} {z:α} {lt:α→α→Bool}
/-! ## Insertion -/
theorem ins_inner (ho : Ord lt) (has : ∀ x y, lt x y = true → lt y x = false) {a i : Nat} (L : List α → Nat → Option β) (K : List α → Option β) (hz : ∀ d r, K d = some r → L d a = some r)
 (hs:∀ d j r,a<j→j≤i→i<d.length→lt (d.getD j z) (d.getD (j - 1) z)=false→K d=some r→L d j=some r)
 (hm:∀ d j r,a<j→j≤i→i<d.length→lt (d.getD j z) (d.getD (j - 1) z)=true→L (swapL z d j (j - 1)) (j - 1)=some r→L d j=some r) :
 ∀ j d,a≤j→j≤i→i<d.length→InsK z lt d a i j→∃ d',Mv z d d' a (i+1)∧SortS z lt d' a (i+1)∧∀ r,K d'=some r→L d j=some r:=by
 intro j
 induction j with
 | zero =>
   intro d h1 h2 h3 h4
   obtain rfl:a=0:=by omega
   exact ⟨d,.refl _ _ _,h4.zero,fun r hr => hz d r hr⟩
 | succ j ih =>
   intro d h1 h2 h3 h4
   by_cases e:a=j+1
   · subst e
     exact ⟨d,.refl _ _ _,h4.zero,fun r hr => hz d r hr⟩
   · cases hl : lt (d.getD (j + 1) z) (d.getD (j + 1 - 1) z) with
     | false => exact ⟨d,.refl _ _ _,h4.stop ho (by omega) h2 hl,fun r hr => hs d _ r (by omega) h2 h3 hl hr⟩
     | true =>
       obtain ⟨d',k1,k2,k3⟩:=ih (swapL z d (j+1) (j+1 - 1)) (by omega) (by omega) (by rw [swapL_len]; exact h3) (h4.step has (by omega) h2 h3 hl)
       exact ⟨d',(Mv.swap (by omega) (by omega) (by omega) (by omega) (by omega) (by omega)).trans k1,k2,fun r hr => hm d _ r (by omega) h2 h3 hl (k3 r hr)⟩
theorem ins_outer (ho : Ord lt) (has : ∀ x y, lt x y = true → lt y x = false) {a b N : Nat} (hb : b ≤ N) (L : List α → Nat → Option β) (L1 : Nat → List α → Nat → Option β) (K : List α → Option β) (hz : ∀ d i r, b ≤ i → K d = some r → L d i = some r)
 (hi:∀ d i r,a<i→i<b→d.length=N→L1 i d i=some r→L d i=some r)
 (h0:∀ d i r,i<b→L d (i+1)=some r→L1 i d a=some r)
 (hs:∀ d i j r,a<j→j≤i→i<b→d.length=N→lt (d.getD j z) (d.getD (j - 1) z)=false→L d (i+1)=some r→L1 i d j=some r)
 (hm:∀ d i j r,a<j→j≤i→i<b→d.length=N→lt (d.getD j z) (d.getD (j - 1) z)=true→L1 i (swapL z d j (j - 1)) (j - 1)=some r→L1 i d j=some r) :
 ∀ n i d,b - i=n→a<i→d.length=N→SortS z lt d a (min i b)→∃ d',Mv z d d' a b∧SortS z lt d' a b∧∀ r,K d'=some r→L d i=some r:=by
 intro n
 induction n with
 | zero =>
   intro i d h1 h2 h3 h4
   have:min i b=b:=by omega
   rw [this] at h4
   exact ⟨d,.refl _ _ _,h4,fun r hr => hz d i r (by omega) hr⟩
 | succ n ih =>
   intro i d h1 h2 h3 h4
   have hib:i<b:=by omega
   have e:min i b=i:=by omega
   rw [e] at h4
   -- the inner loop keeps the length
   obtain ⟨d1, k1, k2, k3⟩ := ins_inner (β := β) (K := fun d' => if d'.length = N then L d' (i + 1) else none) ho has (a := a) (i := i) (fun d' j => if d'.length = N then L1 i d' j else none)
    (fun d' r hr => by
        split at hr
        · rename_i hl; simp only [hl,if_true]; exact h0 d' i r hib hr
        · cases hr)
    (fun d' j r g1 g2 g3 g4 hr => by
        split at hr
        · rename_i hl; simp only [hl,if_true]; exact hs d' i j r g1 g2 hib hl g4 hr
        · cases hr)
    (fun d' j r g1 g2 g3 g4 hr => by
        split at hr
        · rename_i hl
          rw [swapL_len] at hl
          simp only [hl,if_true]
          exact hm d' i j r g1 g2 hib hl g4 hr
        · cases hr) i d (by omega) (Nat.le_refl _) (by omega) (.start h4)
   have hl1:d1.length=N:=k1.len.trans h3
   obtain ⟨d',g1,g2,g3⟩:=ih (i+1) d1 (by omega) (by omega) hl1 (by rw [show min (i+1) b=i+1 by omega]; exact k2)
   refine ⟨d',(k1.mono (Nat.le_refl _) (by omega)).trans g1,g2,fun r hr => hi d i r h2 hib h3 ?_⟩
   have:=k3 r (by simp only [hl1,if_true]; exact g3 r hr)
   simpa only [h3,if_true] using this
/-! ## Ranges swapped -/
theorem swap_loop {n a b N : Nat} (L : List α → Nat → Option β) (K : List α → Option β) (hz : ∀ d r, d.length = N → K d = some r → L d n = some r)
 (hs:∀ d i r,i<n→d.length=N→L (swapL z d (a+i) (b+i)) (i+1)=some r→L d i=some r) :
 ∀ m k d,n - k=m→d.length=N→k≤n→∀ r,K (swapR z m d (a+k) (b+k))=some r→L d k=some r:=by
 intro m
 induction m with
 | zero =>
   intro k d h1 h2 h3 r hr
   obtain rfl:k=n:=by omega
   exact hz d r h2 hr
 | succ m ih =>
   intro k d h1 h2 h3 r hr
   exact hs d k r (by omega) h2 (ih (k+1) _ (by omega) (by rw [swapL_len]; exact h2) (by omega) r hr)
/-! ## Rotation -/
theorem rot_loop {m N : Nat} (L : List α → Nat → Nat → Option β) (K : List α → Option β)
 (h0:∀ d i r,i≤m→0<i→m+i≤d.length→d.length=N→K (swapR z i d (m - i) m)=some r→L d i i=some r)
 (h1:∀ d i j r,j<i→0<j→i≤m→m+j≤d.length→d.length=N→L (swapR z j d (m - i) m) (i - j) j=some r→L d i j=some r)
 (h2:∀ d i j r,i<j→0<i→i≤m→m+j≤d.length→d.length=N→L (swapR z i d (m - i) (m+j - i)) i (j - i)=some r→L d i j=some r) :
 ∀ n i j d, i + j = n → 0 < i → 0 < j → i ≤ m → m + j ≤ d.length → d.length = N →
   ∃ d',Mv z d d' (m - i) (m+j)∧RotF (fun k => d.getD k z) (fun k => d'.getD k z) (m - i) m (m+j)∧∀ r,K d'=some r→L d i j=some r:=by
 intro n
 induction n using Nat.strongRecOn with
 | ind n ih =>
   intro i j d hn hi hj him hjd hN
   by_cases e:i=j
   · subst e
     obtain ⟨k1,k2,k3⟩:=swapR_ok (z:=z) i d (m - i) m (by omega) hjd
     exact ⟨_,k2,rot_last him k3,fun r hr => h0 d i r him hi hjd hN hr⟩
   · by_cases e2 : j < i
     · obtain ⟨k1, k2, k3⟩ := swapR_ok (z := z) j d (m - i) m (by omega) hjd
       obtain ⟨d',g1,g2,g3⟩:=ih (i - j+j) (by omega) (i - j) j (swapR z j d (m - i) m) rfl (by omega) hj (by omega) (by omega) (by omega)
       exact ⟨d',k2.trans (g1.mono (by omega) (Nat.le_refl _)),rot_left him e2 hj k3 g2,fun r hr => h1 d i j r e2 hj him hjd hN (g3 r hr)⟩
     · have e3 : i < j := by omega
       obtain ⟨k1,k2,k3⟩:=swapR_ok (z:=z) i d (m - i) (m+j - i) (by omega) (by omega)
       obtain ⟨d',g1,g2,g3⟩:=ih (i+(j - i)) (by omega) i (j - i) (swapR z i d (m - i) (m+j - i)) rfl hi (by omega) him (by omega) (by omega)
       exact ⟨d',(k2.mono (Nat.le_refl _) (by omega)).trans (g1.mono (Nat.le_refl _) (by omega)),rot_right him e3 hi k3 g2,fun r hr => h2 d i j r e3 hi him hjd hN (g3 r hr)⟩
/-! ## Halving -/
theorem bs_loop {p : Nat → Bool} {lo hi : Nat} (hp : ∀ h k, lo ≤ k → k ≤ h → h < hi → p h = true → p k = true) (L : Nat → Nat → Option β) (K : Nat → Option β) (he : ∀ i r, lo ≤ i → i ≤ hi → K i = some r → L i i = some r)
 (ht:∀ i j r,i<j→lo≤i→j≤hi→p ((i+j) / 2)=true→L ((i+j) / 2+1) j=some r→L i j=some r)
 (hf:∀ i j r,i<j→lo≤i→j≤hi→p ((i+j) / 2)=false→L i ((i+j) / 2)=some r→L i j=some r) :
 ∀ n i j, j - i = n → lo ≤ i → i ≤ j → j ≤ hi → (∀ k, lo ≤ k → k < i → p k = true) → (∀ k, j ≤ k → k < hi → p k = false) →
   ∃ q,lo≤q∧q≤hi∧(∀ k,lo≤k→k<q→p k=true)∧(∀ k,q≤k→k<hi→p k=false)∧∀ r,K q=some r→L i j=some r:=by
 intro n
 induction n using Nat.strongRecOn with
 | ind n ih =>
   intro i j hn h1 h2 h3 hlo hhi
   by_cases e:i=j
   · subst e
     exact ⟨i,h1,h3,hlo,hhi,fun r hr => he i r h1 h3 hr⟩
   · cases hc : p ((i + j) / 2) with
     | true =>
       obtain ⟨q,k1,k2,k3,k4,k5⟩:=ih (j - ((i+j) / 2+1)) (by omega) ((i+j) / 2+1) j rfl (by omega) (by omega) h3 (fun k g1 g2 => hp _ k g1 (by omega) (by omega) hc) hhi
       exact ⟨q,k1,k2,k3,k4,fun r hr => ht i j r (by omega) h1 h3 hc (k5 r hr)⟩
     | false =>
       obtain ⟨q,k1,k2,k3,k4,k5⟩:=ih ((i+j) / 2 - i) (by omega) i ((i+j) / 2) rfl h1 (by omega) (by omega) hlo (fun k g1 g2 => by
         cases hk:p k with
         | false => rfl
         | true => rw [hp k ((i+j) / 2) (by omega) g1 g2 hk] at hc; cases hc)
       exact ⟨q,k1,k2,k3,k4,fun r hr => hf i j r (by omega) h1 h3 hc (k5 r hr)⟩
/-! ## One element moved -/
theorem up_loop {e N : Nat} (heN : e < N) (L : List α → Nat → Option β) (K : List α → Option β) (hz : ∀ d r, d.length = N → K d = some r → L d e = some r)
 (hs:∀ d k r,k<e→d.length=N→L (swapL z d k (k+1)) (k+1)=some r→L d k=some r) :
 ∀ n k d, e - k = n → k ≤ e → d.length = N →
   ∃ d',Mv z d d' k (e+1)∧(∀ q,d'.getD q z=if k≤q∧q<e then d.getD (q+1) z else if q=e then d.getD k z else d.getD q z)∧∀ r,K d'=some r→L d k=some r:=by
 intro n
 induction n with
 | zero =>
   intro k d h1 h2 h3
   obtain rfl:k=e:=by omega
   refine ⟨d,.refl _ _ _,fun q => ?_,fun r hr => hz d r h3 hr⟩
   rw [if_neg (by omega)]
   split
   · rename_i h; rw [h]
   · rfl
 | succ n ih =>
   intro k d h1 h2 h3
   have hk:k<d.length:=by omega
   have hk1:k+1<d.length:=by omega
   obtain ⟨d',k1,k2,k3⟩:=ih (k+1) (swapL z d k (k+1)) (by omega) (by omega) (by rw [swapL_len]; exact h3)
   refine ⟨d',(Mv.swap hk hk1 (Nat.le_refl _) (by omega) (by omega) (by omega)).trans (k1.mono (by omega) (Nat.le_refl _)),fun q => ?_,fun r hr => hs d k r (by omega) h3 (k3 r hr)⟩
   rw [k2]
   simp only [swapL_at hk hk1]
   by_cases c1:q=k
   · subst c1
     rw [if_neg (by omega),if_neg (by omega),if_neg (by omega),if_pos rfl,if_pos (by omega)]
   · by_cases c2 : k + 1 ≤ q ∧ q < e
     · rw [if_pos c2,if_neg (by omega),if_neg (by omega),if_pos (by omega)]
     · rw [if_neg c2]
       by_cases c3:q=e
       · rw [if_pos c3,if_pos trivial,if_neg (by omega),if_pos c3]
       · rw [if_neg c3,if_neg (by omega),if_neg (by omega),if_neg (by omega),if_neg c3]
theorem down_loop {e N : Nat} (L : List α → Nat → Option β) (K : List α → Option β) (hz : ∀ d r, d.length = N → K d = some r → L d e = some r)
 (hs:∀ d k r,e<k→k<N→d.length=N→L (swapL z d k (k - 1)) (k - 1)=some r→L d k=some r) :
 ∀ n k d, k - e = n → e ≤ k → k < N → d.length = N →
   ∃ d',Mv z d d' e (k+1)∧(∀ q,d'.getD q z=if q=e then d.getD k z else if e<q∧q≤k then d.getD (q - 1) z else d.getD q z)∧∀ r,K d'=some r→L d k=some r:=by
 intro n
 induction n with
 | zero =>
   intro k d h1 h2 h4 h3
   obtain rfl:k=e:=by omega
   refine ⟨d,.refl _ _ _,fun q => ?_,fun r hr => hz d r h3 hr⟩
   split
   · rename_i h; rw [h]
   · rw [if_neg (by omega)]
 | succ n ih =>
   intro k d h1 h2 h4 h3
   have hk:k<d.length:=by omega
   have hk1:k - 1<d.length:=by omega
   obtain ⟨d',k1,k2,k3⟩:=ih (k - 1) (swapL z d k (k - 1)) (by omega) (by omega) (by omega) (by rw [swapL_len]; exact h3)
   refine ⟨d',(Mv.swap hk hk1 (by omega) (by omega) (by omega) (by omega)).trans (k1.mono (Nat.le_refl _) (by omega)),fun q => ?_,fun r hr => hs d k r (by omega) h4 h3 (k3 r hr)⟩
   rw [k2]
   simp only [swapL_at hk hk1]
   by_cases c1:q=e
   · rw [if_pos c1,if_pos trivial,if_pos c1]
   · rw [if_neg c1, if_neg c1]
     by_cases c2:e<q∧q≤k - 1
     · rw [if_pos c2,if_neg (by omega),if_neg (by omega),if_pos (by omega)]
     · rw [if_neg c2]
       by_cases c3:q=k
       · subst c3
         rw [if_neg (by omega),if_pos rfl,if_pos (by omega)]
       · rw [if_neg (by omega),if_neg c3,if_neg (by omega)]
end
end GoV
