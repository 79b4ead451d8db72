/- A part of the proof of FnExactJoinParts: an interpreter of the model over plain data, its soundness, and what it makes of the functions that the statement reaches. Conditions: none beyond what the given statement itself says. -/
import Derived.Test.YtkndmlepfblabaaGreatTQ
set_option linter.unusedVariables false
set_option linter.unusedSimpArgs false
set_option linter.unnecessarySimpa false
set_option linter.unusedSectionVars false
/- The library's stable sort of rows with weights. -/
namespace GoV
open Go
def Rows (d:List WRow):Prop:=∀ w,w∈d→w.1.length≤1073741824
theorem Rows.perm {d d':List WRow} (h:Rows d) (hp:d'.Perm d):Rows d':=fun w hw => h w (hp.mem_iff.1 hw)
open Classical in
/-- An answer that counts where the rows are no longer than they were. -/
noncomputable def gd {β:Type} (d:List WRow) (x:Option β):Option β:=if Rows d then x else none
theorem gd_some {β:Type} {d:List WRow} {x:Option β} {r:β}:gd d x=some r↔Rows d∧x=some r:=by
 unfold gd
 split
 · rename_i h; exact ⟨fun e => ⟨h,e⟩,fun e => e.2⟩
 · rename_i h; exact ⟨fun e => (by cases e),fun e => absurd e.1 h⟩
theorem gd_swap {d:List WRow} {i j:Nat} (hi:i<d.length) (hj:j<d.length) (h:Rows (swapL ([],0) d i j)):Rows d:=h.perm (swapL_perm hi hj).symm
theorem xi1q_eq (a:List Int) (n:Int) (b:List Int) (m:Int) (ha:a.length≤1073741824) (hb:b.length≤1073741824):xi1q a n b m=some (cmpL a b):=xi1q.eq _ _ _ _ (by simp only [xi1q.t,xi11_eq _ _ ha hb,Option.bind_some])
theorem gt_dec (i j:Nat):decide ((i:Int) > (j:Int))=decide (j<i):=ix_lt j i
theorem ins_ok {d : List WRow} {a b : Nat} (hb : b ≤ d.length) (hl : d.length ≤ 1073741824) (hr : Rows d) (ha : a ≤ 1073741824) :
 ∃ d',xs04 d (a:Int) (b:Int)=some d'∧Mv ([],0) d d' a b∧SortS ([],0) ltW d' a b:=by
 refine Exists.elim (ins_outer (z := (([] : List Int), (0 : Int))) ltW_ord ltW_asym (a := a) (b := b) (N := d.length) hb
  (fun d i => gd d (xs04.l1 d (a:Int) (b:Int) (i:Int)))
  (fun i d j => gd d (xs04.l4 d (a:Int) (b:Int) (i:Int) (j:Int))) (fun d => gd d (some d)) ?_ ?_ ?_ ?_ ?_ _ (a+1) d rfl (by omega) rfl (.one (by omega))) ?_
 · intro d i r h hx
   obtain ⟨g1,g2⟩:=gd_some.1 hx
   exact gd_some.2 ⟨g1,xs04.eq1 _ _ _ _ (by simp only [xs04.t1,ix_lt,dec_f (show ¬ i<b by omega),cond_false]; exact g2)⟩
 · intro d i r h1 h2 _ hx
   obtain ⟨g1,g2⟩:=gd_some.1 hx
   exact gd_some.2 ⟨g1,xs04.eq1 _ _ _ _ (by simp only [xs04.t1,ix_lt,dec_t h2,cond_true]; exact g2)⟩
 · intro d i r h1 hx
   obtain ⟨g1,g2⟩:=gd_some.1 hx
   exact gd_some.2 ⟨g1,xs04.eq4 _ _ _ _ _ (by simp only [xs04.t4,gt_dec,Nat.lt_irrefl,decide_false,cond_false,wrap_succ (show i<9223372036854775807 by omega)]; exact g2)⟩
 · intro d1 i j r h1 h2 h3 h4 h5 hx
   obtain ⟨g1,g2⟩:=gd_some.1 hx
   have hj:j<d1.length:=by omega
   have hj1:j - 1<d1.length:=by omega
   have hc:decide (cmpL (d1.getD j ([],0)).1 (d1.getD (j - 1) ([],0)).1<0)=false:=h5
   exact gd_some.2 ⟨g1,xs04.eq4 _ _ _ _ _ (by
    simp only [xs04.t4,gt_dec,dec_t h1,wrap_pred (show 0<j by omega) (show j<9223372036854775807 by omega),ix_nn,ix_nat,dec_t hj,dec_t hj1,cond_true,xi1q_eq _ _ _ _ (g1 _ (getD_mem ([],0) hj)) (g1 _ (getD_mem ([],0) hj1)),Option.bind_some,hc,cond_false,wrap_succ (show i<9223372036854775807 by omega)]
    exact g2)⟩
 · intro d1 i j r h1 h2 h3 h4 h5 hx
   obtain ⟨g1,g2⟩:=gd_some.1 hx
   have hj:j<d1.length:=by omega
   have hj1:j - 1<d1.length:=by omega
   have g1:=gd_swap hj hj1 g1
   have hc:decide (cmpL (d1.getD j ([],0)).1 (d1.getD (j - 1) ([],0)).1<0)=true:=h5
   have hs:∀ x:WRow,decide (j - 1<(d1.set j x).length)=true:=fun x => by rw [List.length_set]; exact dec_t hj1
   exact gd_some.2 ⟨g1,xs04.eq4 _ _ _ _ _ (by
    simp only [xs04.t4,gt_dec,dec_t h1,wrap_pred (show 0<j by omega) (show j<9223372036854775807 by omega),ix_nn,ix_nat,dec_t hj,dec_t hj1,cond_true,xi1q_eq _ _ _ _ (g1 _ (getD_mem ([],0) hj)) (g1 _ (getD_mem ([],0) hj1)),Option.bind_some,hc,hs]
    exact g2)⟩
 · rintro d' ⟨h1, h2, h3⟩
   refine ⟨d', ?_,h1,h2⟩
   have:=(gd_some.1 (h3 d' (gd_some.2 ⟨hr.perm h1.perm,rfl⟩))).2
   exact xs04.eq _ _ _ (by simp only [xs04.t,wrap_succ (show a<9223372036854775807 by omega)]; exact this)
theorem w_add {i j:Nat} (h:i+j<4611686018427387904):IntKind.i64.wrap ((i:Int)+(j:Int))=((i+j:Nat):Int):=by rw [wrap_id] <;> omega
theorem w_sub {i j:Nat} (h:j≤i) (h2:i<4611686018427387904):IntKind.i64.wrap ((i:Int) - (j:Int))=((i - j:Nat):Int):=by rw [wrap_id] <;> omega
theorem swapRange_ok {d : List WRow} {a b n : Nat} (h2 : b + n ≤ d.length) (h3 : a + n ≤ d.length) (hl : d.length ≤ 1073741824) :
 xs07 d (a:Int) (b:Int) (n:Int)=some (swapR ([],0) n d a b):=by
 refine xs07.eq _ _ _ _ ?_
 simp only [xs07.t]
 refine swap_loop (z:=(([]:List Int),(0:Int))) (n:=n) (a:=a) (b:=b) (N:=d.length) (fun d i => xs07.l1 d (a:Int) (b:Int) (n:Int) (i:Int)) some ?_ ?_ n 0 d rfl rfl (Nat.zero_le _) _ rfl
 · intro d1 r _ hx
   exact xs07.eq1 _ _ _ _ _ (by simp only [xs07.t1,ix_lt,Nat.lt_irrefl,decide_false,cond_false]; exact hx)
 · intro d1 i r hi hd hx
   have ha:a+i<d1.length:=by omega
   have hb:b+i<d1.length:=by omega
   have hs:∀ x:WRow,decide (b+i<(d1.set (a+i) x).length)=true:=fun x => by rw [List.length_set]; exact dec_t hb
   exact xs07.eq1 _ _ _ _ _ (by
    simp only [xs07.t1,ix_lt,dec_t hi,cond_true,w_add (show a+i<4611686018427387904 by omega),w_add (show b+i<4611686018427387904 by omega),ix_nn,ix_nat,dec_t ha,dec_t hb,hs,wrap_succ (show i<9223372036854775807 by omega)]
    exact hx)
theorem rotate_ok {d : List WRow} {a m b : Nat} (ha : a < m) (hb : m < b) (hbl : b ≤ d.length) (hl : d.length ≤ 1073741824) :
 ∃ d',xs0a d (a:Int) (m:Int) (b:Int)=some d'∧Mv ([],0) d d' a b∧RotF (fun k => d.getD k ([],0)) (fun k => d'.getD k ([],0)) a m b:=by
 refine Exists.elim (rot_loop (z:=(([]:List Int),(0:Int))) (m:=m) (N:=d.length) (fun d i j => xs0a.l2 d (m:Int) (i:Int) (j:Int)) some ?_ ?_ ?_ _ (m - a) (b - m) d rfl (by omega) (by omega) (by omega) (by omega) rfl) ?_
 · intro d1 i r h1 h2 h3 h4 hx
   refine xs0a.eq2 _ _ _ _ ?_
   have e:=swapRange_ok (d:=d1) (a:=m - i) (b:=m) (n:=i) (by omega) (by omega) (by omega)
   simp only [xs0a.t2,bne_ref,cond_false,w_sub (show i≤m by omega) (show m<4611686018427387904 by omega),e,Option.bind_some]
   exact hx
 · intro d1 i j r h1 h2 h3 h4 h5 hx
   refine xs0a.eq2 _ _ _ _ ?_
   have e:=swapRange_ok (d:=d1) (a:=m - i) (b:=m) (n:=j) (by omega) (by omega) (by omega)
   simp only [xs0a.t2,bneI,dec_f (show ¬ i=j by omega),bang_f,cond_true,gt_dec,dec_t h1,w_sub (show i≤m by omega) (show m<4611686018427387904 by omega),e,Option.bind_some,w_sub (show j≤i by omega) (show i<4611686018427387904 by omega)]
   exact hx
 · intro d1 i j r h1 h2 h3 h4 h5 hx
   refine xs0a.eq2 _ _ _ _ ?_
   have e:=swapRange_ok (d:=d1) (a:=m - i) (b:=m+j - i) (n:=i) (by omega) (by omega) (by omega)
   simp only [xs0a.t2,bneI,dec_f (show ¬ i=j by omega),bang_f,cond_true,cond_false,gt_dec,dec_f (show ¬ j<i by omega),w_sub (show i≤m by omega) (show m<4611686018427387904 by omega),w_add (show m+j<4611686018427387904 by omega),w_sub (show i≤m+j by omega) (show m+j<4611686018427387904 by omega),e,Option.bind_some,w_sub (show i≤j by omega) (show j<4611686018427387904 by omega)]
   exact hx
 · rintro d' ⟨h1, h2, h3⟩
   rw [show m - (m - a)=a by omega,show m+(b - m)=b by omega] at h1 h2
   refine ⟨d',xs0a.eq _ _ _ _ ?_,h1,h2⟩
   simp only [xs0a.t,w_sub (show a≤m by omega) (show m<4611686018427387904 by omega),w_sub (show m≤b by omega) (show b<4611686018427387904 by omega)]
   exact h3 d' rfl
end GoV

/- The weight of a row: by binary search, and one by one. -/
namespace GoV
open Go
/-- The middle of two numbers, as Go reckons it. -/
theorem mid_nat (i j:Nat) (h:i+j<4611686018427387904):IntKind.i64.wrap ((IntKind.u64.wrap (IntKind.i64.wrap ((i:Int)+(j:Int)))).fdiv ((2:Int) ^ Min.min (Int.toNat (1:Int)) IntKind.u64.bits))=(((i+j) / 2:Nat):Int):=by
 have e1:IntKind.i64.wrap ((i:Int)+(j:Int))=((i+j:Nat):Int):=by rw [wrap_id] <;> omega
 have e2:IntKind.u64.wrap ((i+j:Nat):Int)=((i+j:Nat):Int):=by
  have:IntKind.u64.wrap ((i+j:Nat):Int)=((i+j:Nat):Int) % 18446744073709551616:=by simp [IntKind.wrap,IntKind.bits,IntKind.signed]
  rw [this]
  omega
 have e3:Min.min (Int.toNat (1:Int)) IntKind.u64.bits=1:=rfl
 rw [e1,e2,e3,Int.pow_one,Int.fdiv_eq_ediv_of_nonneg _ (by omega)]
 rw [wrap_id] <;> omega
section
variable {l:List WRow} {r:List Int} (hl:l.length≤1073741824) (hr:∀ w,w∈l→w.1.length≤1073741824) (hx:r.length≤1073741824) (hs:sortedW l)
include hl hr hx hs
end
end GoV

/- The library's stable sort of rows with weights: merging in place, and all of it. -/
namespace GoV
open Go
theorem RotF.none {f:Nat→WRow} {s m t:Nat} (h:s=m∨t=m) (h1:s≤m) (h2:m≤t):RotF f f s m t:=by
 intro k
 by_cases c1:s≤k∧k<s+(t - m)
 · rw [if_pos c1]; congr 1; omega
 · rw [if_neg c1]
   by_cases c2:s+(t - m)≤k∧k<t
   · rw [if_pos c2]; congr 1; omega
   · rw [if_neg c2]
theorem one_eq (i j:Nat) (h:j≤i) (h2:i<4611686018427387904):(IntKind.i64.wrap ((i:Int) - (j:Int)) == (1:Int))=decide (i - j=1):=by
 rw [w_sub h h2]
 by_cases e:i - j=1
 · rw [e]; rfl
 · rw [dec_f e]
   exact beq_eq_false_iff_ne.2 (by omega)
abbrev zW:WRow:=([],0)
/-- One element alone to the left. -/
theorem sym_left {d : List WRow} {a b : Nat} (hab : a + 1 < b) (hb : b ≤ d.length) (hl : d.length ≤ 1073741824) (hr : Rows d) (hs : SortS zW ltW d (a + 1) b) :
 ∃ d',xs09 d (a:Int) ((a+1:Nat):Int) (b:Int)=some d'∧Mv zW d d' a b∧SortS zW ltW d' a b:=by
 have hmono:∀ h k,a+1≤k→k≤h→h<b→ltW (d.getD h zW) (d.getD a zW)=true→ltW (d.getD k zW) (d.getD a zW)=true:=by
  intro h k h1 h2 h3 h4
  cases e:ltW (d.getD k zW) (d.getD a zW) with
  | true => rfl
  | false =>
    have:=ltW_ord.tr _ _ _ e (hs.le ltW_ord h1 h2 h3)
    rw [this] at h4; cases h4
 refine Exists.elim (bs_loop (p:=fun h => ltW (d.getD h zW) (d.getD a zW)) (lo:=a+1) (hi:=b) hmono (fun i j => xs09.l3 d (a:Int) (i:Int) (j:Int)) (fun q => xs09.l9 d (q:Int) (a:Int)) ?_ ?_ ?_ _ (a+1) b rfl (Nat.le_refl _) (by omega) (Nat.le_refl _) (fun k h1 h2 => by omega) (fun k h1 h2 => by omega)) ?_
 · intro i r h1 h2 hx
   exact xs09.eq3 _ _ _ _ (by simp only [xs09.t3,ix_lt,Nat.lt_irrefl,decide_false,cond_false]; exact hx)
 · intro i j r h1 h2 h3 h4 hx
   have hm:=mid_nat i j (by omega)
   have hh:(i+j) / 2<d.length:=by omega
   have hal:a<d.length:=by omega
   have hc:decide (cmpL (d.getD ((i+j) / 2) ([],0)).1 (d.getD a ([],0)).1<0)=true:=h4
   refine xs09.eq3 _ _ _ _ ?_
   simp only [xs09.t3,ix_lt,dec_t h1,cond_true,hm,ix_nn,ix_nat,dec_t hh,dec_t hal,xi1q_eq _ _ _ _ (hr _ (getD_mem ([],0) hh)) (hr _ (getD_mem ([],0) hal)),Option.bind_some,hc,wrap_succ (show (i+j) / 2<9223372036854775807 by omega)]
   exact hx
 · intro i j r h1 h2 h3 h4 hx
   have hm:=mid_nat i j (by omega)
   have hh:(i+j) / 2<d.length:=by omega
   have hal:a<d.length:=by omega
   have hc:decide (cmpL (d.getD ((i+j) / 2) ([],0)).1 (d.getD a ([],0)).1<0)=false:=h4
   refine xs09.eq3 _ _ _ _ ?_
   simp only [xs09.t3,ix_lt,dec_t h1,cond_true,hm,ix_nn,ix_nat,dec_t hh,dec_t hal,xi1q_eq _ _ _ _ (hr _ (getD_mem ([],0) hh)) (hr _ (getD_mem ([],0) hal)),Option.bind_some,hc,cond_false]
   exact hx
 · rintro q ⟨q1, q2, q3, q4, q5⟩
   refine Exists.elim (up_loop (z:=zW) (e:=q - 1) (N:=d.length) (by omega) (fun d k => xs09.l9 d (q:Int) (k:Int)) some ?_ ?_ _ a d rfl (by omega) rfl) ?_
   · intro d1 r _ hx
     refine xs09.eq9 _ _ _ ?_
     simp only [xs09.t9,wrap_pred (show 0<q by omega) (show q<9223372036854775807 by omega),ix_lt,Nat.lt_irrefl,decide_false,cond_false]
     exact hx
   · intro d1 k r h1 h2 hx
     have hk:k<d1.length:=by omega
     have hk1:k+1<d1.length:=by omega
     have hset:∀ x:WRow,decide (k+1<(d1.set k x).length)=true:=fun x => by rw [List.length_set]; exact dec_t hk1
     refine xs09.eq9 _ _ _ ?_
     simp only [xs09.t9,wrap_pred (show 0<q by omega) (show q<9223372036854775807 by omega),ix_lt,dec_t h1,cond_true,wrap_succ (show k<9223372036854775807 by omega),ix_nn,ix_nat,dec_t hk,dec_t hk1,hset]
     exact hx
   · rintro d' ⟨k1, k2, k3⟩
     refine ⟨d',xs09.eq _ _ _ _ ?_,k1.mono (Nat.le_refl _) (by omega), ?_⟩
     · simp only [xs09.t, one_eq _ _ (show a ≤ a + 1 by omega) (show a + 1 < 4611686018427387904 by omega), dec_t (show a + 1 - a = 1 by omega), cond_true]
       exact q5 _ (k3 d' rfl)
     · refine sort_up (i := q) ltW_asym hs (by omega) q2 (fun k h1 h2 => q3 k (by omega) h2) (fun k h1 h2 => q4 k h1 h2) ?_
       intro k
       exact k2 k
/-- One element alone to the right. -/
theorem sym_right {d : List WRow} {a m : Nat} (ham : a + 1 < m) (hb : m + 1 ≤ d.length) (hl : d.length ≤ 1073741824) (hr : Rows d) (hs : SortS zW ltW d a m) :
 ∃ d',xs09 d (a:Int) (m:Int) ((m+1:Nat):Int)=some d'∧Mv zW d d' a (m+1)∧SortS zW ltW d' a (m+1):=by
 have hmono:∀ h k,a≤k→k≤h→h<m→(!ltW (d.getD m zW) (d.getD h zW))=true→(!ltW (d.getD m zW) (d.getD k zW))=true:=by
  intro h k h1 h2 h3 h4
  have h4':ltW (d.getD m zW) (d.getD h zW)=false:=by simpa using h4
  have:=ltW_ord.tr _ _ _ (hs.le ltW_ord h1 h2 h3) h4'
  rw [this]; rfl
 refine Exists.elim (bs_loop (p:=fun h => !ltW (d.getD m zW) (d.getD h zW)) (lo:=a) (hi:=m) hmono (fun i j => xs09.l15 d (m:Int) (i:Int) (j:Int)) (fun q => xs09.l21 d (q:Int) (m:Int)) ?_ ?_ ?_ _ a m rfl (Nat.le_refl _) (by omega) (Nat.le_refl _) (fun k h1 h2 => by omega) (fun k h1 h2 => by omega)) ?_
 · intro i r h1 h2 hx
   exact xs09.eq15 _ _ _ _ (by simp only [xs09.t15,ix_lt,Nat.lt_irrefl,decide_false,cond_false]; exact hx)
 · intro i j r h1 h2 h3 h4 hx
   have hm:=mid_nat i j (by omega)
   have hh:(i+j) / 2<d.length:=by omega
   have hal:m<d.length:=by omega
   have hc:decide (cmpL (d.getD m ([],0)).1 (d.getD ((i+j) / 2) ([],0)).1<0)=false:=by simpa [ltW] using h4
   refine xs09.eq15 _ _ _ _ ?_
   simp only [xs09.t15,ix_lt,dec_t h1,cond_true,hm,ix_nn,ix_nat,dec_t hh,dec_t hal,xi1q_eq _ _ _ _ (hr _ (getD_mem ([],0) hal)) (hr _ (getD_mem ([],0) hh)),Option.bind_some,hc,bang_f,wrap_succ (show (i+j) / 2<9223372036854775807 by omega)]
   exact hx
 · intro i j r h1 h2 h3 h4 hx
   have hm:=mid_nat i j (by omega)
   have hh:(i+j) / 2<d.length:=by omega
   have hal:m<d.length:=by omega
   have hc:decide (cmpL (d.getD m ([],0)).1 (d.getD ((i+j) / 2) ([],0)).1<0)=true:=by simpa [ltW] using h4
   refine xs09.eq15 _ _ _ _ ?_
   simp only [xs09.t15,ix_lt,dec_t h1,cond_true,cond_false,hm,ix_nn,ix_nat,dec_t hh,dec_t hal,xi1q_eq _ _ _ _ (hr _ (getD_mem ([],0) hal)) (hr _ (getD_mem ([],0) hh)),Option.bind_some,hc,bang_t]
   exact hx
 · rintro q ⟨q1, q2, q3, q4, q5⟩
   refine Exists.elim (down_loop (z:=zW) (e:=q) (N:=d.length) (fun d k => xs09.l21 d (q:Int) (k:Int)) some ?_ ?_ _ m d rfl q2 (by omega) rfl) ?_
   · intro d1 r _ hx
     refine xs09.eq21 _ _ _ ?_
     simp only [xs09.t21,gt_dec,Nat.lt_irrefl,decide_false,cond_false]
     exact hx
   · intro d1 k r h1 h1' h2 hx
     have hk:k<d1.length:=by omega
     have hk1:k - 1<d1.length:=by omega
     have hset:∀ x:WRow,decide (k - 1<(d1.set k x).length)=true:=fun x => by rw [List.length_set]; exact dec_t hk1
     refine xs09.eq21 _ _ _ ?_
     simp only [xs09.t21,gt_dec,dec_t h1,cond_true,wrap_pred (show 0<k by omega) (show k<9223372036854775807 by omega),ix_nn,ix_nat,dec_t hk,dec_t hk1,hset]
     exact hx
   · rintro d' ⟨k1, k2, k3⟩
     refine ⟨d',xs09.eq _ _ _ _ ?_,k1.mono q1 (Nat.le_refl _), ?_⟩
     · simp only [xs09.t, one_eq _ _ (show a ≤ m by omega) (show m < 4611686018427387904 by omega), dec_f (show ¬ m - a = 1 by omega), cond_false, one_eq _ _ (show m ≤ m + 1 by omega) (show m + 1 < 4611686018427387904 by omega), dec_t (show m + 1 - m = 1 by omega), cond_true]
       exact q5 _ (k3 d' rfl)
     · refine sort_down (i := q) ltW_asym hs q1 q2 (fun k h1 h2 => by simpa using q3 k h1 h2) (fun k h1 h2 => by simpa using q4 k h1 h2) ?_
       intro k
       exact k2 k
end GoV

/- The library's stable sort of rows with weights: merging in place. -/
namespace GoV
open Go
theorem sym_ok : ∀ (n : Nat) (d : List WRow) (a m b : Nat), b - a = n → a < m → m < b → b ≤ d.length → d.length ≤ 1073741824 → Rows d → SortS zW ltW d a m → SortS zW ltW d m b →
 ∃ d',xs09 d (a:Int) (m:Int) (b:Int)=some d'∧Mv zW d d' a b∧SortS zW ltW d' a b:=by
 intro n
 induction n using Nat.strongRecOn with
 | ind n ih =>
   intro d a m b hn ham hmb hb hl hr h1 h2
   by_cases e1:m=a+1
   · subst e1
     exact sym_left (by omega) hb hl hr h2
   by_cases e2:b=m+1
   · subst e2
     exact sym_right (by omega) hb hl hr h1
   obtain ⟨mid,hmid⟩:∃ mid,mid=(a+b) / 2:=⟨_,rfl⟩
   obtain ⟨s0,hs0⟩:∃ s0,s0=if m > mid then mid+m - b else a:=⟨_,rfl⟩
   obtain ⟨r0,hr0⟩:∃ r0,r0=if m > mid then mid else m:=⟨_,rfl⟩
   have hbd:∀ c,s0≤c→c<r0→(a≤c∧c<m)∧m≤mid+m - 1 - c∧mid+m - 1 - c<b:=by
    intro c g1 g2
    split at hs0 <;> split at hr0 <;> omega
   have hsr:s0≤r0∧r0<1073741824:=by
    split at hs0 <;> split at hr0 <;> omega
   have hmono:∀ h k,s0≤k→k≤h→h<r0→(!ltW (d.getD (mid+m - 1 - h) zW) (d.getD h zW))=true→(!ltW (d.getD (mid+m - 1 - k) zW) (d.getD k zW))=true:=by
    intro h k g1 g2 g3 g4
    have g4':ltW (d.getD (mid+m - 1 - h) zW) (d.getD h zW)=false:=by simpa using g4
    obtain ⟨⟨k1,k2⟩,k3,k4⟩:=hbd k g1 (by omega)
    obtain ⟨⟨k5,k6⟩,k7,k8⟩:=hbd h (by omega) g3
    have:=ltW_ord.tr _ _ _ (ltW_ord.tr _ _ _ (h1.le ltW_ord k1 g2 k6) g4') (h2.le ltW_ord k7 (show mid+m - 1 - h≤mid+m - 1 - k by omega) k4)
    rw [this]; rfl
   refine Exists.elim (bs_loop (p := fun c => !ltW (d.getD (mid + m - 1 - c) zW) (d.getD c zW)) (lo := s0) (hi := r0) hmono
    (fun i j => xs09.l33 d (a:Int) (m:Int) (b:Int) (mid:Int) ((mid+m:Nat):Int) (i:Int) (j:Int) ((mid+m - 1:Nat):Int))
    (fun q => xs09.l33 d (a:Int) (m:Int) (b:Int) (mid:Int) ((mid+m:Nat):Int) (q:Int) (q:Int) ((mid+m - 1:Nat):Int)) (fun i r _ _ h => h) ?_ ?_ _ s0 r0 rfl (Nat.le_refl _) hsr.1 (Nat.le_refl _) (fun k h1 h2 => by omega) (fun k h1 h2 => by omega)) ?_
   · intro i j r g1 g2 g3 g4 hx
     obtain ⟨⟨k1,k2⟩,k3,k4⟩:=hbd ((i+j) / 2) (by omega) (by omega)
     have hm:=mid_nat i j (by omega)
     have hh:(i+j) / 2<d.length:=by omega
     have hal:mid+m - 1 - (i+j) / 2<d.length:=by omega
     have hc:decide (cmpL (d.getD (mid+m - 1 - (i+j) / 2) ([],0)).1 (d.getD ((i+j) / 2) ([],0)).1<0)=false:=by simpa [ltW] using g4
     refine xs09.eq33 _ _ _ _ _ _ _ _ _ ?_
     simp only [xs09.t33,ix_lt,dec_t g1,cond_true,hm,w_sub (show (i+j) / 2≤mid+m - 1 by omega) (show mid+m - 1<4611686018427387904 by omega),ix_nn,ix_nat,dec_t hh,dec_t hal,xi1q_eq _ _ _ _ (hr _ (getD_mem ([],0) hal)) (hr _ (getD_mem ([],0) hh)),Option.bind_some,hc,bang_f,wrap_succ (show (i+j) / 2<9223372036854775807 by omega)]
     exact hx
   · intro i j r g1 g2 g3 g4 hx
     obtain ⟨⟨k1,k2⟩,k3,k4⟩:=hbd ((i+j) / 2) (by omega) (by omega)
     have hm:=mid_nat i j (by omega)
     have hh:(i+j) / 2<d.length:=by omega
     have hal:mid+m - 1 - (i+j) / 2<d.length:=by omega
     have hc:decide (cmpL (d.getD (mid+m - 1 - (i+j) / 2) ([],0)).1 (d.getD ((i+j) / 2) ([],0)).1<0)=true:=by simpa [ltW] using g4
     refine xs09.eq33 _ _ _ _ _ _ _ _ _ ?_
     simp only [xs09.t33,ix_lt,dec_t g1,cond_true,cond_false,hm,w_sub (show (i+j) / 2≤mid+m - 1 by omega) (show mid+m - 1<4611686018427387904 by omega),ix_nn,ix_nat,dec_t hh,dec_t hal,xi1q_eq _ _ _ _ (hr _ (getD_mem ([],0) hal)) (hr _ (getD_mem ([],0) hh)),Option.bind_some,hc,bang_t]
     exact hx
   · rintro s ⟨q1, q2, q3, q4, q5⟩
     obtain ⟨t,ht⟩:∃ t,t=mid+m - s:=⟨_,rfl⟩
     have hst:a≤s∧s≤m∧m≤t∧t≤b∧s≤mid∧mid≤t:=by
       split at hs0 <;> split at hr0 <;> omega
     obtain ⟨b1,b2,b3,b4,b5,b6⟩:=hst
     -- the rotation
     obtain ⟨e,he1,he2,he3,he4⟩:∃ e,Mv zW d e a b∧RotF (fun k => d.getD k zW) (fun k => e.getD k zW) s m t∧(s<m∧m<t→xs0a d (s:Int) (m:Int) (t:Int)=some e)∧(¬ (s<m∧m<t)→e=d):=by
       by_cases c:s<m∧m<t
       · obtain ⟨e, k1, k2, k3⟩ := rotate_ok (d := d) c.1 c.2 (by omega) hl
         exact ⟨e,k2.mono b1 b4,k3,fun _ => k1,fun h => absurd c h⟩
       · exact ⟨d,.refl _ _ _,RotF.none (by omega) b2 b3,fun h => absurd h c,fun _ => rfl⟩
     obtain ⟨_,x1,x2,x3,x4,x5⟩:=sym_halves ltW_ord ltW_asym hmid ham hmb h1 h2 hs0 hr0 q1 q2 ht (fun c g1 g2 => by simpa using q3 c g1 g2) (fun c g1 g2 => by simpa using q4 c g1 g2) he2
     have hel:e.length=d.length:=he1.len
     have her:Rows e:=hr.perm he1.perm
     -- the left half
     obtain ⟨f,hf1,hf2,hf3,hf4⟩:∃ f,Mv zW e f a mid∧SortS zW ltW f a mid∧(a<s∧s<mid→xs09 e (a:Int) (s:Int) (mid:Int)=some f)∧(¬ (a<s∧s<mid)→f=e):=by
       by_cases c:a<s∧s<mid
       · obtain ⟨f, k1, k2, k3⟩ := ih (mid - a) (by omega) e a s mid rfl c.1 c.2 (by omega) (by omega) her x1 x2
         exact ⟨f,k2,k3,fun _ => k1,fun h => absurd c h⟩
       · refine ⟨e, .refl _ _ _, ?_, fun h => absurd h c, fun _ => rfl⟩
         by_cases c2:a=s
         · rw [c2]; exact x2
         · have : s = mid := by omega
           rw [← this]; exact x1
     have hfl:f.length=e.length:=hf1.len
     have hfr:Rows f:=her.perm hf1.perm
     have hout:∀ k,mid≤k→f.getD k zW=e.getD k zW:=fun k hk => hf1.out k (.inr hk)
     have y3:SortS zW ltW f mid t:=x3.congr fun k g _ => hout k g
     have y4:SortS zW ltW f t b:=x4.congr fun k g _ => hout k (by omega)
     -- the right half
     obtain ⟨g,hg1,hg2,hg3,hg4⟩:∃ g,Mv zW f g mid b∧SortS zW ltW g mid b∧(mid<t∧t<b→xs09 f (mid:Int) (t:Int) (b:Int)=some g)∧(¬ (mid<t∧t<b)→g=f):=by
       by_cases c:mid<t∧t<b
       · obtain ⟨g, k1, k2, k3⟩ := ih (b - mid) (by omega) f mid t b rfl c.1 c.2 (by omega) (by omega) hfr y3 y4
         exact ⟨g,k2,k3,fun _ => k1,fun h => absurd c h⟩
       · refine ⟨f, .refl _ _ _, ?_, fun h => absurd h c, fun _ => rfl⟩
         by_cases c2:mid=t
         · rw [c2]; exact y4
         · have : t = b := by omega
           rw [← this]; exact y3
     have hmidb:a<mid∧mid<b:=by omega
     have hfg:Mv zW e g a b:=(hf1.mono (Nat.le_refl _) (by omega)).trans (hg1.mono (by omega) (Nat.le_refl _))
     have hin:∀ k,k<mid→g.getD k zW=f.getD k zW:=fun k hk => hg1.out k (.inl hk)
     refine ⟨g, ?_,he1.trans hfg, ?_⟩
     · refine xs09.eq _ _ _ _ ?_
       have hm:=mid_nat a b (by omega)
       rw [← hmid] at hm
       have hres:xs09.l33 d (a:Int) (m:Int) (b:Int) (mid:Int) ((mid+m:Nat):Int) (s:Int) (s:Int) ((mid+m - 1:Nat):Int)=some g:=by
         refine xs09.eq33 _ _ _ _ _ _ _ _ _ ?_
         have hsub:IntKind.i64.wrap (((mid+m:Nat):Int) - (s:Int))=(t:Int):=by rw [w_sub (by omega) (by omega),ht]
         simp only [xs09.t33,ix_lt,Nat.lt_irrefl,decide_false,cond_false,hsub]
         by_cases c1:s<m∧m<t
         · have z1 := he3 c1
           simp only [dec_t c1.1,dec_t c1.2,cond_true,z1,Option.bind_some]
           by_cases c2:a<s∧s<mid
           · have z2 := hf3 c2
             simp only [dec_t c2.1,dec_t c2.2,cond_true,z2,Option.bind_some]
             by_cases c3:mid<t∧t<b
             · simp only [dec_t c3.1,dec_t c3.2,cond_true,hg3 c3,Option.bind_some]
             · rw [hg4 c3]
               by_cases c4:mid<t
               · simp only [dec_t c4,dec_f (show ¬ t<b from fun h => c3 ⟨c4,h⟩),cond_true,cond_false]
               · simp only [dec_f c4,cond_false]
           · have z2 := hf4 c2
             subst z2
             by_cases c5:a<s
             · simp only [dec_t c5, dec_f (show ¬ s < mid from fun h => c2 ⟨c5, h⟩), cond_true, cond_false]
               by_cases c3:mid<t∧t<b
               · simp only [dec_t c3.1,dec_t c3.2,cond_true,hg3 c3,Option.bind_some]
               · rw [hg4 c3]
                 by_cases c4:mid<t
                 · simp only [dec_t c4,dec_f (show ¬ t<b from fun h => c3 ⟨c4,h⟩),cond_true,cond_false]
                 · simp only [dec_f c4,cond_false]
             · simp only [dec_f c5, cond_false]
               by_cases c3:mid<t∧t<b
               · simp only [dec_t c3.1,dec_t c3.2,cond_true,hg3 c3,Option.bind_some]
               · rw [hg4 c3]
                 by_cases c4:mid<t
                 · simp only [dec_t c4,dec_f (show ¬ t<b from fun h => c3 ⟨c4,h⟩),cond_true,cond_false]
                 · simp only [dec_f c4,cond_false]
         · have z1 := he4 c1
           subst z1
           have hno:(decide (s<m) && decide (m<t))=false:=by
            by_cases c6:s<m
            · rw [dec_f (show ¬ m<t from fun h => c1 ⟨c6,h⟩),Bool.and_false]
            · rw [dec_f c6,Bool.false_and]
           by_cases c6:s<m
           · simp only [dec_t c6, dec_f (show ¬ m < t from fun h => c1 ⟨c6, h⟩), cond_true, cond_false]
             by_cases c2:a<s∧s<mid
             · have z2 := hf3 c2
               simp only [dec_t c2.1,dec_t c2.2,cond_true,z2,Option.bind_some]
               by_cases c3:mid<t∧t<b
               · simp only [dec_t c3.1,dec_t c3.2,cond_true,hg3 c3,Option.bind_some]
               · rw [hg4 c3]
                 by_cases c4:mid<t
                 · simp only [dec_t c4,dec_f (show ¬ t<b from fun h => c3 ⟨c4,h⟩),cond_true,cond_false]
                 · simp only [dec_f c4,cond_false]
             · have z2 := hf4 c2
               subst z2
               by_cases c5:a<s
               · simp only [dec_t c5, dec_f (show ¬ s < mid from fun h => c2 ⟨c5, h⟩), cond_true, cond_false]
                 by_cases c3:mid<t∧t<b
                 · simp only [dec_t c3.1,dec_t c3.2,cond_true,hg3 c3,Option.bind_some]
                 · rw [hg4 c3]
                   by_cases c4:mid<t
                   · simp only [dec_t c4,dec_f (show ¬ t<b from fun h => c3 ⟨c4,h⟩),cond_true,cond_false]
                   · simp only [dec_f c4,cond_false]
               · simp only [dec_f c5, cond_false]
                 by_cases c3:mid<t∧t<b
                 · simp only [dec_t c3.1,dec_t c3.2,cond_true,hg3 c3,Option.bind_some]
                 · rw [hg4 c3]
                   by_cases c4:mid<t
                   · simp only [dec_t c4,dec_f (show ¬ t<b from fun h => c3 ⟨c4,h⟩),cond_true,cond_false]
                   · simp only [dec_f c4,cond_false]
           · simp only [dec_f c6, cond_false]
             by_cases c2:a<s∧s<mid
             · have z2 := hf3 c2
               simp only [dec_t c2.1,dec_t c2.2,cond_true,z2,Option.bind_some]
               by_cases c3:mid<t∧t<b
               · simp only [dec_t c3.1,dec_t c3.2,cond_true,hg3 c3,Option.bind_some]
               · rw [hg4 c3]
                 by_cases c4:mid<t
                 · simp only [dec_t c4,dec_f (show ¬ t<b from fun h => c3 ⟨c4,h⟩),cond_true,cond_false]
                 · simp only [dec_f c4,cond_false]
             · have z2 := hf4 c2
               subst z2
               by_cases c5:a<s
               · simp only [dec_t c5, dec_f (show ¬ s < mid from fun h => c2 ⟨c5, h⟩), cond_true, cond_false]
                 by_cases c3:mid<t∧t<b
                 · simp only [dec_t c3.1,dec_t c3.2,cond_true,hg3 c3,Option.bind_some]
                 · rw [hg4 c3]
                   by_cases c4:mid<t
                   · simp only [dec_t c4,dec_f (show ¬ t<b from fun h => c3 ⟨c4,h⟩),cond_true,cond_false]
                   · simp only [dec_f c4,cond_false]
               · simp only [dec_f c5, cond_false]
                 by_cases c3:mid<t∧t<b
                 · simp only [dec_t c3.1,dec_t c3.2,cond_true,hg3 c3,Option.bind_some]
                 · rw [hg4 c3]
                   by_cases c4:mid<t
                   · simp only [dec_t c4,dec_f (show ¬ t<b from fun h => c3 ⟨c4,h⟩),cond_true,cond_false]
                   · simp only [dec_f c4,cond_false]
       have hq:=q5 _ hres
       have hn:IntKind.i64.wrap ((mid:Int)+(m:Int))=((mid+m:Nat):Int):=w_add (by omega)
       have hp:IntKind.i64.wrap (((mid+m:Nat):Int) - (1:Int))=((mid+m - 1:Nat):Int):=wrap_pred (by omega) (by omega)
       simp only [xs09.t,one_eq _ _ (show a≤m by omega) (show m<4611686018427387904 by omega),dec_f (show ¬ m - a=1 by omega),cond_false,one_eq _ _ (show m≤b by omega) (show b<4611686018427387904 by omega),dec_f (show ¬ b - m=1 by omega),hm,hn,hp,gt_dec]
       by_cases c:m > mid
       · rw [if_pos c] at hs0 hr0
         have hs:IntKind.i64.wrap (((mid+m:Nat):Int) - (b:Int))=(s0:Int):=by rw [w_sub (by omega) (by omega),hs0]
         simp only [dec_t (show mid<m from c),cond_true,hs]
         rw [hr0] at hq
         exact hq
       · rw [if_neg c] at hs0 hr0
         simp only [dec_f (show ¬ mid<m from c),cond_false]
         rw [hs0,hr0] at hq
         exact hq
     · refine sym_join (mid := mid) hfg (fun k g1 g2 => ?_) (fun k g1 g2 => ?_) (hf2.congr fun k _ g2 => hin k g2) hg2 x5
       · obtain ⟨j, k1, k2, k3⟩ := hf1.from' k g1 g2
         exact ⟨j,k1,k2,by rw [hin k g2]; exact k3⟩
       · obtain ⟨j, k1, k2, k3⟩ := hg1.from' k g1 g2
         exact ⟨j,k1,k2,by rw [k3]; exact hout j k1⟩
end GoV

/- The library's stable sort of rows with weights: blocks sorted, then merged. -/
namespace GoV
open Go
/-- The first A blocks of s are sorted, each in itself. -/
def LoB (d:List WRow) (s A n:Nat):Prop:=∀ q,q<A→q * s<n→SortS zW ltW d (q * s) (min (q * s+s) n)
/-- The blocks from the A-th on. -/
def HiB (d:List WRow) (s A n:Nat):Prop:=∀ q,A≤q→q * s<n→SortS zW ltW d (q * s) (min (q * s+s) n)
theorem mul_le_of_lt {q A s:Nat} (h:q<A):q * s+s≤A * s:=by
 have:=Nat.mul_le_mul_right s (show q+1≤A by omega)
 rwa [Nat.succ_mul] at this
theorem LoB.keep {d d':List WRow} {s A n a b:Nat} (h:LoB d s A n) (hm:Mv zW d d' a b) (ha:A * s≤a):LoB d' s A n:=fun q h1 h2 =>
 (h q h1 h2).congr fun k _ g2 => hm.out k (.inl (by have:=mul_le_of_lt (s:=s) h1; omega))
theorem HiB.keep {d d':List WRow} {s A n a b:Nat} (h:HiB d s A n) (hm:Mv zW d d' a b) (hb:b≤A * s):HiB d' s A n:=fun q h1 h2 =>
 (h q h1 h2).congr fun k g1 _ => hm.out k (.inr (by have:=Nat.mul_le_mul_right s h1; omega))
theorem blocks_ok {n : Nat} {β : Type} (L : List WRow → Nat → Option β) (K : List WRow → Option β) (hn : n ≤ 1073741824)
 (hs:∀ d d' A r,d.length=n→Rows d→A * 20+20≤n→xs04 d ((A * 20:Nat):Int) ((A * 20+20:Nat):Int)=some d'→L d' (A+1)=some r→L d A=some r)
 (he:∀ d d' A r,d.length=n→Rows d→A * 20≤n→n<A * 20+20→xs04 d ((A * 20:Nat):Int) (n:Int)=some d'→K d'=some r→L d A=some r) :
 ∀ m A d,n - A * 20=m→A * 20≤n→d.length=n→Rows d→LoB d 20 A n→∃ d' B,Mv zW d d' 0 n∧LoB d' 20 B n∧n<B * 20∧∀ r,K d'=some r→L d A=some r:=by
 intro m
 induction m using Nat.strongRecOn with
 | ind m ih =>
   intro A d hm hA hd hr hlo
   by_cases c:A * 20+20≤n
   · obtain ⟨d1, k1, k2, k3⟩ := ins_ok (d := d) (a := A * 20) (b := A * 20 + 20) (by omega) (by omega) hr (by omega)
     have hlo1:LoB d1 20 (A+1) n:=by
       intro q h1 h2
       by_cases e:q<A
       · exact (hlo.keep k2 (Nat.le_refl _)) q e h2
       · obtain rfl : q = A := by omega
         rw [Nat.min_eq_left c]
         exact k3
     obtain ⟨d',B,g1,g2,g3,g4⟩:=ih (n - (A+1) * 20) (by omega) (A+1) d1 rfl (by omega) (k2.len.trans hd) (hr.perm k2.perm) hlo1
     exact ⟨d',B,(k2.mono (by omega) c).trans g1,g2,g3,fun r hr' => hs d d1 A r hd hr c k1 (g4 r hr')⟩
   · obtain ⟨d1, k1, k2, k3⟩ := ins_ok (d := d) (a := A * 20) (b := n) (by omega) (by omega) hr (by omega)
     refine ⟨d1,A+1,k2.mono (by omega) (Nat.le_refl _), ?_,by omega,fun r hr' => he d d1 A r hd hr hA (by omega) k1 hr'⟩
     intro q h1 h2
     by_cases e:q<A
     · exact (hlo.keep k2 (Nat.le_refl _)) q e h2
     · obtain rfl : q = A := by omega
       rw [Nat.min_eq_right (by omega)]
       exact k3
theorem twice (A s:Nat):2 * A * s=A * (2 * s):=by rw [Nat.mul_comm 2 A,Nat.mul_assoc]
theorem twice1 (A s:Nat):(2 * A+1) * s=A * (2 * s)+s:=by rw [Nat.succ_mul,twice]
theorem twice2 (A s:Nat):2 * (A+1) * s=A * (2 * s)+2 * s:=by rw [twice,Nat.succ_mul]
theorem merges_ok {n s : Nat} {β : Type} (hs0 : 0 < s) (L : List WRow → Nat → Option β) (K : List WRow → Option β) (hn : n ≤ 1073741824)
 (hs:∀ d d' A r,d.length=n→Rows d→A * (2 * s)+2 * s≤n→xs09 d ((A * (2 * s):Nat):Int) ((A * (2 * s)+s:Nat):Int) ((A * (2 * s)+2 * s:Nat):Int)=some d'→L d' (A+1)=some r→L d A=some r)
 (he1:∀ d d' A r,d.length=n→Rows d→n<A * (2 * s)+2 * s→A * (2 * s)+s<n→xs09 d ((A * (2 * s):Nat):Int) ((A * (2 * s)+s:Nat):Int) (n:Int)=some d'→K d'=some r→L d A=some r)
 (he2:∀ d A r,d.length=n→Rows d→A * (2 * s)≤n→n≤A * (2 * s)+s→K d=some r→L d A=some r) :
 ∀ m A d,n - A * (2 * s)=m→A * (2 * s)≤n→d.length=n→Rows d→LoB d (2 * s) A n→HiB d s (2 * A) n→∃ d',Mv zW d d' 0 n∧HiB d' (2 * s) 0 n∧∀ r,K d'=some r→L d A=some r:=by
 intro m
 induction m using Nat.strongRecOn with
 | ind m ih =>
   intro A d hm hA hd hr hlo hhi
   have hfin:∀ d':List WRow,LoB d' (2 * s) (A+1) n→n≤A * (2 * s)+2 * s→HiB d' (2 * s) 0 n:=by
    intro d' h hle q _ h2
    refine h q ?_ h2
    rcases Nat.lt_or_ge q (A+1) with g | g
    · exact g
    · have := Nat.mul_le_mul_right (2 * s) g
      rw [Nat.succ_mul] at this
      omega
   have h1:A * (2 * s)<n→SortS zW ltW d (A * (2 * s)) (min (A * (2 * s)+s) n):=fun h => by
    have:=hhi (2 * A) (Nat.le_refl _) (by rw [twice]; exact h)
    rwa [twice] at this
   have h2:A * (2 * s)+s<n→SortS zW ltW d (A * (2 * s)+s) (min (A * (2 * s)+2 * s) n):=fun h => by
    have:=hhi (2 * A+1) (by omega) (by rw [twice1]; exact h)
    rw [twice1] at this
    rwa [show A * (2 * s)+s+s=A * (2 * s)+2 * s by omega] at this
   by_cases c:A * (2 * s)+2 * s≤n
   · have g1 := h1 (by omega)
     have g2:=h2 (by omega)
     rw [Nat.min_eq_left (by omega)] at g1 g2
     obtain ⟨d1,k1,k2,k3⟩:=sym_ok _ d (A * (2 * s)) (A * (2 * s)+s) (A * (2 * s)+2 * s) rfl (by omega) (by omega) (by omega) (by omega) hr g1 g2
     have hlo1:LoB d1 (2 * s) (A+1) n:=by
       intro q h1 h2
       by_cases e:q<A
       · exact (hlo.keep k2 (Nat.le_refl _)) q e h2
       · obtain rfl : q = A := by omega
         rw [Nat.min_eq_left c]
         exact k3
     have hhi1:HiB d1 s (2 * (A+1)) n:=HiB.keep (A:=2 * (A+1)) (fun q h1 h2 => hhi q (by omega) h2) k2 (by rw [twice2]; exact Nat.le_refl _)
     obtain ⟨d',g3,g4,g5⟩:=ih (n - (A+1) * (2 * s)) (by rw [Nat.succ_mul]; omega) (A+1) d1 rfl (by rw [Nat.succ_mul]; exact c) (k2.len.trans hd) (hr.perm k2.perm) hlo1 hhi1
     exact ⟨d',(k2.mono (by omega) c).trans g3,g4,fun r hr' => hs d d1 A r hd hr c k1 (g5 r hr')⟩
   · by_cases c2 : A * (2 * s) + s < n
     · have g1 := h1 (by omega)
       have g2:=h2 c2
       rw [Nat.min_eq_left (by omega)] at g1
       rw [Nat.min_eq_right (by omega)] at g2
       obtain ⟨d1,k1,k2,k3⟩:=sym_ok _ d (A * (2 * s)) (A * (2 * s)+s) n rfl (by omega) (by omega) (by omega) (by omega) hr g1 g2
       refine ⟨d1,k2.mono (by omega) (Nat.le_refl _),hfin d1 ?_ (by omega),fun r hr' => he1 d d1 A r hd hr (by omega) c2 k1 hr'⟩
       intro q h1 h2
       by_cases e:q<A
       · exact (hlo.keep k2 (Nat.le_refl _)) q e h2
       · obtain rfl : q = A := by omega
         rw [Nat.min_eq_right (by omega)]
         exact k3
     · refine ⟨d, .refl _ _ _, hfin d ?_ (by omega), fun r hr' => he2 d A r hd hr hA (by omega) hr'⟩
       intro q g1 g2
       by_cases e:q<A
       · exact hlo q e g2
       · obtain rfl : q = A := by omega
         have:=h1 g2
         rw [Nat.min_eq_right (by omega)] at this ⊢
         exact this
end GoV

/- The library's stable sort of rows with weights. -/
namespace GoV
open Go
theorem double_ok {n : Nat} (hn : n ≤ 1073741824) : ∀ (m s : Nat) (d : List WRow), n - s = m → 0 < s → s ≤ 2147483648 → d.length = n → Rows d → HiB d s 0 n →
 ∃ d',xs0b.l7 d (n:Int) (s:Int)=some d'∧Mv zW d d' 0 n∧SortS zW ltW d' 0 n:=by
 intro m
 induction m using Nat.strongRecOn with
 | ind m ih =>
   intro s d hm hs0 hs hd hr hB
   by_cases c:s<n
   · have hd2 : IntKind.i64.wrap ((2 : Int) * (s : Int)) = ((2 * s : Nat) : Int) := by rw [wrap_id] <;> omega
     have hd3:IntKind.i64.wrap ((s:Int) * (2:Int))=((2 * s:Nat):Int):=by rw [wrap_id] <;> omega
     refine Exists.elim (merges_ok (n:=n) (s:=s) hs0 (fun d A => xs0b.l9 d (n:Int) (s:Int) ((A * (2 * s):Nat):Int) ((A * (2 * s)+2 * s:Nat):Int)) (fun d => xs0b.l7 d (n:Int) ((2 * s:Nat):Int)) hn ?_ ?_ ?_ _ 0 d rfl (by omega) hd hr (fun q h => by omega) hB) ?_
     · intro d1 d2 A r h1 h2 h3 h4 hx
       refine xs0b.eq9 _ _ _ _ _ ?_
       have hle:((A * (2 * s)+2 * s:Nat):Int)≤(n:Int):=by omega
       simp only [xs0b.t9,dec_t hle,cond_true,w_add (show A * (2 * s)+s<4611686018427387904 by omega),h4,Option.bind_some,hd2,w_add (show A * (2 * s)+2 * s+2 * s<4611686018427387904 by omega)]
       rw [Nat.succ_mul] at hx
       exact hx
     · intro d1 d2 A r h1 h2 h3 h3' h4 hx
       refine xs0b.eq9 _ _ _ _ _ ?_
       have hle:¬ ((A * (2 * s)+2 * s:Nat):Int)≤(n:Int):=by omega
       simp only [xs0b.t9,dec_f hle,cond_false,w_add (show A * (2 * s)+s<4611686018427387904 by omega),ix_lt,dec_t h3',cond_true,h4,Option.bind_some,hd3]
       exact hx
     · intro d1 A r h1 h2 h3 h3' hx
       refine xs0b.eq9 _ _ _ _ _ ?_
       have hle:¬ ((A * (2 * s)+2 * s:Nat):Int)≤(n:Int):=by omega
       simp only [xs0b.t9,dec_f hle,cond_false,w_add (show A * (2 * s)+s<4611686018427387904 by omega),ix_lt,dec_f (show ¬ A * (2 * s)+s<n by omega),hd3]
       exact hx
     · rintro d1 ⟨k1, k2, k3⟩
       obtain ⟨d',g1,g2,g3⟩:=ih (n - 2 * s) (by omega) (2 * s) d1 rfl (by omega) (by omega) (k1.len.trans hd) (hr.perm k1.perm) k2
       refine ⟨d',xs0b.eq7 _ _ _ ?_,k1.trans g2,g3⟩
       have:=k3 d' g1
       simp only [Nat.zero_mul,Nat.zero_add] at this
       simp only [xs0b.t7,ix_lt,dec_t c,cond_true,hd2]
       exact this
   · refine ⟨d, xs0b.eq7 _ _ _ ?_, .refl _ _ _, ?_⟩
     · simp only [xs0b.t7,ix_lt,dec_f c,cond_false]
     · intro i j h1 h2 h3
       have:=hB 0 (Nat.le_refl _) (by omega)
       rw [Nat.zero_mul,Nat.zero_add,Nat.min_eq_right (by omega)] at this
       exact this i j h1 h2 h3
theorem sort_ok {d : List WRow} (hl : d.length ≤ 1073741824) (hr : Rows d) :
 ∃ d',xs02 d=some d'∧d'.Perm d∧SortS zW ltW d' 0 d'.length:=by
 refine Exists.elim (blocks_ok (n:=d.length) (fun d1 A => xs0b.l2 d1 (d.length:Int) 20 ((A * 20:Nat):Int) ((A * 20+20:Nat):Int)) (fun d1 => xs0b.l7 d1 (d.length:Int) 20) hl ?_ ?_ _ 0 d rfl (by omega) rfl hr (fun q h => by omega)) ?_
 · intro d1 d2 A r h1 h2 h3 h4 hx
   refine xs0b.eq2 _ _ _ _ _ ?_
   have hle:((A * 20+20:Nat):Int)≤(d.length:Int):=by omega
   have hw:IntKind.i64.wrap (((A * 20+20:Nat):Int)+(20:Int))=(((A+1) * 20+20:Nat):Int):=by rw [wrap_id] <;> omega
   have e:(A+1) * 20=A * 20+20:=by omega
   simp only [xs0b.t2,dec_t hle,cond_true,h4,Option.bind_some,hw]
   rw [← e]
   exact hx
 · intro d1 d2 A r h1 h2 h3 h3' h4 hx
   refine xs0b.eq2 _ _ _ _ _ ?_
   have hle:¬ ((A * 20+20:Nat):Int)≤(d.length:Int):=by omega
   simp only [xs0b.t2,dec_f hle,cond_false,h4,Option.bind_some]
   exact hx
 · rintro d1 ⟨B, k1, k2, k3, k4⟩
   have hB:HiB d1 20 0 d.length:=fun q _ h2 => k2 q (by omega) h2
   obtain ⟨d',g1,g2,g3⟩:=double_ok hl _ 20 d1 rfl (by omega) (by omega) k1.len (hr.perm k1.perm) hB
   have hm:=k1.trans g2
   refine ⟨d',xs02.eq _ ?_,hm.perm,by rw [hm.len]; exact g3⟩
   have h2:=k4 d' g1
   have h3:=xs0b.eq d (d.length:Int) (b:=d') (by simp only [xs0b.t]; exact h2)
   simp only [xs02.t,h3,Option.bind_some]
end GoV

/- A table handed on if it is good. -/
namespace GoV
open Go
theorem xi0u_eq (c:Int) (l:List WRow) (hl:l.length≤1073741824) (hr:∀ w,w∈l→w.1.length≤1073741824):xi0u c l=some (bif goodT c l then (c,l,true) else (0,[],false)):=by
 refine xi0u.eq c l ?_
 simp only [xi0u.t,xi1d_eq hl hr,Option.bind_some]
 cases goodT c l <;> rfl
end GoV

/- Lists of rows summed: what the program's 'summed' gives. -/
namespace GoV
open Go
theorem xi2f_eq {c M : Int} {ls : List (List WRow)} {a b : List WRow} (he : ls.flatten = a ++ b) (hn : ls.length ≤ 1073741824) (hl : ls.flatten.length ≤ 1073741824) (hr : Rows ls.flatten) (hM : 0 ≤ M) (hw : ∀ w, w ∈ ls.flatten → -M ≤ w.2 ∧ w.2 ≤ M) (hbig : M * (ls.flatten.length : Int) ≤ 9223372036854775807)
 (h1:sortedW a) (h2:nzW a):xi2f c ls=some (c,putsL a b):=by
 have e1:=slices_Concat_W_eq ls hl hn
 obtain ⟨d,e2,hp,hs⟩:=sort_ok (d:=ls.flatten) hl hr
 have hlen:d.length=ls.flatten.length:=hp.length_eq
 have e3:=(groups_ok (d:=d) (c:=c) (M:=M) (by omega) (hr.perm hp) hM (fun w hw' => hw w (hp.mem_iff.1 hw')) (by rw [hlen]; exact hbig) 0 (Nat.zero_le _)).1 [] (by simp)
 rw [List.drop_zero,List.nil_append,group_puts (by rw [← he]; exact hp) hs h1 h2] at e3
 refine xi2f.eq c ls ?_
 simp only [xi2f.t,e1,e2,Option.bind_some]
 exact e3
end GoV

/- Tables that are good, with as many columns. -/
namespace GoV
open Go
end GoV

/- Some cells of a row; numbers of columns. -/
namespace GoV
open Go
def pickR (r cs:List Int):List Int:=cs.map fun k => r.getD k.toNat 0
def pickG (r:List Int) (k:Int):List Int:=[r.getD k.toNat 0]
theorem pickG_map (r : List Int) : ∀ cs : List Int, cs.flatMap (pickG r) = pickR r cs
 | [] => rfl
 | k::cs => by rw [List.flatMap_cons,pickG_map r cs]; rfl
theorem pickR_len (r cs:List Int):(pickR r cs).length=cs.length:=by simp [pickR]
theorem xi16_eq {r cs:List Int} (hl:cs.length≤1073741824) (h:∀ k,k∈cs→0≤k∧k.toNat<r.length):xi16 r cs=some (pickR r cs):=by
 refine xi16.eq r cs ?_
 simp only [xi16.t]
 rw [← pickG_map]
 refine push_loop cs 0 (fun acc i => xi16.l3 r [] acc cs (cs.length:Int) (i:Int)) (pickG r) (fun _ => Nat.le_refl _) some ?_ ?_ _ rfl
 · intro acc b _ hb
   exact xi16.eq3 _ _ _ _ _ _ (by simp only [xi16.t3,ix_lt,Nat.lt_irrefl,decide_false,cond_false]; exact hb)
 · intro acc i b hi ha hb
   obtain ⟨h1,h2⟩:=h _ (getD_mem 0 hi)
   refine xi16.eq3 _ _ _ _ _ _ ?_
   have h3:acc.length+[r.getD (cs.getD i 0).toNat 0].length≤4294967296:=by simp only [List.length_cons,List.length_nil]; omega
   simp only [xi16.t3,ix_lt,ix_nn,ix_nat,dec_t hi,dec_t h1,dec_t h2,dec_t h3,cond_true,wrap_succ (show i<9223372036854775807 by omega)]
   exact hb
def plB (n k:Int):Bool:=decide (0≤k) && decide (k<n)
theorem plB_iff {n k:Int}:plB n k=true↔0≤k∧k<n:=by simp [plB]
def colsB (n:Int) (cs:List Int):Bool:=cs.all (plB n) && decide (cs.length≤6)
theorem PutOK.nil:PutOK 0 0 []:=⟨Nat.le_refl _,fun _ h => (by cases h),fun _ h => (by cases h)⟩
/-- Rows summed, none ahead. -/
theorem impl_summed_one {c M:Int} {b:List WRow} (hl:b.length≤1073741824) (hr:Rows b) (hM:0≤M) (hw:∀ w,w∈b→-M≤w.2∧w.2≤M) (hbig:M * (b.length:Int)≤9223372036854775807):xi2f c [b]=some (c,putsL [] b):=by
 have e:[b].flatten=[] ++ b:=by simp
 have e':[b].flatten=b:=by simp
 exact xi2f_eq (M:=M) e (by simp) (by rw [e']; exact hl) (by rw [e']; exact hr) hM (by rw [e']; exact hw) (by rw [e']; exact hbig) .nil (fun _ h => (by cases h))
end GoV

/- Pairs of columns; rows joined: alike for the program and its specification. -/
namespace GoV
open Go
theorem toNat0:Int.toNat (0:Int)=0:=rfl
theorem toNat1:Int.toNat (1:Int)=1:=rfl
def pairB (a b:Int) (p:List Int):Bool:=((p.length:Int) == 2) && (plB a (p.getD 0 0) && plB b (p.getD 1 0))
def pairsB (a b:Int) (ps:List (List Int)):Bool:=ps.all (pairB a b) && decide (ps.length≤6)
theorem pairB_iff {a b:Int} {p:List Int}:pairB a b p=true↔p.length=2∧(0≤p.getD 0 0∧p.getD 0 0<a)∧0≤p.getD 1 0∧p.getD 1 0<b:=by
 simp only [pairB,Bool.and_eq_true,plB_iff,beq_iff_eq]
 constructor
 · intro h; exact ⟨by omega,h.2⟩
 · intro h; exact ⟨by omega,h.2⟩
/-! ## Columns that are in no pair -/
def isP (k:Int) (p:List Int):Bool:=p.getD 1 0 == k
def unpG (ps:List (List Int)) (k:Nat):List Int:=bif ps.any (isP (k:Int)) then [] else [(k:Int)]
def unpL (n:Nat) (ps:List (List Int)):List Int:=(List.range n).flatMap (unpG ps)
theorem unpG_len (ps:List (List Int)) (k:Nat):(unpG ps k).length≤1:=by
 unfold unpG
 cases ps.any (isP (k:Int)) <;> simp
theorem unpL_len (n:Nat) (ps:List (List Int)):(unpL n ps).length≤n:=by
 have:=flatMap_len (unpG_len ps) (List.range n)
 rwa [List.length_range] at this
theorem unpL_mem {n:Nat} {ps:List (List Int)} {k:Int} (h:k∈unpL n ps):0≤k∧k.toNat<n:=by
 obtain ⟨j,hj,hk⟩:=List.mem_flatMap.1 h
 rw [List.mem_range] at hj
 simp only [unpG] at hk
 cases ha:ps.any (isP (j:Int)) with
 | true => rw [ha] at hk; cases hk
 | false =>
   rw [ha,cond_false,List.mem_singleton] at hk
   omega
theorem range_getD {n i:Nat} (h:i<n):(List.range n).getD i 0=i:=by rw [getD_of_lt (by simpa using h)]; simp
section
variable {ps:List (List Int)} (hl:ps.length≤1073741824) (hp:∀ p,p∈ps→1<p.length)
include hl hp
theorem xi1r_eq (n:Nat) (hn:n≤1073741824):xi1r (n:Int) ps=some (unpL n ps):=by
 refine xi1r.eq _ _ ?_
 simp only [xi1r.t]
 have hc:∀ k:Int,xs0c ps k=some (ps.any (isP k)):=fun k => xs0c_ok ps k (isP k) (by omega) (fun p h => xi18.eq _ _ (by simp only [xi18.t,toNat1,dec_t (hp p h),cond_true]; rfl))
 refine push_loop (List.range n) 0 (fun acc i => xi1r.l3 ps acc (n:Int) (i:Int)) (unpG ps) (unpG_len ps) some ?_ ?_ _ rfl
 · intro acc b _ hb
   rw [List.length_range]
   exact xi1r.eq3 _ _ _ _ (by simp only [xi1r.t3,ix_lt,Nat.lt_irrefl,decide_false,cond_false]; exact hb)
 · intro acc i b hi ha hb
   rw [List.length_range] at hi
   rw [range_getD hi] at hb
   refine xi1r.eq3 _ _ _ _ ?_
   simp only [xi1r.t3,ix_lt,dec_t hi,cond_true,hc,Option.bind_some,wrap_succ (show i<9223372036854775807 by omega)]
   simp only [unpG] at hb
   cases h:ps.any (isP (i:Int)) with
   | true =>
     rw [h,cond_true,List.append_nil] at hb
     exact hb
   | false =>
     rw [h,cond_false] at hb
     have h2:acc.length+[(i:Int)].length≤4294967296:=by simp only [List.length_cons,List.length_nil]; omega
     simp only [bang_f,cond_true,dec_t h2]
     exact hb
end
/-! ## Rows joined -/
def eqP (a b:List Int) (p:List Int):Bool:=a.getD (p.getD 0 0).toNat 0 == b.getD (p.getD 1 0).toNat 0
def joinR (a b:List Int) (ps:List (List Int)):List Int:=a ++ pickR b (unpL b.length ps)
theorem joinR_len (a b:List Int) (ps:List (List Int)):(joinR a b ps).length=a.length+(unpL b.length ps).length:=by rw [joinR,List.length_append,pickR_len]
section
variable {a b : List Int} {ps : List (List Int)} (hl : ps.length ≤ 1073741824) (hal : a.length ≤ 536870912) (hbl : b.length ≤ 536870912)
 (hp:∀ p,p∈ps→p.length=2∧(0≤p.getD 0 0∧(p.getD 0 0).toNat<a.length)∧0≤p.getD 1 0∧(p.getD 1 0).toNat<b.length)
include hl hal hbl hp
theorem xi2e_eq:xi2e a b ps=some (bif ps.all (eqP a b) then (joinR a b ps,true) else ([],false)):=by
 have e1:=xi0k_ok ps a b (eqP a b) (by omega) (fun p hp' => by
  obtain ⟨g0,⟨g1,g2⟩,g3,g4⟩:=hp p hp'
  have h2:0<p.length:=by omega
  have h3:1<p.length:=by omega
  exact xi1p.eq _ _ _ (by simp only [xi1p.t,toNat0,toNat1,dec_t h2,dec_t h3,dec_t g1,dec_t g2,dec_t g3,dec_t g4,cond_true,eqP]))
 have e2:=xi1r_eq hl (fun p h => by have:=(hp p h).1; omega) b.length (by omega)
 have hu:=unpL_len b.length ps
 have e3:=xi16_eq (r:=b) (cs:=unpL b.length ps) (by omega) (fun k hk => unpL_mem hk)
 have e4:=slices_Concat_int_eq [a,pickR b (unpL b.length ps)] (by simp only [List.flatten_cons,List.flatten_nil,List.append_nil,List.length_append,pickR_len]; omega) (by simp)
 have e5:[a,pickR b (unpL b.length ps)].flatten=joinR a b ps:=by simp [joinR]
 rw [e5] at e4
 refine xi2e.eq a b ps ?_
 simp only [xi2e.t,e1,Option.bind_some]
 cases ps.all (eqP a b)
 · rfl
 · simp only [bang_t,cond_false,e2,e3,e4,Option.bind_some,cond_true]
end
end GoV

/- Rows told column by column: what fits, and what a join makes of it (plain side of JoinParts). -/
namespace GoV
open Go
def cellE (a w:List Int) (k:Nat):Int:=if (k:Int)∈a then w.getD (a.idxOf (k:Int)) 0 else 100001
def rowE (c:Nat) (a w:List Int):List Int:=(List.range c).map (cellE a w)
theorem rowE_len (c:Nat) (a w:List Int):(rowE c a w).length=c:=by simp [rowE]
theorem rowE_getD {c k:Nat} (a w:List Int) (h:k<c):(rowE c a w).getD k 0=cellE a w k:=by
 rw [getD_of_lt (by rw [rowE_len]; exact h)]
 simp [rowE]
def fitL : List Int → List (Int × Int) → Option (List Int)
 | r,[] => some r
 | r,x::q => if r.getD x.1.toNat 0≠100001∧r.getD x.1.toNat 0≠x.2 then none else fitL (r.set x.1.toNat x.2) q
def setsL (r:List Int) (q:List (Int × Int)):List Int:=q.foldl (fun r x => r.set x.1.toNat x.2) r
def okF (r:List Int) (x:Int × Int):Bool:=r.getD x.1.toNat 0 == 100001 || r.getD x.1.toNat 0 == x.2
theorem getD_set_ne {l:List Int} {i k:Nat} {x:Int} (h:i≠k):(l.set i x).getD k 0=l.getD k 0:=by
 rw [List.getD_eq_getElem?_getD,List.getD_eq_getElem?_getD,List.getElem?_set_ne h]
theorem fitL_eq : ∀ (q : List (Int × Int)) (r : List Int), (∀ x, x ∈ q → 0 ≤ x.1) → (q.map Prod.fst).Nodup → fitL r q = bif q.all (okF r) then some (setsL r q) else none
 | [],r,_,_ => rfl
 | x::q,r,h0,hn => by
   rw [List.map_cons,List.nodup_cons] at hn
   have h1:∀ y,y∈q→okF (r.set x.1.toNat x.2) y=okF r y:=fun y hy => by
     have hne:x.1.toNat≠y.1.toNat:=fun e => hn.1 (List.mem_map.2 ⟨y,hy,by have:=h0 x (by simp); have:=h0 y (by simp [hy]); omega⟩)
     simp only [okF,getD_set_ne hne]
   have h2:q.all (okF (r.set x.1.toNat x.2))=q.all (okF r):=by
     rw [Bool.eq_iff_iff,List.all_eq_true,List.all_eq_true]
     exact ⟨fun h y hy => by rw [← h1 y hy]; exact h y hy,fun h y hy => by rw [h1 y hy]; exact h y hy⟩
   rw [fitL,List.all_cons]
   by_cases c:r.getD x.1.toNat 0≠100001∧r.getD x.1.toNat 0≠x.2
   · have : okF r x = false := by simp only [okF, Bool.or_eq_false_iff, beq_eq_false_iff_ne]; exact c
     rw [if_pos c,this,Bool.false_and,cond_false]
   · have:okF r x=true:=by
        simp only [okF,Bool.or_eq_true,beq_iff_eq]
        by_cases c1:r.getD x.1.toNat 0=100001
        · exact .inl c1
        · by_cases c2 : r.getD x.1.toNat 0 = x.2
          · exact .inr c2
          · exact absurd ⟨c1,c2⟩ c
     rw [if_neg c,this,Bool.true_and,fitL_eq q _ (fun y hy => h0 y (by simp [hy])) hn.2,h2]
     rfl
theorem setsL_len : ∀ (q : List (Int × Int)) (r : List Int), (setsL r q).length = r.length
 | [],_ => rfl
 | x::q,r => by
   have:=setsL_len q (r.set x.1.toNat x.2)
   rw [List.length_set] at this
   exact this
/-- What stands in a cell when a row has been told more. -/
theorem setsL_zip : ∀ (t y r : List Int) (k : Nat), t.length = y.length → t.Nodup → (∀ x, x ∈ t → 0 ≤ x ∧ x < (r.length : Int)) → k < r.length →
 (setsL r (t.zip y)).getD k 0=if (k:Int)∈t then y.getD (t.idxOf (k:Int)) 0 else r.getD k 0
 | [],y,r,k,hl,_,_,hk => by
   rw [List.zip_nil_left,if_neg (by simp)]; rfl
 | x::t,[],r,k,hl,_,_,hk => by cases hl
 | x::t,v::y,r,k,hl,hn,hb,hk => by
   rw [List.nodup_cons] at hn
   have hx:=hb x (by simp)
   have ih:=setsL_zip t y (r.set x.toNat v) k (by simpa using hl) hn.2 (fun z hz => by rw [List.length_set]; exact hb z (by simp [hz])) (by rw [List.length_set]; exact hk)
   have e:setsL r ((x::t).zip (v::y))=setsL (r.set x.toNat v) (t.zip y):=rfl
   rw [e,ih]
   by_cases c:x=(k:Int)
   · subst c
     rw [if_neg hn.1,if_pos (by simp),List.idxOf_cons_self,List.getD_cons_zero]
     have:((k:Int)).toNat=k:=by omega
     rw [this,getD_of_lt (by rw [List.length_set]; exact hk),List.getElem_set_self]
   · have hne : x.toNat ≠ k := by omega
     by_cases c2:(k:Int)∈t
     · rw [if_pos c2, if_pos (by simp [c2]), List.idxOf_cons, show (x == (k : Int)) = false from beq_eq_false_iff_ne.2 c]
       first | rw [cond_false,List.getD_cons_succ] | simp
     · rw [if_neg c2,if_neg (by simp [c2]; exact fun e => c e.symm),getD_set_ne hne]
/-! ## The pairs of columns -/
def pairG (a t:List Int) (i:Nat):List (List Int):=if a.getD i 0∈t then [[(i:Int),(t.idxOf (a.getD i 0):Int)]] else []
def pairsP (a t:List Int):List (List Int):=(List.range a.length).flatMap (pairG a t)
theorem pairsP_mem {a t:List Int} {p:List Int}:p∈pairsP a t↔∃ i,i<a.length∧a.getD i 0∈t∧p=[(i:Int),(t.idxOf (a.getD i 0):Int)]:=by
 simp only [pairsP,List.mem_flatMap,List.mem_range,pairG]
 constructor
 · rintro ⟨i, hi, h⟩
   split at h
   · rename_i c; exact ⟨i,hi,c,by simpa using h⟩
   · cases h
 · rintro ⟨i, hi, c, rfl⟩
   exact ⟨i,hi,by rw [if_pos c]; simp⟩
/-- A place is paired where its column is told before. -/
theorem pair_any {a t:List Int} (hn:t.Nodup) {j:Nat} (hj:j<t.length):(pairsP a t).any (isP (j:Int))=decide (t.getD j 0∈a):=by
 rw [Bool.eq_iff_iff,List.any_eq_true,decide_eq_true_eq]
 constructor
 · rintro ⟨p, hp, h⟩
   obtain ⟨i,hi,c,rfl⟩:=pairsP_mem.1 hp
   simp only [isP,List.getD_cons_succ,List.getD_cons_zero,beq_iff_eq] at h
   have e:t.idxOf (a.getD i 0)=j:=by omega
   have:t.getD j 0=a.getD i 0:=by
    rw [← e,getD_of_lt (List.idxOf_lt_length_of_mem c),List.getElem_idxOf]
   rw [this]
   exact getD_mem 0 hi
 · intro h
   obtain ⟨i,hi,e⟩:=List.getElem_of_mem h
   have e2:a.getD i 0=t.getD j 0:=by rw [getD_of_lt hi]; exact e
   have hm:a.getD i 0∈t:=by rw [e2]; exact getD_mem 0 hj
   refine ⟨_,pairsP_mem.2 ⟨i,hi,hm,rfl⟩, ?_⟩
   simp only [isP,List.getD_cons_succ,List.getD_cons_zero,beq_iff_eq]
   rw [e2,getD_of_lt hj,hn.idxOf_getElem]
theorem unp_mem {n:Nat} {ps:List (List Int)} {x:Int}:x∈unpL n ps↔∃ j:Nat,j<n∧ps.any (isP (j:Int))=false∧x=(j:Int):=by
 simp only [unpL,List.mem_flatMap,List.mem_range,unpG]
 constructor
 · rintro ⟨j, hj, h⟩
   cases c:ps.any (isP (j:Int)) with
   | true => rw [c] at h; cases h
   | false => rw [c] at h; exact ⟨j,hj,c,by simpa using h⟩
 · rintro ⟨j, hj, c, rfl⟩
   exact ⟨j,hj,by rw [c]; simp⟩
theorem idx_left {a m:List Int} {x:Int} (h:x∈a):(a ++ m).idxOf x=a.idxOf x:=by
 rw [List.idxOf_append,if_pos h]
theorem idx_right {a m:List Int} {x:Int} (h:x ∉ a):(a ++ m).idxOf x=a.length+m.idxOf x:=by
 rw [List.idxOf_append,if_neg h,Nat.add_comm]
theorem getD_left {a m:List Int} {i:Nat} (h:i<a.length):(a ++ m).getD i 0=a.getD i 0:=by
 rw [getD_of_lt (by rw [List.length_append]; omega),List.getElem_append_left h,getD_of_lt h]
theorem getD_right {a m:List Int} {i:Nat}:(a ++ m).getD (a.length+i) 0=m.getD i 0:=by
 rw [List.getD_eq_getElem?_getD,List.getD_eq_getElem?_getD,List.getElem?_append_right (Nat.le_add_right _ _),Nat.add_sub_cancel_left]
theorem row_ext {c:Nat} {x y:List Int} (hx:x.length=c) (hy:y.length=c) (h:∀ k,k<c→x.getD k 0=y.getD k 0):x=y:=by
 refine List.ext_getElem (by omega) fun i h1 h2 => ?_
 have:=h i (by omega)
 rwa [getD_of_lt h1,getD_of_lt h2] at this
def ToldOK (c:Nat) (a:List Int):Prop:=a.Nodup∧∀ x,x∈a→0≤x∧x<(c:Int)
section
variable {c:Nat} {a t w y:List Int} (ha:ToldOK c a) (ht:ToldOK c t) (hw:w.length=a.length) (hy:y.length=t.length) (hc:∀ x,x∈w→x≠100001)
include ha ht hw hy hc
theorem cell_at {x:Int} (h0:0≤x∧x<(c:Int)):(rowE c a w).getD x.toNat 0=if x∈a then w.getD (a.idxOf x) 0 else 100001:=by
 have e:((x.toNat:Nat):Int)=x:=by omega
 rw [rowE_getD a w (by omega),cellE,e]
theorem fit_cond:(t.zip y).all (okF (rowE c a w))=(pairsP a t).all (eqP w y):=by
 rw [Bool.eq_iff_iff,List.all_eq_true,List.all_eq_true]
 constructor
 · intro h p hp
   obtain ⟨i,hi,hm,rfl⟩:=pairsP_mem.1 hp
   have hj:=List.idxOf_lt_length_of_mem hm
   have e1:t[t.idxOf (a.getD i 0)]=a.getD i 0:=List.getElem_idxOf hj
   have hz:(a.getD i 0,y.getD (t.idxOf (a.getD i 0)) 0)∈t.zip y:=by
    refine List.mem_iff_getElem.2 ⟨t.idxOf (a.getD i 0),by rw [List.length_zip]; omega, ?_⟩
    rw [List.getElem_zip,e1,← getD_of_lt (z:=0)]
   have h1:=h _ hz
   have hai:a.getD i 0∈a:=getD_mem 0 hi
   have e2:a.idxOf (a.getD i 0)=i:=by rw [getD_of_lt hi,ha.1.idxOf_getElem]
   simp only [okF,cell_at ha ht hw hy hc (ha.2 _ hai),if_pos hai,e2,Bool.or_eq_true,beq_iff_eq] at h1
   have h2:=hc _ (getD_mem (0:Int) (show i<w.length by omega))
   simp only [eqP,List.getD_cons_zero,List.getD_cons_succ,beq_iff_eq,Int.toNat_natCast]
   exact h1.resolve_left h2
 · intro h x hx
   obtain ⟨j,hj,rfl⟩:=List.mem_iff_getElem.1 hx
   rw [List.length_zip] at hj
   have hjt:j<t.length:=by omega
   have hjy:j<y.length:=by omega
   rw [List.getElem_zip]
   have hb:=ht.2 _ (List.getElem_mem hjt)
   simp only [okF,cell_at ha ht hw hy hc hb,Bool.or_eq_true,beq_iff_eq]
   by_cases hm:t[j]∈a
   · right
     rw [if_pos hm]
     have hi:=List.idxOf_lt_length_of_mem hm
     have e1:a.getD (a.idxOf t[j]) 0=t[j]:=by rw [getD_of_lt hi,List.getElem_idxOf]
     have hp:=h _ (pairsP_mem.2 ⟨a.idxOf t[j],hi,by rw [e1]; exact List.getElem_mem hjt,rfl⟩)
     rw [e1,ht.1.idxOf_getElem] at hp
     simp only [eqP,List.getD_cons_zero,List.getD_cons_succ,beq_iff_eq,Int.toNat_natCast] at hp
     rw [hp,getD_of_lt hjy]
   · left
     rw [if_neg hm]
/-- What fits is what is joined. -/
theorem fit_join:fitL (rowE c a w) (t.zip y)=bif (pairsP a t).all (eqP w y) then some (rowE c (joinR a t (pairsP a t)) (joinR w y (pairsP a t))) else none:=by
 have hzf:(t.zip y).map Prod.fst=t:=by rw [List.map_fst_zip (by omega)]
 rw [fitL_eq _ _ (fun x hx => (ht.2 _ (List.of_mem_zip hx).1).1) (by rw [hzf]; exact ht.1),fit_cond ha ht hw hy hc]
 cases hall:(pairsP a t).all (eqP w y) with
 | false => rfl
 | true =>
   rw [cond_true,cond_true]
   congr 1
   refine row_ext (c:=c) (by rw [setsL_len,rowE_len]) (rowE_len _ _ _) fun k hk => ?_
   rw [setsL_zip t y _ k hy.symm ht.1 (fun x hx => by rw [rowE_len]; exact ht.2 x hx) (by rw [rowE_len]; exact hk),rowE_getD _ _ hk,rowE_getD _ _ hk]
   rw [show joinR a t (pairsP a t)=a ++ pickR t (unpL t.length (pairsP a t)) from rfl,show joinR w y (pairsP a t)=w ++ pickR y (unpL y.length (pairsP a t)) from rfl]
   simp only [cellE]
   by_cases h1:(k:Int)∈a
   · have hi := List.idxOf_lt_length_of_mem h1
     rw [if_pos (List.mem_append.2 (.inl h1)),if_pos h1,idx_left h1,getD_left (by omega)]
     by_cases h2:(k:Int)∈t
     · rw [if_pos h2]
       have e1:a.getD (a.idxOf (k:Int)) 0=(k:Int):=by rw [getD_of_lt hi,List.getElem_idxOf]
       have hp:=List.all_eq_true.1 hall _ (pairsP_mem.2 ⟨a.idxOf (k:Int),hi,by rw [e1]; exact h2,rfl⟩)
       rw [e1] at hp
       simp only [eqP,List.getD_cons_zero,List.getD_cons_succ,beq_iff_eq,Int.toNat_natCast] at hp
       exact hp.symm
     · rw [if_neg h2]
   · rw [if_neg h1]
     by_cases h2:(k:Int)∈t
     · rw [if_pos h2]
       have hj:=List.idxOf_lt_length_of_mem h2
       have e1:t.getD (t.idxOf (k:Int)) 0=(k:Int):=by rw [getD_of_lt hj,List.getElem_idxOf]
       have hu:((t.idxOf (k:Int):Nat):Int)∈unpL t.length (pairsP a t):=unp_mem.2 ⟨_,hj,by rw [pair_any ht.1 hj,e1]; exact decide_eq_false h1,rfl⟩
       have hm:(k:Int)∈pickR t (unpL t.length (pairsP a t)):=List.mem_map.2 ⟨_,hu,by rw [Int.toNat_natCast]; exact e1⟩
       rw [if_pos (List.mem_append.2 (.inr hm)),idx_right h1,← hw,getD_right]
       have hq:=List.idxOf_lt_length_of_mem hm
       have eq:=List.getElem_idxOf hq
       have hq2:(pickR t (unpL t.length (pairsP a t))).idxOf (k:Int)<(unpL t.length (pairsP a t)).length:=by rw [pickR_len] at hq; exact hq
       rw [hy]
       generalize (pickR t (unpL t.length (pairsP a t))).idxOf (k:Int)=q at hq eq hq2 ⊢
       obtain ⟨j,hj2,_,e3⟩:=unp_mem.1 (List.getElem_mem hq2)
       have e4:t.getD j 0=(k:Int):=by
         have:(pickR t (unpL t.length (pairsP a t)))[q]=t.getD ((unpL t.length (pairsP a t))[q]).toNat 0:=by simp [pickR]
         rw [this,e3,Int.toNat_natCast] at eq
         exact eq
       have e5:t.idxOf (k:Int)=j:=by rw [← e4,getD_of_lt hj2,ht.1.idxOf_getElem]
       rw [e5,getD_of_lt (l:=pickR y _) (by rw [pickR_len]; exact hq2)]
       simp only [pickR,List.getElem_map,e3,Int.toNat_natCast]
     · rw [if_neg h2, if_neg]
       rintro hm
       rcases List.mem_append.1 hm with hm | hm
       · exact h1 hm
       · obtain ⟨x, hx, e⟩ := List.mem_map.1 hm
         obtain ⟨j,hj,_,rfl⟩:=unp_mem.1 hx
         rw [Int.toNat_natCast] at e
         exact h2 (by rw [← e]; exact getD_mem 0 hj)
end
end GoV

/- JoinParts: pairs of columns, and what fits: what the program and the specification compute. -/
namespace GoV
open Go
theorem index_int_eq (l:List Int) (x:Int) (hl:l.length≤1073741824):xs0t l x=some (if x∈l then (l.idxOf x:Int) else -1):=by
 have key:∀ (r pre:List Int),l=pre ++ r→xs0t.l2 l x (l.length:Int) (pre.length:Int)=some (if x∈r then ((pre.length+r.idxOf x:Nat):Int) else -1):=by
  intro r
  induction r with
  | nil =>
    intro pre hp
    rw [List.append_nil] at hp
    subst hp
    rw [if_neg (by simp)]
    exact xs0t.eq2 _ _ _ _ (by simp only [xs0t.t2,ix_lt,Nat.lt_irrefl,decide_false,cond_false])
  | cons y r ih =>
    intro pre hp
    have g:pre.length<l.length:=by rw [hp]; simp
    have hy:l.getD pre.length 0=y:=by rw [hp]; exact getD_mid pre r y 0
    refine xs0t.eq2 _ _ _ _ ?_
    simp only [xs0t.t2,ix_lt,ix_nn,ix_nat,dec_t g,cond_true,hy,wrap_succ (show pre.length<9223372036854775807 by omega)]
    by_cases c:x=y
    · subst c
      rw [beq_ref,cond_true,if_pos (by simp),List.idxOf_cons_self,Nat.add_zero]
    · have c2 : (x == y) = false := beq_eq_false_iff_ne.2 c
      have c3:(y == x)=false:=beq_eq_false_iff_ne.2 fun e => c e.symm
      rw [c2,cond_false]
      have:=ih (pre ++ [y]) (by rw [hp]; simp)
      rw [List.length_append,List.length_singleton] at this
      rw [this,List.idxOf_cons,c3]
      by_cases h:x∈r
      · rw [if_pos h, if_pos (by simp [h])]
        simp only [cond_false]
        congr 1
        have:pre.length+1+r.idxOf x=pre.length+(r.idxOf x+1):=by omega
        first | rw [this] | (simp; omega)
      · rw [if_neg h,if_neg (by simp [h,c])]
 have:=key l [] rfl
 simp only [List.length_nil,Nat.zero_add] at this
 exact xs0t.eq _ _ (by simp only [xs0t.t]; exact this)
theorem xi22_eq (a t:List Int) (ha:a.length≤1000000) (ht:t.length≤1000000):xi22 a t=some (pairsP a t):=by
 have key:∀ (n i:Nat) (acc:List (List Int)),i+n=a.length→acc.length≤i→xi22.l3 t acc a (a.length:Int) (i:Int)=some (acc ++ ((List.range a.length).drop i).flatMap (pairG a t)):=by
  intro n
  induction n with
  | zero =>
    intro i acc hi _
    have e:i=a.length:=by omega
    subst e
    rw [List.drop_eq_nil_of_le (by simp),List.flatMap_nil,List.append_nil]
    exact xi22.eq3 _ _ _ _ _ (by simp only [xi22.t3,ix_lt,Nat.lt_irrefl,decide_false,cond_false])
  | succ n ih =>
    intro i acc hi ha2
    have g:i<a.length:=by omega
    have gr:i<(List.range a.length).length:=by simpa using g
    have e1:(List.range a.length).drop i=i::(List.range a.length).drop (i+1):=by
        rw [List.drop_eq_getElem_cons gr,List.getElem_range]
    rw [e1,List.flatMap_cons]
    refine xi22.eq3 _ _ _ _ _ ?_
    simp only [xi22.t3,ix_lt,ix_nn,ix_nat,dec_t g,cond_true,index_int_eq t _ (show t.length≤1073741824 by omega),Option.bind_some,wrap_succ (show i<9223372036854775807 by omega)]
    by_cases h:a.getD i 0∈t
    · have h1 : (t.idxOf (a.getD i 0) : Int) ≥ 0 := by omega
      have h2:acc.length+[[(i:Int),(t.idxOf (a.getD i 0):Int)]].length≤4294967296:=by simp only [List.length_cons,List.length_nil]; omega
      rw [if_pos h,dec_t h1,cond_true,dec_t h2,cond_true,pairG,if_pos h]
      rw [ih (i+1) _ (by omega) (by rw [List.length_append,List.length_singleton]; omega),List.append_assoc]
    · have h1 : ¬ (-1 : Int) ≥ 0 := by omega
      rw [if_neg h,dec_f h1,cond_false,pairG,if_neg h,List.nil_append]
      exact ih (i+1) _ (by omega) (by omega)
 have:=key a.length 0 [] (by omega) (by simp)
 rw [List.drop_zero,List.nil_append] at this
 exact xi22.eq _ _ (by simp only [xi22.t]; exact this)
def outF (o:Option (List Int)):List Int × Bool:=match o with | some r => (r,true) | none => ([],false)
theorem spec_fits_eq {x t y:List Int} (hx:x.length≤1000000) (hy:y.length=t.length) (htl:t.length≤1000000) (ht:∀ k,k∈t→0≤k∧k<(x.length:Int)):xs2m x t y=some (outF (fitL x (t.zip y))):=by
 have key:∀ (n i:Nat) (r:List Int),i+n=t.length→r.length=x.length→xs2m.l3 y [] r t (t.length:Int) (i:Int)=some (outF (fitL r ((t.drop i).zip (y.drop i)))):=by
  intro n
  induction n with
  | zero =>
    intro i r hi _
    have e:i=t.length:=by omega
    subst e
    rw [List.drop_length,List.zip_nil_left]
    exact xs2m.eq3 _ _ _ _ _ _ (by simp only [xs2m.t3,ix_lt,Nat.lt_irrefl,decide_false,cond_false,fitL,outF])
  | succ n ih =>
    intro i r hi hr
    have g:i<t.length:=by omega
    have gy:i<y.length:=by omega
    obtain ⟨b0,b1⟩:=ht _ (getD_mem (0:Int) g)
    have gk:(t.getD i 0).toNat<r.length:=by omega
    rw [drop_getD (0:Int) g,drop_getD (0:Int) gy,List.zip_cons_cons,fitL]
    have ih2:=ih (i+1) (r.set (t.getD i 0).toNat (y.getD i 0)) (by omega) (by rw [List.length_set]; exact hr)
    refine xs2m.eq3 _ _ _ _ _ _ ?_
    simp only [xs2m.t3,ix_lt,ix_nn,ix_nat,dec_t g,dec_t gy,dec_t b0,dec_t gk,cond_true,wrap_succ (show i<9223372036854775807 by omega)]
    by_cases c1:r.getD (t.getD i 0).toNat 0=100001
    · have e1 : (r.getD (t.getD i 0).toNat 0 != 100001) = false := by rw [c1]; rfl
      rw [e1,cond_false,if_neg (fun h => h.1 c1)]
      exact ih2
    · have e1 : (r.getD (t.getD i 0).toNat 0 != 100001) = true := bne_iff_ne.2 c1
      rw [e1,cond_true]
      by_cases c2:r.getD (t.getD i 0).toNat 0=y.getD i 0
      · have e2 : (r.getD (t.getD i 0).toNat 0 != y.getD i 0) = false := by rw [c2]; simp
        rw [e2,cond_false,if_neg (fun h => h.2 c2)]
        exact ih2
      · have e2 : (r.getD (t.getD i 0).toNat 0 != y.getD i 0) = true := bne_iff_ne.2 c2
        rw [e2,cond_true,if_pos ⟨c1,c2⟩]
        rfl
 have:=key t.length 0 x (by omega) rfl
 rw [List.drop_zero,List.drop_zero] at this
 exact xs2m.eq _ _ _ (by simp only [xs2m.t,xs1w_eq x (by omega),Option.bind_some]; exact this)
/-- Rows told once each, put in: the same rows, in order. -/
theorem putL_new : ∀ {l : List WRow} {r : List Int} {n : Int}, (∀ w, w ∈ l → w.1 ≠ r) → n ≠ 0 → (putL l r n).Perm ((r, n) :: l)
 | [],r,n,_,h0 => by rw [putL,oneW,if_neg h0]
 | w::l,r,n,h,h0 => by
   rw [putL]
   split
   · exact ((putL_new (fun x hx => h x (by simp [hx])) h0).cons w).trans (List.Perm.swap _ _ _)
   · split
     · rename_i c; exact absurd (cmpL_eq c) (h w (by simp))
     · rw [oneW,if_neg h0]; exact List.Perm.refl _
theorem puts_new : ∀ (b l : List WRow), ((l ++ b).map Prod.fst).Nodup → (∀ w, w ∈ b → w.2 ≠ 0) → (putsL l b).Perm (l ++ b)
 | [],l,_,_ => by rw [putsL,List.foldl_nil,List.append_nil]
 | w::b,l,hn,h0 => by
   have h1:∀ x,x∈l→x.1≠w.1:=fun x hx e => by
     rw [List.map_append,List.map_cons,List.nodup_append] at hn
     exact hn.2.2 _ (List.mem_map.2 ⟨x,hx,rfl⟩) _ (by simp) e
   have p1:=putL_new (l:=l) (r:=w.1) (n:=w.2) h1 (h0 w (by simp))
   have p2:(putL l w.1 w.2 ++ b).Perm (l ++ w::b):=(p1.append_right b).trans List.perm_middle.symm
   have ih:=puts_new b (putL l w.1 w.2) (((p2.map Prod.fst).nodup_iff).2 hn) (fun x hx => h0 x (by simp [hx]))
   exact ih.trans p2
end GoV

/- Tables joined: the program's answer is the specification's. -/
namespace GoV
open Go
/-! ## Loops that put in, or push, many rows for each element -/
theorem PutOK.mono {M M':Int} {N N':Nat} {l:List WRow} (h:PutOK M N l) (hM:M≤M') (hN:N≤N'):PutOK M' N' l :=
 ⟨Nat.le_trans h.len hN,h.row,fun w hw => by have:=h.wt w hw; omega⟩
theorem PutOK.puts {m : Int} (hm : 0 ≤ m) : ∀ (b : List WRow) {M : Int} {N : Nat} {l : List WRow}, 0 ≤ M → PutOK M N l → (∀ w, w ∈ b → w.1.length ≤ 1073741824 ∧ (-m ≤ w.2 ∧ w.2 ≤ m)) → PutOK (M + m * (b.length : Int)) (N + b.length) (putsL l b)
 | [],M,N,l,hM,h,_ => by simpa [putsL] using h
 | w::b,M,N,l,hM,h,hb => by
   obtain ⟨h1,h2⟩:=hb w (by simp)
   have k:=PutOK.puts hm b (by omega) (h.put h1 h2 hM hm) fun x hx => hb x (List.mem_cons_of_mem _ hx)
   have e:M+m+m * (b.length:Int)=M+m * ((w::b).length:Int):=by
     rw [List.length_cons,Int.natCast_succ,Int.mul_add,Int.mul_one]; omega
   rw [e] at k
   exact k.mono (Int.le_refl _) (by simp only [List.length_cons]; omega)
theorem putsL_append (l a b:List WRow):putsL l (a ++ b)=putsL (putsL l a) b:=by rw [putsL,List.foldl_append]; rfl
theorem putsK_loop {α β : Type} (l : List α) (z : α) (g : α → List WRow) (L : List WRow → Nat → Option β) (res : List WRow → Option β) {M m : Int} {N K : Nat} (hM : 0 ≤ M) (hm : 0 ≤ m)
 (hg:∀ x,x∈l→(g x).length≤K∧∀ w,w∈g x→w.1.length≤1073741824∧(-m≤w.2∧w.2≤m))
 (he:∀ acc b,PutOK (M+m * ((K * l.length:Nat):Int)) (N+K * l.length) acc→res acc=some b→L acc l.length=some b)
 (hs:∀ acc i b,i<l.length→PutOK (M+m * ((K * i:Nat):Int)) (N+K * i) acc→L (putsL acc (g (l.getD i z))) (i+1)=some b→L acc i=some b) :
 ∀ acc b,PutOK M N acc→res (putsL acc (l.flatMap g))=some b→L acc 0=some b:=by
 have key:∀ i,i≤l.length→∀ acc b,PutOK (M+m * ((K * i:Nat):Int)) (N+K * i) acc→res (putsL acc ((l.drop i).flatMap g))=some b→L acc i=some b:=by
  refine upto ?_ ?_
  · intro acc b ha hb
    rw [List.drop_length] at hb
    exact he acc b ha hb
  · intro i hi ih acc b ha hb
    rw [drop_getD z hi,List.flatMap_cons,putsL_append] at hb
    refine hs acc i b hi ha (ih _ b ?_ hb)
    obtain ⟨k1,k2⟩:=hg _ (getD_mem z hi)
    have h0:0≤m * ((K * i:Nat):Int):=Int.mul_nonneg hm (by omega)
    have k3:=PutOK.puts hm (g (l.getD i z)) (by omega) ha k2
    have h1:m * ((g (l.getD i z)).length:Int)≤m * (K:Int):=Int.mul_le_mul_of_nonneg_left (by omega) hm
    have e1:K * (i+1)=K * i+K:=Nat.mul_succ K i
    have e2:m * ((K * (i+1):Nat):Int)=m * ((K * i:Nat):Int)+m * (K:Int):=by rw [e1,Int.natCast_add,Int.mul_add]
    rw [e2]
    exact k3.mono (by omega) (by omega)
 intro acc b ha hb
 refine key 0 (Nat.zero_le _) acc b ?_ (by rw [List.drop_zero]; exact hb)
 simpa using ha
theorem pushK_loop {α β γ : Type} (l : List α) (z : α) (g : α → List γ) (L : List γ → Nat → Option β) (res : List γ → Option β) {N K : Nat}
 (hg:∀ x,x∈l→(g x).length≤K)
 (he:∀ acc b,acc.length≤N+K * l.length→res acc=some b→L acc l.length=some b)
 (hs:∀ acc i b,i<l.length→acc.length≤N+K * i→L (acc ++ g (l.getD i z)) (i+1)=some b→L acc i=some b) :
 ∀ acc b,acc.length≤N→res (acc ++ l.flatMap g)=some b→L acc 0=some b:=by
 have key:∀ i,i≤l.length→∀ acc b,acc.length≤N+K * i→res (acc ++ (l.drop i).flatMap g)=some b→L acc i=some b:=by
  refine upto ?_ ?_
  · intro acc b ha hb
    rw [List.drop_length,List.flatMap_nil,List.append_nil] at hb
    exact he acc b ha hb
  · intro i hi ih acc b ha hb
    rw [drop_getD z hi,List.flatMap_cons,← List.append_assoc] at hb
    refine hs acc i b hi ha (ih _ b ?_ hb)
    have k1:=hg _ (getD_mem z hi)
    have e1:K * (i+1)=K * i+K:=Nat.mul_succ K i
    rw [List.length_append]
    omega
 intro acc b ha hb
 exact key 0 (Nat.zero_le _) acc b (by omega) (by rw [List.drop_zero]; exact hb)
/-! ## The join -/
def joinW (ps:List (List Int)) (x y:WRow):List WRow:=bif ps.all (eqP x.1 y.1) then [(joinR x.1 y.1 ps,IntKind.i64.wrap (x.2 * y.2))] else []
def jnL (l u:List WRow) (ps:List (List Int)):List WRow:=l.flatMap fun x => u.flatMap (joinW ps x)
theorem joinW_len (ps:List (List Int)) (x y:WRow):(joinW ps x y).length≤1:=by
 unfold joinW
 cases ps.all (eqP x.1 y.1) <;> simp
theorem prod_abs {a b:Int} (ha:-1000000≤a∧a≤1000000) (hb:-1000000≤b∧b≤1000000):-1000000000000≤a * b∧a * b≤1000000000000:=by
 have key:∀ x y:Int,0≤x→x≤1000000→0≤y→y≤1000000→0≤x * y∧x * y≤1000000000000:=by
  intro x y h1 h2 h3 h4
  have:=Int.mul_le_mul h2 h4 h3 (by omega)
  exact ⟨Int.mul_nonneg h1 h3,by omega⟩
 by_cases h1:0≤a
 · by_cases h2 : 0 ≤ b
   · have:=key a b h1 ha.2 h2 hb.2; omega
   · have := key a (-b) h1 ha.2 (by omega) (by omega)
     rw [Int.mul_neg] at this; omega
 · by_cases h2 : 0 ≤ b
   · have := key (-a) b (by omega) (by omega) h2 hb.2
     rw [Int.neg_mul] at this; omega
   · have := key (-a) (-b) (by omega) (by omega) (by omega) (by omega)
     rw [Int.neg_mul_neg] at this; omega
/-- Rows of tables that fit, and pairs of their columns. -/
structure JoinOK (c d : Int) (l u : List WRow) (ps : List (List Int)) : Prop where
 c0:0≤c∧c≤6
 d0:0≤d∧d≤6
 ln:l.length≤60
 un:u.length≤60
 pn:ps.length≤6
 lr:∀ x,x∈l→(x.1.length:Int)=c∧(-1000000≤x.2∧x.2≤1000000)
 ur:∀ x,x∈u→(x.1.length:Int)=d∧(-1000000≤x.2∧x.2≤1000000)
 pr:∀ p,p∈ps→p.length=2∧(0≤p.getD 0 0∧p.getD 0 0<c)∧0≤p.getD 1 0∧p.getD 1 0<d
theorem JoinOK.of {c d:Int} {l u:List WRow} {ps:List (List Int)} (h1:goodT c l=true) (h2:goodT d u=true) (h3:pairsB c d ps=true):JoinOK c d l u ps:=by
 obtain ⟨a1,a2,a3,_⟩:=goodT_iff.1 h1
 obtain ⟨b1,b2,b3,_⟩:=goodT_iff.1 h2
 simp only [pairsB,Bool.and_eq_true,decide_eq_true_eq] at h3
 exact ⟨a1,b1,a2,b2,h3.2,fun x hx => by have:=rowB_iff.1 (a3 x hx); exact ⟨this.2.1,this.2.2.1⟩,fun x hx => by have:=rowB_iff.1 (b3 x hx); exact ⟨this.2.1,this.2.2.1⟩,fun p hp => pairB_iff.1 (List.all_eq_true.1 h3.1 p hp)⟩
section
variable {c d:Int} {l u:List WRow} {ps:List (List Int)} (H:JoinOK c d l u ps)
include H
theorem join_fit {x y:WRow} (hx:x∈l) (hy:y∈u):∀ p,p∈ps→p.length=2∧(0≤p.getD 0 0∧(p.getD 0 0).toNat<x.1.length)∧0≤p.getD 1 0∧(p.getD 1 0).toNat<y.1.length:=fun p hp => by
 have h1:=(H.lr x hx).1
 have h2:=(H.ur y hy).1
 obtain ⟨g0,⟨g1,g2⟩,g3,g4⟩:=H.pr p hp
 exact ⟨g0,⟨g1,by omega⟩,g3,by omega⟩
theorem join_rows {x y w:WRow} (hx:x∈l) (hy:y∈u) (hw:w∈joinW ps x y):(w.1.length:Int)=c+((unpL d.toNat ps).length:Int)∧(-1000000000000≤w.2∧w.2≤1000000000000):=by
 have h1:=H.lr x hx
 have h2:=H.ur y hy
 simp only [joinW] at hw
 cases hh:ps.all (eqP x.1 y.1) with
 | false => rw [hh] at hw; cases hw
 | true =>
   rw [hh,cond_true,List.mem_singleton] at hw
   subst hw
   have e:y.1.length=d.toNat:=by omega
   have k:=prod_abs h1.2 h2.2
   refine ⟨?_, ?_⟩
   · show ((joinR x.1 y.1 ps).length : Int) = _
     rw [joinR_len,e]; omega
   · show -1000000000000 ≤ IntKind.i64.wrap (x.2 * y.2) ∧ _
     rw [wrap_id (by omega) (by omega)]; exact k
theorem join_len:(jnL l u ps).length≤3600:=by
 have h1:∀ x,(u.flatMap (joinW ps x)).length≤60:=fun x => Nat.le_trans (flatMap_len (joinW_len ps x) u) H.un
 have key:∀ l:List WRow,(jnL l u ps).length≤60 * l.length:=by
  intro l
  induction l with
  | nil => simp [jnL]
  | cons x l ih =>
    have:=h1 x
    rw [jnL] at ih ⊢
    rw [List.flatMap_cons,List.length_append,List.length_cons]
    omega
 have:=key l
 have:=H.ln
 omega
theorem join_mem {w:WRow} (hw:w∈jnL l u ps):(w.1.length:Int)=c+((unpL d.toNat ps).length:Int)∧(-1000000000000≤w.2∧w.2≤1000000000000):=by
 obtain ⟨x,hx,h⟩:=List.mem_flatMap.1 hw
 obtain ⟨y,hy,h⟩:=List.mem_flatMap.1 h
 exact join_rows H hx hy h
theorem impl_joinedColumns_at:xi0w c d ps=some (c+((unpL d.toNat ps).length:Int)):=by
 have e:d=((d.toNat:Nat):Int):=by have:=H.d0; omega
 have h:=H.pn
 have hc:=H.c0
 have hd:=H.d0
 have hu:=unpL_len d.toNat ps
 have k:=xi1r_eq (ps:=ps) (by omega) (fun p hp => by have:=(H.pr p hp).1; omega) d.toNat (by omega)
 rw [← e] at k
 exact xi0w.eq c d ps (by simp only [xi0w.t,k,Option.bind_some]; rw [wrap_id (by omega) (by omega)])
theorem xi17_eq:xi17 c l d u ps=some (c+((unpL d.toNat ps).length:Int),putsL [] (jnL l u ps)):=by
 have hln:=H.ln
 have hun:=H.un
 have hpn:=H.pn
 have hc0:=H.c0
 have hd0:=H.d0
 have hul:=unpL_len d.toNat ps
 have hjl:=join_len H
 have inner:∀ (x:WRow) (i:Nat) (acc:List WRow) (b:Int × List WRow),x∈l→i<l.length→acc.length≤0+60 * i→xi17.l3 ps c l d u 0 [] (acc ++ u.flatMap (joinW ps x)) l (l.length:Int) ((i+1:Nat):Int)=some b→xi17.l6 ps c l d u 0 [] acc x.1 x.2 l (l.length:Int) (i:Int) u (u.length:Int) 0=some b:=by
  intro x i acc b hx hi ha hb
  refine pushK_loop u ([],0) (joinW ps x) (fun acc j => xi17.l6 ps c l d u 0 [] acc x.1 x.2 l (l.length:Int) (i:Int) u (u.length:Int) (j:Int)) (fun acc => xi17.l3 ps c l d u 0 [] acc l (l.length:Int) ((i+1:Nat):Int)) (N:=0+60 * i) (K:=1) (fun y _ => joinW_len ps x y) ?_ ?_ acc b ha hb
  · intro acc b _ hb
    exact xi17.eq6 _ _ _ _ _ _ _ _ _ _ _ _ _ _ _ _ (by simp only [xi17.t6,ix_lt,Nat.lt_irrefl,decide_false,cond_false,wrap_succ (show i<9223372036854775807 by omega)]; exact hb)
  · intro acc j b hj ha hb
    have hy:=getD_mem (([]:List Int),(0:Int)) hj
    have h1:=(H.lr x hx).1
    have h2:=(H.ur _ hy).1
    have e1:=xi2e_eq (a:=x.1) (b:=(u.getD j ([],0)).1) (ps:=ps) (by omega) (by omega) (by omega) (join_fit H hx hy)
    refine xi17.eq6 _ _ _ _ _ _ _ _ _ _ _ _ _ _ _ _ ?_
    simp only [xi17.t6,ix_lt,ix_nn,ix_nat,dec_t hj,cond_true,e1,Option.bind_some,wrap_succ (show j<9223372036854775807 by omega)]
    cases hh:ps.all (eqP x.1 (u.getD j ([],0)).1) with
    | false =>
      simp only [joinW,hh,cond_false,List.append_nil] at hb
      exact hb
    | true =>
      simp only [joinW,hh,cond_true] at hb
      have h6:acc.length+[(joinR x.1 (u.getD j ([],0)).1 ps,IntKind.i64.wrap (x.2 * (u.getD j ([],0)).2))].length≤4294967296:=by simp only [List.length_cons,List.length_nil]; omega
      simp only [cond_true,dec_t h6]
      exact hb
 have e5:=impl_summed_one (c:=c+((unpL d.toNat ps).length:Int)) (M:=1000000000000) (b:=jnL l u ps) (by omega) (fun w hw => by have:=(join_mem H hw).1; omega) (by omega) (fun w hw => (join_mem H hw).2) (by omega)
 refine xi17.eq c l d u ps ?_
 simp only [xi17.t]
 refine pushK_loop l ([],0) (fun x => u.flatMap (joinW ps x)) (fun acc i => xi17.l3 ps c l d u 0 [] acc l (l.length:Int) (i:Int)) (fun acc => (xi0w c d ps).bind fun r1 => (xi2f r1 [acc]).bind fun r2 => some (r2.fst,r2.snd)) (N:=0) (K:=60) (fun x _ => Nat.le_trans (flatMap_len (joinW_len ps x) u) hun) ?_ ?_ [] _ (Nat.zero_le _) ?_
 · intro acc b _ hb
   exact xi17.eq3 _ _ _ _ _ _ _ _ _ _ _ (by simp only [xi17.t3,ix_lt,Nat.lt_irrefl,decide_false,cond_false]; exact hb)
 · intro acc i b hi ha hb
   refine xi17.eq3 _ _ _ _ _ _ _ _ _ _ _ ?_
   simp only [xi17.t3,ix_lt,ix_nn,ix_nat,dec_t hi,cond_true]
   exact inner _ i acc b (getD_mem _ hi) hi ha hb
 · have e6 : ([] : List WRow) ++ l.flatMap (fun x => u.flatMap (joinW ps x)) = jnL l u ps := rfl
   rw [e6,impl_joinedColumns_at H,Option.bind_some,e5]; rfl
end
end GoV

/- JoinParts: a step, told plainly: the specification's rows are the program's, told column by column. -/
namespace GoV
open Go
theorem told_le : ∀ (c : Nat) {a : List Int}, ToldOK c a → a.length ≤ c
 | 0,a,h => by
   cases a with
   | nil => simp
   | cons x r => have:=h.2 x (by simp); omega
 | c+1,a,h => by
   have h2:ToldOK c (a.erase (c:Int)):=⟨h.1.erase _,fun x hx => by
     have h3:=(h.1.mem_erase_iff).1 hx
     have:=h.2 x h3.2
     have:x≠(c:Int):=h3.1
     omega⟩
   have ih:=told_le c h2
   by_cases hm:(c:Int)∈a
   · rw [List.length_erase_of_mem hm] at ih; omega
   · rw [List.erase_of_not_mem hm] at ih; omega
theorem told_more {c:Nat} {a t:List Int} (ha:ToldOK c a) (ht:ToldOK c t):ToldOK c (joinR a t (pairsP a t)):=by
 have hu:∀ x,x∈pickR t (unpL t.length (pairsP a t))→x∈t∧x ∉ a:=fun x hx => by
  obtain ⟨y,hy,rfl⟩:=List.mem_map.1 hx
  obtain ⟨j,hj,c1,rfl⟩:=unp_mem.1 hy
  rw [pair_any ht.1 hj] at c1
  rw [Int.toNat_natCast]
  exact ⟨getD_mem 0 hj,of_decide_eq_false c1⟩
 refine ⟨?_,fun x hx => ?_⟩
 · show (a ++ pickR t (unpL t.length (pairsP a t))).Nodup
   rw [List.nodup_append]
   refine ⟨ha.1, ?_,fun x hx y hy e => (hu y hy).2 (e ▸ hx)⟩
   have hr:(unpL t.length (pairsP a t)).Nodup:=by
    have:∀ l:List Nat,l.Nodup→(l.flatMap (unpG (pairsP a t))).Nodup:=by
        intro l
        induction l with
        | nil => intro _; exact List.nodup_nil
        | cons k l ih =>
          intro hn
          rw [List.nodup_cons] at hn
          rw [List.flatMap_cons,List.nodup_append]
          refine ⟨by unfold unpG; cases (pairsP a t).any (isP (k:Int)) <;> simp,ih hn.2,fun x hx y hy e => ?_⟩
          obtain ⟨j,hj,hy⟩:=List.mem_flatMap.1 hy
          simp only [unpG] at hx hy
          have h1:x=(k:Int):=by revert hx; cases (pairsP a t).any (isP (k:Int)) <;> simp
          have h2:y=(j:Int):=by revert hy; cases (pairsP a t).any (isP (j:Int)) <;> simp
          have:j=k:=by omega
          exact hn.1 (this ▸ hj)
    exact this _ List.nodup_range
   refine List.pairwise_map.2 (List.Pairwise.imp_of_mem (fun {x y} hx hy hne e => hne ?_) hr)
   obtain ⟨i,hi,_,rfl⟩:=unp_mem.1 hx
   obtain ⟨j,hj,_,rfl⟩:=unp_mem.1 hy
   rw [Int.toNat_natCast,Int.toNat_natCast,getD_of_lt hi,getD_of_lt hj] at e
   have:=ht.1.idxOf_getElem i hi
   rw [e,ht.1.idxOf_getElem j hj] at this
   rw [this]
 · rcases List.mem_append.1 hx with h | h
   · exact ha.2 x h
   · exact ht.2 x (hu x h).1
def fitG (t:List Int) (T:List WRow) (r:List Int):List WRow:=T.flatMap fun y => match fitL r (t.zip y.1) with | some z => [(z,1)] | none => []
theorem flatMap_map {α β γ : Type} {f : α → List γ} {g : α → List β} {h : β → γ} : ∀ {l : List α}, (∀ x, x ∈ l → f x = (g x).map h) → l.flatMap f = (l.flatMap g).map h
 | [],_ => rfl
 | x::l,hx => by rw [List.flatMap_cons,List.flatMap_cons,List.map_append,hx x (by simp),flatMap_map fun y hy => hx y (by simp [hy])]
structure StepOK (c : Nat) (a : List Int) (A S : List WRow) : Prop where
 told:ToldOK c a
 rows:∀ w,w∈A→w.1.length=a.length∧(∀ x,x∈w.1→-100000≤x∧x≤100000)∧w.2=1
 srt:sortedW A
 ssrt:sortedW S
 sone:∀ w,w∈S→w.2=1
 perm:(S.map Prod.fst).Perm (A.map fun w => rowE c a w.1)
structure PartOK (c : Nat) (t : List Int) (T : List WRow) : Prop where
 told:ToldOK c t
 rows:∀ w,w∈T→w.1.length=t.length∧(∀ x,x∈w.1→-100000≤x∧x≤100000)∧w.2=1
 srt:sortedW T
theorem keys_nodup {l:List WRow} (h:sortedW l):(l.map Prod.fst).Nodup:=by
 refine List.pairwise_map.2 (h.imp fun {a b} hab e => ?_)
 have hlt:cmpL a.1 b.1<0:=hab
 rw [e,cmpL_refl] at hlt
 omega
section
variable {c:Nat} {a t:List Int} {A S T:List WRow} (h:StepOK c a A S) (p:PartOK c t T)
include h p
theorem step_fit {w:WRow} (hw:w∈A):fitG t T (rowE c a w.1)=(T.flatMap (joinW (pairsP a t) w)).map fun z => (rowE c (joinR a t (pairsP a t)) z.1,1):=by
 refine flatMap_map fun y hy => ?_
 obtain ⟨w1,w2,w3⟩:=h.rows w hw
 obtain ⟨y1,y2,y3⟩:=p.rows y hy
 rw [fit_join h.told p.told w1 y1 (fun x hx => by have:=w2 x hx; omega),joinW]
 cases (pairsP a t).all (eqP w.1 y.1) with
 | false => rfl
 | true => rfl
theorem step_perm:((S.flatMap fun x => fitG t T x.1)).Perm ((jnL A T (pairsP a t)).map fun z => (rowE c (joinR a t (pairsP a t)) z.1,1)):=by
 have e1:(S.flatMap fun x => fitG t T x.1)=(S.map Prod.fst).flatMap (fitG t T):=by rw [List.flatMap_map]
 have e2:(A.map fun w => rowE c a w.1).flatMap (fitG t T)=(jnL A T (pairsP a t)).map fun z => (rowE c (joinR a t (pairsP a t)) z.1,1):=by
  rw [List.flatMap_map]
  exact flatMap_map fun w hw => step_fit h p hw
 rw [e1,← e2]
 exact h.perm.flatMap_right _
theorem join_in {z:WRow} (hz:z∈jnL A T (pairsP a t)):∃ w y,w∈A∧y∈T∧(pairsP a t).all (eqP w.1 y.1)=true∧z=(joinR w.1 y.1 (pairsP a t),1):=by
 obtain ⟨w,hw,hz⟩:=List.mem_flatMap.1 hz
 obtain ⟨y,hy,hz⟩:=List.mem_flatMap.1 hz
 simp only [joinW] at hz
 cases e:(pairsP a t).all (eqP w.1 y.1) with
 | false => rw [e] at hz; cases hz
 | true =>
   rw [e,cond_true,List.mem_singleton] at hz
   refine ⟨w,y,hw,hy,e, ?_⟩
   rw [hz,(h.rows w hw).2.2,(p.rows y hy).2.2]
   rfl
theorem join_row {w y:WRow} (hw:w∈A) (hy:y∈T):(joinR w.1 y.1 (pairsP a t)).length=(joinR a t (pairsP a t)).length∧∀ x,x∈joinR w.1 y.1 (pairsP a t)→-100000≤x∧x≤100000:=by
 obtain ⟨w1,w2,_⟩:=h.rows w hw
 obtain ⟨y1,y2,_⟩:=p.rows y hy
 refine ⟨by simp only [joinR,List.length_append,pickR_len,w1,y1],fun x hx => ?_⟩
 rcases List.mem_append.1 hx with hx | hx
 · exact w2 x hx
 · obtain ⟨k, hk, rfl⟩ := List.mem_map.1 hx
   obtain ⟨j,hj,_,rfl⟩:=unp_mem.1 hk
   rw [Int.toNat_natCast]
   exact y2 _ (getD_mem 0 (by omega))
theorem pair_fit {w y y' : List Int} (hy : y.length = t.length) (hy' : y'.length = t.length) (h1 : (pairsP a t).all (eqP w y) = true) (h2 : (pairsP a t).all (eqP w y') = true)
 (e:pickR y (unpL y.length (pairsP a t))=pickR y' (unpL y'.length (pairsP a t))):y=y':=by
 refine row_ext hy hy' fun j hj => ?_
 cases c1:(pairsP a t).any (isP (j:Int)) with
 | true =>
   obtain ⟨q,hq,hj2⟩:=List.any_eq_true.1 c1
   have q1:=List.all_eq_true.1 h1 q hq
   have q2:=List.all_eq_true.1 h2 q hq
   obtain ⟨i,hi,hm,rfl⟩:=pairsP_mem.1 hq
   simp only [isP,List.getD_cons_succ,List.getD_cons_zero,beq_iff_eq] at hj2
   have ej:t.idxOf (a.getD i 0)=j:=by omega
   simp only [eqP,List.getD_cons_zero,List.getD_cons_succ,beq_iff_eq,Int.toNat_natCast,ej] at q1 q2
   rw [← q1,← q2]
 | false =>
   have hu:((j:Nat):Int)∈unpL t.length (pairsP a t):=unp_mem.2 ⟨j,hj,c1,rfl⟩
   rw [hy,hy'] at e
   have:=List.map_inj_left.1 e _ hu
   rwa [Int.toNat_natCast] at this
theorem join_keys:((jnL A T (pairsP a t)).map Prod.fst).Nodup:=by
 have inner:∀ w,w∈A→((T.flatMap (joinW (pairsP a t) w)).map Prod.fst).Nodup:=by
  intro w hw
  have:∀ U:List WRow,(∀ y,y∈U→y∈T)→(U.map Prod.fst).Nodup→((U.flatMap (joinW (pairsP a t) w)).map Prod.fst).Nodup:=by
   intro U
   induction U with
   | nil => intro _ _; exact List.nodup_nil
   | cons y U ih =>
     intro hU hn
     rw [List.map_cons,List.nodup_cons] at hn
     rw [List.flatMap_cons,List.map_append,List.nodup_append]
     refine ⟨by unfold joinW; cases (pairsP a t).all (eqP w.1 y.1) <;> simp,ih (fun z hz => hU z (by simp [hz])) hn.2,fun k hk k' hk' e => ?_⟩
     obtain ⟨z,hz,rfl⟩:=List.mem_map.1 hk
     obtain ⟨z',hz',rfl⟩:=List.mem_map.1 hk'
     obtain ⟨y',hy',hz'⟩:=List.mem_flatMap.1 hz'
     simp only [joinW] at hz hz'
     cases e1:(pairsP a t).all (eqP w.1 y.1) with
     | false => rw [e1] at hz; cases hz
     | true =>
       cases e2:(pairsP a t).all (eqP w.1 y'.1) with
       | false => rw [e2] at hz'; cases hz'
       | true =>
         rw [e1,cond_true,List.mem_singleton] at hz
         rw [e2,cond_true,List.mem_singleton] at hz'
         rw [hz,hz'] at e
         have e3:pickR y.1 (unpL y.1.length (pairsP a t))=pickR y'.1 (unpL y'.1.length (pairsP a t)):=List.append_cancel_left e
         have:=pair_fit h p (p.rows y (hU y (by simp))).1 (p.rows y' (hU y' (by simp [hy']))).1 e1 e2 e3
         exact hn.1 (List.mem_map.2 ⟨y',hy',this.symm⟩)
  exact this T (fun y hy => hy) (keys_nodup p.srt)
 have:∀ B:List WRow,(∀ w,w∈B→w∈A)→(B.map Prod.fst).Nodup→((B.flatMap fun x => T.flatMap (joinW (pairsP a t) x)).map Prod.fst).Nodup:=by
  intro B
  induction B with
  | nil => intro _ _; exact List.nodup_nil
  | cons w B ih =>
    intro hB hn
    rw [List.map_cons,List.nodup_cons] at hn
    rw [List.flatMap_cons,List.map_append,List.nodup_append]
    refine ⟨inner w (hB w (by simp)),ih (fun z hz => hB z (by simp [hz])) hn.2,fun k hk k' hk' e => ?_⟩
    obtain ⟨z,hz,rfl⟩:=List.mem_map.1 hk
    obtain ⟨z',hz',rfl⟩:=List.mem_map.1 hk'
    obtain ⟨w',hw',hz'⟩:=List.mem_flatMap.1 hz'
    obtain ⟨y,hy,hz⟩:=List.mem_flatMap.1 hz
    obtain ⟨y',hy',hz'⟩:=List.mem_flatMap.1 hz'
    have l1:=(h.rows w (hB w (by simp))).1
    have l2:=(h.rows w' (hB w' (by simp [hw']))).1
    have k1:∀ (v u:WRow) (x:WRow),x∈joinW (pairsP a t) v u→x.1=v.1 ++ pickR u.1 (unpL u.1.length (pairsP a t)):=fun v u x hx => by
        simp only [joinW] at hx
        cases e1:(pairsP a t).all (eqP v.1 u.1) with
        | false => rw [e1] at hx; cases hx
        | true => rw [e1,cond_true,List.mem_singleton] at hx; rw [hx]; rfl
    rw [k1 _ _ _ hz,k1 _ _ _ hz'] at e
    have:=(List.append_inj e (by rw [l1,l2])).1
    exact hn.1 (List.mem_map.2 ⟨w',hw',this.symm⟩)
 exact this A (fun w hw => hw) (keys_nodup h.srt)
end
theorem rowE_inj {c:Nat} {a w v:List Int} (ha:ToldOK c a) (hw:w.length=a.length) (hv:v.length=a.length) (e:rowE c a w=rowE c a v):w=v:=by
 refine row_ext hw hv fun i hi => ?_
 have hm:a[i]∈a:=List.getElem_mem hi
 have hb:=ha.2 _ hm
 have e1:=congrArg (fun r => r.getD (a[i]).toNat 0) e
 have e2:(((a[i]).toNat:Nat):Int)=a[i]:=by omega
 simp only [rowE_getD _ _ (show (a[i]).toNat<c by omega),cellE,e2,if_pos hm,ha.1.idxOf_getElem] at e1
 exact e1
section
variable {c:Nat} {a t:List Int} {A S T:List WRow} (h:StepOK c a A S) (p:PartOK c t T)
include h p
/-- A step keeps all that. -/
theorem step_next : StepOK c (joinR a t (pairsP a t)) (putsL [] (jnL A T (pairsP a t))) (putsL [] (S.flatMap fun x => fitG t T x.1)) ∧
 (putsL [] (S.flatMap fun x => fitG t T x.1)).length=(putsL [] (jnL A T (pairsP a t))).length:=by
 have hk:=join_keys h p
 have hp:=step_perm h p
 have ht:=told_more h.told p.told
 have hone:∀ z,z∈jnL A T (pairsP a t)→z.2≠0:=fun z hz => by
  obtain ⟨w,y,_,_,_,rfl⟩:=join_in h p hz
  show (1:Int)≠0
  omega
 have hlen:∀ z,z∈jnL A T (pairsP a t)→z.1.length=(joinR a t (pairsP a t)).length∧(∀ x,x∈z.1→-100000≤x∧x≤100000)∧z.2=1:=fun z hz => by
  obtain ⟨w,y,hw,hy,_,rfl⟩:=join_in h p hz
  obtain ⟨q1,q2⟩:=join_row h p hw hy
  exact ⟨q1,q2,rfl⟩
 have pA:(putsL [] (jnL A T (pairsP a t))).Perm (jnL A T (pairsP a t)):=puts_new _ [] (by simpa using hk) hone
 have kE:(((jnL A T (pairsP a t)).map fun z => (rowE c (joinR a t (pairsP a t)) z.1,(1:Int))).map Prod.fst).Nodup:=by
  rw [List.map_map]
  refine List.pairwise_map.2 (List.Pairwise.imp_of_mem (fun {x y} hx hy hne e => hne ?_) (List.pairwise_map.1 hk))
  exact rowE_inj ht (hlen x hx).1 (hlen y hy).1 e
 have kS:((S.flatMap fun x => fitG t T x.1).map Prod.fst).Nodup:=((hp.map Prod.fst).nodup_iff).2 kE
 have oS:∀ z,z∈(S.flatMap fun x => fitG t T x.1)→z.2=1:=fun z hz => by
  obtain ⟨u,_,rfl⟩:=List.mem_map.1 (hp.mem_iff.1 hz)
  rfl
 have pS:(putsL [] (S.flatMap fun x => fitG t T x.1)).Perm (S.flatMap fun x => fitG t T x.1):=puts_new _ [] (by simpa using kS) (fun z hz => by rw [oS z hz]; omega)
 obtain ⟨a1,a2,_⟩:=putsL_ok (jnL A T (pairsP a t)) (l:=[]) .nil (fun w hw => by cases hw)
 obtain ⟨b1,b2,_⟩:=putsL_ok (S.flatMap fun x => fitG t T x.1) (l:=[]) .nil (fun w hw => by cases hw)
 have pp:(putsL [] (S.flatMap fun x => fitG t T x.1)).Perm ((putsL [] (jnL A T (pairsP a t))).map fun z => (rowE c (joinR a t (pairsP a t)) z.1,1)):=(pS.trans hp).trans (pA.symm.map _)
 refine ⟨⟨ht,fun w hw => hlen w (pA.mem_iff.1 hw),a1,b1,fun w hw => oS w (pS.mem_iff.1 hw), ?_⟩,by rw [pp.length_eq,List.length_map]⟩
 have:=pp.map Prod.fst
 rw [List.map_map] at this
 exact this
end
end GoV

/- JoinParts: the specification's step. -/
namespace GoV
open Go
def fitO (t:List Int) (r:List Int) (y:WRow):List WRow:=match fitL r (t.zip y.1) with | some z => [(z,1)] | none => []
theorem fitO_len (t r:List Int) (y:WRow):(fitO t r y).length≤1:=by
 unfold fitO
 split <;> simp
theorem fitL_len : ∀ (q : List (Int × Int)) (r z : List Int), fitL r q = some z → z.length = r.length
 | [],r,z,h => by rw [fitL] at h; rw [Option.some.inj h]
 | x::q,r,z,h => by
   rw [fitL] at h
   split at h
   · cases h
   · rw [fitL_len q _ z h,List.length_set]
theorem fitO_mem {t r:List Int} {y w:WRow} (h:w∈fitO t r y):w.1.length=r.length∧w.2=1:=by
 unfold fitO at h
 split at h
 · rename_i z e
   rw [List.mem_singleton] at h
   rw [h]
   exact ⟨fitL_len _ _ _ e,rfl⟩
 · cases h
section
variable {ps:List (List Int)} {c:Nat} {tabs:List (Int × List WRow)} {S T:List WRow} {i:Nat} {cols:Int} {t:List Int}
variable (hi:i<ps.length) (hpi:ps.getD i []=t) (hil:i≤1000000) (hc:c≤6) (hS:S.length≤60) (hSr:∀ x,x∈S→x.1.length=c) (hT:T.length≤60) (hTr:∀ y,y∈T→y.1.length=t.length) (ht:ToldOK c t)
include hi hpi hil hc hS hSr hT hTr ht
theorem spec_inner {x : WRow} {j : Nat} {acc : List WRow} {b : Int × List WRow × Bool} (hx : x ∈ S) (hj : j < S.length) (ha : PutOK (0 + 1 * ((60 * j : Nat) : Int)) (0 + 60 * j) acc)
 (hb:xs1k.l20 ps (c:Int) 0 [] S (i:Int) cols T (putsL acc (fitG t T x.1)) tabs (tabs.length:Int) (i:Int) (S.length:Int) ((j+1:Nat):Int)=some b) :
 xs1k.l23 ps (c:Int) 0 [] S (i:Int) cols T acc x.1 x.2 tabs (tabs.length:Int) (i:Int) (S.length:Int) (j:Int) T (T.length:Int) 0=some b:=by
 have htl:=told_le c ht
 refine putsK_loop T ([],0) (fitO t x.1) (fun acc k => xs1k.l23 ps (c:Int) 0 [] S (i:Int) cols T acc x.1 x.2 tabs (tabs.length:Int) (i:Int) (S.length:Int) (j:Int) T (T.length:Int) (k:Int)) (fun acc => xs1k.l20 ps (c:Int) 0 [] S (i:Int) cols T acc tabs (tabs.length:Int) (i:Int) (S.length:Int) ((j+1:Nat):Int)) (M:=0+1 * ((60 * j:Nat):Int)) (m:=1) (N:=0+60 * j) (K:=1) (by omega) (by omega) ?_ ?_ ?_ acc b ha hb
 · intro y hy
   refine ⟨fitO_len t x.1 y,fun w hw => ?_⟩
   obtain ⟨h1,h2⟩:=fitO_mem hw
   rw [h1,hSr x hx,h2]
   exact ⟨by omega,by omega,by omega⟩
 · intro acc b _ hb
   exact xs1k.eq23 _ _ _ _ _ _ _ _ _ _ _ _ _ _ _ _ _ _ _ (by simp only [xs1k.t23,ix_lt,Nat.lt_irrefl,decide_false,cond_false,wrap_succ (show j<9223372036854775807 by omega)]; exact hb)
 · intro acc k b hk ha hb
   have hy:=hTr _ (getD_mem (([]:List Int),(0:Int)) hk)
   have hxl:=hSr x hx
   have e1:=spec_fits_eq (x:=x.1) (t:=t) (y:=(T.getD k ([],0)).1) (by omega) hy (by omega) (fun z hz => by rw [hxl]; exact ht.2 z hz)
   refine xs1k.eq23 _ _ _ _ _ _ _ _ _ _ _ _ _ _ _ _ _ _ _ ?_
   simp only [xs1k.t23,ix_lt,ix_nn,ix_nat,dec_t hk,dec_t hi,cond_true,hpi,e1,Option.bind_some,wrap_succ (show k<9223372036854775807 by omega)]
   simp only [fitO] at hb
   cases hf:fitL x.1 (t.zip (T.getD k ([],0)).1) with
   | none =>
     rw [hf] at hb
     simp only [outF,cond_false]
     exact hb
   | some z =>
     rw [hf] at hb
     have hz:=fitL_len _ _ _ hf
     simp only [outF,cond_true,xs2t_eq (n:=1) (Nat.le_trans ha.len (by omega)) ha.row (show z.length≤1073741824 by omega) (ha.wraps (m:=1) (n:=1) ⟨by omega,by omega⟩ (by omega)),Option.bind_some]
     exact hb
theorem spec_step {b : Int × List WRow × Bool}
 (hb:(bif decide (((putsL [] (S.flatMap fun x => fitG t T x.1)).length:Int) > 60) then some (0,[],false) else xs1k.l16 ps (c:Int) 0 [] (putsL [] (S.flatMap fun x => fitG t T x.1)) tabs (tabs.length:Int) ((i+1:Nat):Int))=some b) :
 xs1k.l20 ps (c:Int) 0 [] S (i:Int) cols T [] tabs (tabs.length:Int) (i:Int) (S.length:Int) 0=some b:=by
 refine putsK_loop S ([],0) (fun x => fitG t T x.1) (fun acc j => xs1k.l20 ps (c:Int) 0 [] S (i:Int) cols T acc tabs (tabs.length:Int) (i:Int) (S.length:Int) (j:Int)) (fun acc => bif decide ((acc.length:Int) > 60) then some (0,[],false) else xs1k.l16 ps (c:Int) 0 [] acc tabs (tabs.length:Int) ((i+1:Nat):Int)) (M:=0) (m:=1) (N:=0) (K:=60) (Int.le_refl _) (by omega) ?_ ?_ ?_ [] _ PutOK.nil hb
 · intro x hx
   refine ⟨Nat.le_trans (flatMap_len (fitO_len t x.1) T) hT,fun w hw => ?_⟩
   obtain ⟨y,_,h⟩:=List.mem_flatMap.1 hw
   obtain ⟨h1,h2⟩:=fitO_mem (t:=t) (r:=x.1) (y:=y) h
   rw [h1,hSr x hx,h2]
   exact ⟨by omega,by omega,by omega⟩
 · intro acc b _ hb
   exact xs1k.eq20 _ _ _ _ _ _ _ _ _ _ _ _ _ _ (by simp only [xs1k.t20,ix_lt,Nat.lt_irrefl,decide_false,cond_false,wrap_succ (show i<9223372036854775807 by omega)]; exact hb)
 · intro acc j b hj ha hb
   refine xs1k.eq20 _ _ _ _ _ _ _ _ _ _ _ _ _ _ ?_
   simp only [xs1k.t20,ix_lt,ix_nn,ix_nat,dec_t hj,cond_true]
   exact spec_inner hi hpi hil hc hS hSr hT hTr ht (getD_mem _ hj) hj ha hb
end
end GoV

/- JoinParts: the program's step. -/
namespace GoV
open Go
theorem pairG_len (a t:List Int) (i:Nat):(pairG a t i).length≤1:=by
 unfold pairG
 split <;> simp
theorem pairsP_len (a t:List Int):(pairsP a t).length≤a.length:=by
 have:=flatMap_len (pairG_len a t) (List.range a.length)
 rw [List.length_range] at this
 exact this
section
variable {ps:List (List Int)} {c:Nat} {rest:List (Int × List WRow)} {A:List WRow} {i:Nat} {a t:List Int} {T:List WRow}
variable (hi:i<rest.length) (hpi:i+1<ps.length) (hpt:ps.getD (i+1) []=t) (hT:rest.getD i (0,[])=((t.length:Int),T)) (hil:i≤1000000) (hc:c≤6)
variable (ha:ToldOK c a) (ht:ToldOK c t) (hA:A.length≤60) (hAr:∀ x,x∈A→x.1.length=a.length∧x.2=1) (hTl:T.length≤60) (hTr:∀ y,y∈T→y.1.length=t.length∧y.2=1)
include hi hpi hpt hT hil hc ha ht hA hAr hTl hTr
theorem impl_join_ok:JoinOK (a.length:Int) (t.length:Int) A T (pairsP a t):=by
 have la:=told_le c ha
 have lt:=told_le c ht
 have lp:=pairsP_len a t
 refine ⟨⟨by omega,by omega⟩,⟨by omega,by omega⟩,hA,hTl,by omega,fun x hx => ?_,fun y hy => ?_,fun p hp => ?_⟩
 · obtain ⟨h1, h2⟩ := hAr x hx
   rw [h1,h2]
   exact ⟨rfl,by omega,by omega⟩
 · obtain ⟨h1, h2⟩ := hTr y hy
   rw [h1,h2]
   exact ⟨rfl,by omega,by omega⟩
 · obtain ⟨k, hk, hm, rfl⟩ := pairsP_mem.1 hp
   have:=List.idxOf_lt_length_of_mem hm
   simp only [List.getD_cons_zero,List.getD_cons_succ]
   exact ⟨rfl,⟨by omega,by omega⟩,by omega,by omega⟩
theorem impl_step {b : Int × List WRow × Bool}
 (hb:(bif decide (((putsL [] (jnL A T (pairsP a t))).length:Int) > 60) then some (0,[],false) else xi1e.l11 ps (c:Int) 0 [] ((joinR a t (pairsP a t)).length:Int) (putsL [] (jnL A T (pairsP a t))) (joinR a t (pairsP a t)) rest (rest.length:Int) ((i+1:Nat):Int))=some b) :
 xi1e.l11 ps (c:Int) 0 [] (a.length:Int) A a rest (rest.length:Int) (i:Int)=some b:=by
 have H:=impl_join_ok hi hpi hpt hT hil hc ha ht hA hAr hTl hTr
 have la:=told_le c ha
 have lt:=told_le c ht
 have lu:=unpL_len t.length (pairsP a t)
 have e1:=xi22_eq a t (by omega) (by omega)
 have e2:=xi17_eq H
 have e3:=xi1r_eq (ps:=pairsP a t) (by have:=pairsP_len a t; omega) (fun p hp => by have:=(H.pr p hp).1; omega) t.length (by omega)
 have et:((t.length:Nat):Int).toNat=t.length:=by omega
 rw [et] at e2
 have hcols:((a.length:Int)+((unpL t.length (pairsP a t)).length:Int))=((joinR a t (pairsP a t)).length:Int):=by rw [joinR_len]; omega
 rw [hcols] at e2
 have key : ∀ (n j : Nat) (a2 : List Int), j + n = (unpL t.length (pairsP a t)).length → a2 = a ++ pickR t ((unpL t.length (pairsP a t)).take j) →
  xi1e.l17 ps (c:Int) 0 [] ((joinR a t (pairsP a t)).length:Int) (putsL [] (jnL A T (pairsP a t))) a2 t rest (rest.length:Int) (i:Int) (unpL t.length (pairsP a t)) ((unpL t.length (pairsP a t)).length:Int) (j:Int)=some b:=by
  intro n
  induction n with
  | zero =>
    intro j a2 hj ha2
    have e:j=(unpL t.length (pairsP a t)).length:=by omega
    subst e
    rw [List.take_length] at ha2
    subst ha2
    refine xi1e.eq17 _ _ _ _ _ _ _ _ _ _ _ _ _ _ ?_
    simp only [xi1e.t17,ix_lt,Nat.lt_irrefl,decide_false,cond_false,wrap_succ (show i<9223372036854775807 by omega)]
    exact hb
  | succ n ih =>
    intro j a2 hj ha2
    have g:j<(unpL t.length (pairsP a t)).length:=by omega
    obtain ⟨k,hk,_,ek⟩:=unp_mem.1 (getD_mem (0:Int) g)
    have hl2:a2.length≤100:=by
        have htk:((unpL t.length (pairsP a t)).take j).length≤(unpL t.length (pairsP a t)).length:=by rw [List.length_take]; omega
        rw [ha2,List.length_append,pickR_len]; omega
    have g0:(0:Int)≤(unpL t.length (pairsP a t)).getD j 0:=by omega
    have g1:((unpL t.length (pairsP a t)).getD j 0).toNat<t.length:=by omega
    have g2:∀ z:Int,a2.length+[z].length≤4294967296:=fun z => by rw [List.length_singleton]; omega
    refine xi1e.eq17 _ _ _ _ _ _ _ _ _ _ _ _ _ _ ?_
    simp only [xi1e.t17,ix_lt,ix_nn,ix_nat,dec_t g,cond_true,xs0s_eq a2 (by omega),Option.bind_some,dec_t g0,dec_t g1,dec_t (g2 _),wrap_succ (show j<9223372036854775807 by omega)]
    refine ih (j+1) _ (by omega) ?_
    rw [ha2,List.append_assoc,List.take_succ_eq_append_getElem g]
    simp only [pickR,List.map_append,List.map_cons,List.map_nil,getD_of_lt (l:=unpL t.length (pairsP a t)) g]
 have hg1:((i+1:Nat):Int).toNat=i+1:=by omega
 refine xi1e.eq11 _ _ _ _ _ _ _ _ _ _ ?_
 simp only [xi1e.t11,ix_lt,ix_nn,ix_nat,dec_t hi,cond_true,wrap_succ (show i<9223372036854775807 by omega),dec_t hpi,hpt,hT,e1,e2,e3,Option.bind_some]
 exact key (unpL t.length (pairsP a t)).length 0 a (by omega) (by simp [pickR])
end
/-- The run of both. -/
def runJ : List (List Int × List WRow) → List Int → List WRow → Option (List Int × List WRow)
 | [],a,A => some (a,A)
 | p::r,a,A => bif decide (((putsL [] (jnL A p.2 (pairsP a p.1))).length:Int) > 60) then none else runJ r (joinR a p.1 (pairsP a p.1)) (putsL [] (jnL A p.2 (pairsP a p.1)))
theorem slen {c:Nat} {a:List Int} {A S:List WRow} (h:StepOK c a A S):S.length=A.length∧∀ x,x∈S→x.1.length=c:=by
 have h1:=h.perm.length_eq
 rw [List.length_map,List.length_map] at h1
 refine ⟨h1,fun x hx => ?_⟩
 have h2:=h.perm.mem_iff.1 (List.mem_map.2 ⟨x,hx,rfl⟩)
 obtain ⟨w,_,e⟩:=List.mem_map.1 h2
 rw [← e,rowE_len]
/-- The specification's loop, from the first part that is left. -/
theorem spec_run {ps : List (List Int)} {tabs : List (Int × List WRow)} {c : Nat} (hc : c ≤ 6) (hl : tabs.length = ps.length) (hn : ps.length ≤ 100000) (hp : ∀ i, i < ps.length → (tabs.getD i (0, [])).1 = ((ps.getD i []).length : Int) ∧ PartOK c (ps.getD i []) (tabs.getD i (0, [])).2 ∧ (tabs.getD i (0, [])).2.length ≤ 60) :
 ∀ (n i : Nat) (a : List Int) (A S : List WRow), i + n = ps.length → StepOK c a A S → A.length ≤ 60 →
   (runJ ((ps.drop i).zip ((tabs.drop i).map Prod.snd)) a A=none∧xs1k.l16 ps (c:Int) 0 [] S tabs (tabs.length:Int) (i:Int)=some (0,[],false)) ∨
   ∃ a' A' S',runJ ((ps.drop i).zip ((tabs.drop i).map Prod.snd)) a A=some (a',A')∧StepOK c a' A' S'∧A'.length≤60∧∀ b,(xs2l (c:Int) S').bind (fun r => some (r.1,r.2.1,r.2.2))=some b→xs1k.l16 ps (c:Int) 0 [] S tabs (tabs.length:Int) (i:Int)=some b
 | 0,i,a,A,S,hi,h,hA => by
   have e:i=ps.length:=by omega
   subst e
   right
   refine ⟨a,A,S,by rw [List.drop_length,List.zip_nil_left,runJ],h,hA,fun b hb => xs1k.eq16 _ _ _ _ _ _ _ _ ?_⟩
   rw [hl]
   simp only [xs1k.t16,ix_lt,Nat.lt_irrefl,decide_false,cond_false]
   exact hb
 | n+1,i,a,A,S,hi,h,hA => by
   have g:i<ps.length:=by omega
   have gt:i<tabs.length:=by omega
   obtain ⟨p1,p2,p3⟩:=hp i g
   obtain ⟨s1,s2⟩:=slen h
   obtain ⟨n1,n2⟩:=step_next h p2
   have hr:runJ ((ps.drop i).zip ((tabs.drop i).map Prod.snd)) a A=bif decide (((putsL [] (jnL A (tabs.getD i (0,[])).2 (pairsP a (ps.getD i [])))).length:Int) > 60) then none else runJ ((ps.drop (i+1)).zip ((tabs.drop (i+1)).map Prod.snd)) (joinR a (ps.getD i []) (pairsP a (ps.getD i []))) (putsL [] (jnL A (tabs.getD i (0,[])).2 (pairsP a (ps.getD i [])))):=by
     rw [drop_getD ([]:List Int) g,drop_getD ((0,[]):Int × List WRow) gt,List.map_cons,List.zip_cons_cons,runJ]
   have st:∀ b,(bif decide (((putsL [] (S.flatMap fun x => fitG (ps.getD i []) (tabs.getD i (0,[])).2 x.1)).length:Int) > 60) then some (0,[],false) else xs1k.l16 ps (c:Int) 0 [] (putsL [] (S.flatMap fun x => fitG (ps.getD i []) (tabs.getD i (0,[])).2 x.1)) tabs (tabs.length:Int) ((i+1:Nat):Int))=some b→xs1k.l16 ps (c:Int) 0 [] S tabs (tabs.length:Int) (i:Int)=some b:=fun b hb => by
     have k:=spec_step (ps:=ps) (c:=c) (tabs:=tabs) (S:=S) (T:=(tabs.getD i (0,[])).2) (i:=i) (cols:=(tabs.getD i (0,[])).1) (t:=ps.getD i []) g rfl (by omega) hc (by omega) s2 p3 (fun y hy => (p2.rows y hy).1) p2.told hb
     refine xs1k.eq16 _ _ _ _ _ _ _ _ ?_
     simp only [xs1k.t16,ix_lt,ix_nn,ix_nat,dec_t gt,cond_true]
     exact k
   rw [n2] at st
   rw [hr]
   by_cases h60:((putsL [] (jnL A (tabs.getD i (0,[])).2 (pairsP a (ps.getD i [])))).length:Int) > 60
   · left
     rw [dec_t h60,cond_true]
     exact ⟨rfl,st _ (by rw [dec_t h60,cond_true])⟩
   · rw [dec_f h60, cond_false]
     simp only [dec_f h60,cond_false] at st
     rcases spec_run hc hl hn hp n (i+1) _ _ _ (by omega) n1 (by omega) with ⟨k1,k2⟩ | ⟨a',A',S',k1,k2,k3,k4⟩
     · exact .inl ⟨k1,st _ k2⟩
     · exact .inr ⟨a',A',S',k1,k2,k3,fun b hb => st _ (k4 b hb)⟩
/-- The program's loop, from the first part that is left. -/
theorem impl_run {ps : List (List Int)} {rest : List (Int × List WRow)} {c : Nat} (hc : c ≤ 6) (hl : rest.length + 1 = ps.length) (hn : ps.length ≤ 100000) (hp : ∀ i, i < rest.length → rest.getD i (0, []) = (((ps.getD (i + 1) []).length : Int), (rest.getD i (0, [])).2) ∧ PartOK c (ps.getD (i + 1) []) (rest.getD i (0, [])).2 ∧ (rest.getD i (0, [])).2.length ≤ 60) :
 ∀ (n i : Nat) (a : List Int) (A S : List WRow), i + n = rest.length → StepOK c a A S → A.length ≤ 60 →
   (runJ ((ps.drop (i+1)).zip ((rest.drop i).map Prod.snd)) a A=none→xi1e.l11 ps (c:Int) 0 [] (a.length:Int) A a rest (rest.length:Int) (i:Int)=some (0,[],false)) ∧
   ∀ a' A',runJ ((ps.drop (i+1)).zip ((rest.drop i).map Prod.snd)) a A=some (a',A')→∀ b,xi1e.l26 0 [] (a'.length:Int) A' a' [] (c:Int) 0=some b→xi1e.l11 ps (c:Int) 0 [] (a.length:Int) A a rest (rest.length:Int) (i:Int)=some b
 | 0,i,a,A,S,hi,h,hA => by
   have e:i=rest.length:=by omega
   subst e
   rw [List.drop_length,List.map_nil,List.zip_nil_right,runJ]
   refine ⟨fun h => (by cases h),fun a' A' hr b hb => xi1e.eq11 _ _ _ _ _ _ _ _ _ _ ?_⟩
   obtain ⟨rfl,rfl⟩:=Prod.mk.inj (Option.some.inj hr)
   simp only [xi1e.t11,ix_lt,Nat.lt_irrefl,decide_false,cond_false]
   exact hb
 | n+1,i,a,A,S,hi,h,hA => by
   have g:i<rest.length:=by omega
   have gp:i+1<ps.length:=by omega
   obtain ⟨p1,p2,p3⟩:=hp i g
   obtain ⟨n1,_⟩:=step_next h p2
   have hr:runJ ((ps.drop (i+1)).zip ((rest.drop i).map Prod.snd)) a A=bif decide (((putsL [] (jnL A (rest.getD i (0,[])).2 (pairsP a (ps.getD (i+1) [])))).length:Int) > 60) then none else runJ ((ps.drop (i+1+1)).zip ((rest.drop (i+1)).map Prod.snd)) (joinR a (ps.getD (i+1) []) (pairsP a (ps.getD (i+1) []))) (putsL [] (jnL A (rest.getD i (0,[])).2 (pairsP a (ps.getD (i+1) [])))):=by
     rw [drop_getD ([]:List Int) gp,drop_getD ((0,[]):Int × List WRow) g,List.map_cons,List.zip_cons_cons,runJ]
   have st:=fun b hb => impl_step (b:=b) g gp rfl p1 (show i≤1000000 by omega) hc h.told p2.told hA (fun x hx => ⟨(h.rows x hx).1,(h.rows x hx).2.2⟩) p3 (fun y hy => ⟨(p2.rows y hy).1,(p2.rows y hy).2.2⟩) hb
   rw [hr]
   by_cases h60:((putsL [] (jnL A (rest.getD i (0,[])).2 (pairsP a (ps.getD (i+1) [])))).length:Int) > 60
   · rw [dec_t h60, cond_true]
     exact ⟨fun _ => st _ (by rw [dec_t h60,cond_true]),fun a' A' hr => by cases hr⟩
   · rw [dec_f h60, cond_false]
     obtain ⟨k1,k2⟩:=impl_run hc hl hn hp n (i+1) _ _ _ (by omega) n1 (by omega)
     exact ⟨fun hr => st _ (by rw [dec_f h60,cond_false]; exact k1 hr),fun a' A' hr b hb => st _ (by rw [dec_f h60,cond_false]; exact k2 a' A' hr b hb)⟩
end GoV

/- Tables with some columns: the program's answer is the specification's. -/
namespace GoV
open Go
def projW (cs:List Int) (w:WRow):WRow:=(pickR w.1 cs,w.2)
def projG (cs:List Int) (w:WRow):List WRow:=[(pickR w.1 cs,w.2)]
theorem projG_map (cs : List Int) : ∀ l : List WRow, l.flatMap (projG cs) = l.map (projW cs)
 | [] => rfl
 | w::l => by rw [List.flatMap_cons,projG_map cs l]; rfl
section
variable {c:Int} {l:List WRow} {cs:List Int} (hg:goodT c l=true) (hc:colsB c cs=true)
include hg hc
theorem proj_fit:l.length≤60∧cs.length≤6∧(∀ w,w∈l→(∀ k,k∈cs→0≤k∧k.toNat<w.1.length)∧(-1000000≤w.2∧w.2≤1000000)):=by
 obtain ⟨_,h1,h2,_⟩:=goodT_iff.1 hg
 simp only [colsB,Bool.and_eq_true,decide_eq_true_eq] at hc
 refine ⟨h1,hc.2,fun w hw => ?_⟩
 obtain ⟨_,h3,h4,_⟩:=rowB_iff.1 (h2 w hw)
 refine ⟨fun k hk => ?_,h4⟩
 have:=plB_iff.1 (List.all_eq_true.1 hc.1 k hk)
 omega
theorem xi0r_eq:xi0r c l cs=some ((cs.length:Int),putsL [] (l.map (projW cs))):=by
 obtain ⟨h1,h2,h3⟩:=proj_fit hg hc
 have hm:∀ w,w∈l.map (projW cs)→w.1.length≤1073741824∧(-1000000≤w.2∧w.2≤1000000):=fun w hw => by
  obtain ⟨u,hu,rfl⟩:=List.mem_map.1 hw
  refine ⟨?_,(h3 u hu).2⟩
  simp only [projW,pickR_len]; omega
 have e5:=impl_summed_one (c:=(cs.length:Int)) (M:=1000000) (b:=l.map (projW cs)) (by rw [List.length_map]; omega) (fun w hw => (hm w hw).1) (by omega) (fun w hw => (hm w hw).2) (by rw [List.length_map]; omega)
 refine xi0r.eq c l cs ?_
 simp only [xi0r.t]
 refine push_loop l ([],0) (fun acc i => xi0r.l3 cs 0 [] acc l (l.length:Int) (i:Int)) (projG cs) (fun _ => Nat.le_refl _) (fun acc => (xi2f (cs.length:Int) [acc]).bind fun r1 => some (r1.fst,r1.snd)) ?_ ?_ _ ?_
 · intro acc b _ hb
   exact xi0r.eq3 _ _ _ _ _ _ _ (by simp only [xi0r.t3,ix_lt,Nat.lt_irrefl,decide_false,cond_false]; exact hb)
 · intro acc i b hi ha hb
   obtain ⟨h4,h5⟩:=h3 _ (getD_mem ([],0) hi)
   refine xi0r.eq3 _ _ _ _ _ _ _ ?_
   have h6:acc.length+[(pickR (l.getD i ([],0)).1 cs,(l.getD i ([],0)).2)].length≤4294967296:=by simp only [List.length_cons,List.length_nil]; omega
   simp only [xi0r.t3,ix_lt,ix_nn,ix_nat,dec_t hi,cond_true,xi16_eq (show cs.length≤1073741824 by omega) h4,Option.bind_some,dec_t h6,wrap_succ (show i<9223372036854775807 by omega)]
   exact hb
 · rw [projG_map,e5]; rfl
end
end GoV

/- JoinParts: the columns put in order; both answers in the end. -/
namespace GoV
open Go
def ordL (c:Nat) (a:List Int):List Int:=(List.range c).map fun k:Nat => ((a.idxOf (k:Int):Nat):Int)
section
variable {c:Nat} {a:List Int} {A S:List WRow} (hc:1≤c∧c≤6) (h:StepOK c a A S) (hA:A.length≤60) (hcov:∀ k:Nat,k<c→(k:Int)∈a)
include hc h hA hcov
theorem run_good:goodT (a.length:Int) A=true:=by
 have la:=told_le c h.told
 refine goodT_iff.2 ⟨⟨by omega,by omega⟩,hA,fun w hw => ?_,h.srt⟩
 obtain ⟨w1,w2,w3⟩:=h.rows w hw
 refine rowB_iff.2 ⟨?_,by omega,by omega,by omega⟩
 simp only [goodR,Bool.and_eq_true,List.all_eq_true,decide_eq_true_eq]
 exact ⟨fun x hx => inB_iff.2 (w2 x hx),by omega⟩
theorem ord_cols:colsB (a.length:Int) (ordL c a)=true:=by
 simp only [colsB,Bool.and_eq_true,List.all_eq_true,decide_eq_true_eq]
 refine ⟨fun x hx => ?_,by simp only [ordL,List.length_map,List.length_range]; omega⟩
 obtain ⟨k,hk,rfl⟩:=List.mem_map.1 hx
 have:=List.idxOf_lt_length_of_mem (hcov k (by simpa using hk))
 exact plB_iff.2 ⟨by omega,by omega⟩
theorem ord_row {w:List Int}:pickR w (ordL c a)=rowE c a w:=by
 simp only [pickR,ordL,rowE,List.map_map]
 refine List.map_congr_left fun k hk => ?_
 simp only [Function.comp,Int.toNat_natCast,cellE,if_pos (hcov k (by simpa using hk))]
theorem run_rows:putsL [] (A.map (projW (ordL c a)))=S:=by
 have e1:A.map (projW (ordL c a))=(A.map fun w => rowE c a w.1).map fun r => (r,(1:Int)):=by
  rw [List.map_map]
  refine List.map_congr_left fun w hw => ?_
  simp only [Function.comp,projW,ord_row hc h hA hcov,(h.rows w hw).2.2]
 have e2:S=(S.map Prod.fst).map fun r => (r,(1:Int)):=by
  rw [List.map_map]
  refine (List.map_id S).symm.trans (List.map_congr_left fun w hw => ?_)
  show w=(w.1,1)
  rw [← h.sone w hw]
 have hp:(A.map (projW (ordL c a))).Perm S:=by
  rw [e1,e2]
  exact (h.perm.map _).symm
 obtain ⟨a1,a2,a3,_⟩:=putsL_ok (A.map (projW (ordL c a))) (l:=[]) .nil (fun w hw => by cases hw)
 refine norm_uniq a1 a2 h.ssrt (fun w hw => by rw [h.sone w hw]; omega) fun r => ?_
 rw [a3,wsum_perm hp]
 simp [wsum]
theorem impl_last:xi1e.l26 0 [] (a.length:Int) A a [] (c:Int) 0=some (bif goodT (c:Int) S then ((c:Int),S,true) else (0,[],false)):=by
 have e1:=xi0r_eq (run_good hc h hA hcov) (ord_cols hc h hA hcov)
 rw [run_rows hc h hA hcov] at e1
 obtain ⟨s1,s2⟩:=slen h
 have e2:=xi0u_eq (c:Int) S (by omega) (fun w hw => by have:=s2 w hw; omega)
 have la:=told_le c h.told
 have hlen:((ordL c a).length:Int)=(c:Int):=by simp [ordL]
 rw [hlen] at e1
 have key:∀ (n i:Nat) (o:List Int),i+n=c→o=(List.range i).map (fun k:Nat => ((a.idxOf (k:Int):Nat):Int))→xi1e.l26 0 [] (a.length:Int) A a o (c:Int) (i:Int)=some (bif goodT (c:Int) S then ((c:Int),S,true) else (0,[],false)):=by
  intro n
  induction n with
  | zero =>
    intro i o hi ho
    have e:i=c:=by omega
    subst e
    have eo:o=ordL i a:=ho
    rw [eo]
    refine xi1e.eq26 _ _ _ _ _ _ _ _ ?_
    simp only [xi1e.t26,ix_lt,Nat.lt_irrefl,decide_false,cond_false,e1,e2,Option.bind_some]
  | succ n ih =>
    intro i o hi ho
    have g:i<c:=by omega
    have hol:o.length=i:=by rw [ho,List.length_map,List.length_range]
    have e3:=index_int_eq a (i:Int) (by omega)
    rw [if_pos (hcov i g)] at e3
    have g2:∀ z:Int,o.length+[z].length≤4294967296:=fun z => by rw [List.length_singleton]; omega
    refine xi1e.eq26 _ _ _ _ _ _ _ _ ?_
    simp only [xi1e.t26,ix_lt,dec_t g,cond_true,e3,Option.bind_some,dec_t (g2 _),wrap_succ (show i<9223372036854775807 by omega)]
    exact ih (i+1) _ (by omega) (by rw [ho,List.range_succ,List.map_append]; rfl)
 exact key c 0 [] (by omega) rfl
theorem spec_last:(xs2l (c:Int) S).bind (fun r => some (r.1,r.2.1,r.2.2))=some (bif goodT (c:Int) S then ((c:Int),S,true) else (0,[],false)):=by
 obtain ⟨s1,s2⟩:=slen h
 have e:=xs2l_eq (c:Int) S (by omega) (fun w hw => by have:=s2 w hw; omega)
 rw [e,Option.bind_some]
end
end GoV
