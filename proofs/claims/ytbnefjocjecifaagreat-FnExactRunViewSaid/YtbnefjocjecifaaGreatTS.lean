/- A part of the proof of FnExactRunView: an interpreter of the model over plain data, its soundness, and what it makes of the functions that the statement reaches. Conditions: none beyond what the given statement itself says. -/
import Derived.Test.YtbnefjocjecifaaGreatTR
set_option linter.unusedVariables false
set_option linter.unusedSimpArgs false
set_option linter.unnecessarySimpa false
set_option linter.unusedSectionVars false
/- The library's stable sort of rows with weights. -/
namespace GoV
open Go
def Rows (d:List WRow):Prop:=∀ w,w∈d→w.1.length≤1073741824
theorem Rows.perm {d d':List WRow} (h:Rows d) (hp:d'.Perm d):Rows d':=fun w hw => h w (hp.mem_iff.1 hw)
open Classical in
/-- An answer that counts where the rows are no longer than they were. -/
noncomputable def gd {β:Type} (d:List WRow) (x:Option β):Option β:=if Rows d then x else none
theorem gd_some {β:Type} {d:List WRow} {x:Option β} {r:β}:gd d x=some r↔Rows d∧x=some r:=by
 unfold gd
 split
 · rename_i h; exact ⟨fun e => ⟨h,e⟩,fun e => e.2⟩
 · rename_i h; exact ⟨fun e => (by cases e),fun e => absurd e.1 h⟩
theorem gd_swap {d:List WRow} {i j:Nat} (hi:i<d.length) (hj:j<d.length) (h:Rows (swapL ([],0) d i j)):Rows d:=h.perm (swapL_perm hi hj).symm
theorem xi2r_eq (a:List Int) (n:Int) (b:List Int) (m:Int) (ha:a.length≤1073741824) (hb:b.length≤1073741824):xi2r a n b m=some (cmpL a b):=xi2r.eq _ _ _ _ (by simp only [xi2r.t,xi1v_eq _ _ ha hb,Option.bind_some])
theorem gt_dec (i j:Nat):decide ((i:Int) > (j:Int))=decide (j<i):=ix_lt j i
theorem ins_ok {d : List WRow} {a b : Nat} (hb : b ≤ d.length) (hl : d.length ≤ 1073741824) (hr : Rows d) (ha : a ≤ 1073741824) :
 ∃ d',xs0a d (a:Int) (b:Int)=some d'∧Mv ([],0) d d' a b∧SortS ([],0) ltW d' a b:=by
 refine Exists.elim (ins_outer (z := (([] : List Int), (0 : Int))) ltW_ord ltW_asym (a := a) (b := b) (N := d.length) hb
  (fun d i => gd d (xs0a.l1 d (a:Int) (b:Int) (i:Int)))
  (fun i d j => gd d (xs0a.l4 d (a:Int) (b:Int) (i:Int) (j:Int))) (fun d => gd d (some d)) ?_ ?_ ?_ ?_ ?_ _ (a+1) d rfl (by omega) rfl (.one (by omega))) ?_
 · intro d i r h hx
   obtain ⟨g1,g2⟩:=gd_some.1 hx
   exact gd_some.2 ⟨g1,xs0a.eq1 _ _ _ _ (by simp only [xs0a.t1,ix_lt,dec_f (show ¬ i<b by omega),cond_false]; exact g2)⟩
 · intro d i r h1 h2 _ hx
   obtain ⟨g1,g2⟩:=gd_some.1 hx
   exact gd_some.2 ⟨g1,xs0a.eq1 _ _ _ _ (by simp only [xs0a.t1,ix_lt,dec_t h2,cond_true]; exact g2)⟩
 · intro d i r h1 hx
   obtain ⟨g1,g2⟩:=gd_some.1 hx
   exact gd_some.2 ⟨g1,xs0a.eq4 _ _ _ _ _ (by simp only [xs0a.t4,gt_dec,Nat.lt_irrefl,decide_false,cond_false,wrap_succ (show i<9223372036854775807 by omega)]; exact g2)⟩
 · intro d1 i j r h1 h2 h3 h4 h5 hx
   obtain ⟨g1,g2⟩:=gd_some.1 hx
   have hj:j<d1.length:=by omega
   have hj1:j - 1<d1.length:=by omega
   have hc:decide (cmpL (d1.getD j ([],0)).1 (d1.getD (j - 1) ([],0)).1<0)=false:=h5
   exact gd_some.2 ⟨g1,xs0a.eq4 _ _ _ _ _ (by
    simp only [xs0a.t4,gt_dec,dec_t h1,wrap_pred (show 0<j by omega) (show j<9223372036854775807 by omega),ix_nn,ix_nat,dec_t hj,dec_t hj1,cond_true,xi2r_eq _ _ _ _ (g1 _ (getD_mem ([],0) hj)) (g1 _ (getD_mem ([],0) hj1)),Option.bind_some,hc,cond_false,wrap_succ (show i<9223372036854775807 by omega)]
    exact g2)⟩
 · intro d1 i j r h1 h2 h3 h4 h5 hx
   obtain ⟨g1,g2⟩:=gd_some.1 hx
   have hj:j<d1.length:=by omega
   have hj1:j - 1<d1.length:=by omega
   have g1:=gd_swap hj hj1 g1
   have hc:decide (cmpL (d1.getD j ([],0)).1 (d1.getD (j - 1) ([],0)).1<0)=true:=h5
   have hs:∀ x:WRow,decide (j - 1<(d1.set j x).length)=true:=fun x => by rw [List.length_set]; exact dec_t hj1
   exact gd_some.2 ⟨g1,xs0a.eq4 _ _ _ _ _ (by
    simp only [xs0a.t4,gt_dec,dec_t h1,wrap_pred (show 0<j by omega) (show j<9223372036854775807 by omega),ix_nn,ix_nat,dec_t hj,dec_t hj1,cond_true,xi2r_eq _ _ _ _ (g1 _ (getD_mem ([],0) hj)) (g1 _ (getD_mem ([],0) hj1)),Option.bind_some,hc,hs]
    exact g2)⟩
 · rintro d' ⟨h1, h2, h3⟩
   refine ⟨d', ?_,h1,h2⟩
   have:=(gd_some.1 (h3 d' (gd_some.2 ⟨hr.perm h1.perm,rfl⟩))).2
   exact xs0a.eq _ _ _ (by simp only [xs0a.t,wrap_succ (show a<9223372036854775807 by omega)]; exact this)
theorem w_add {i j:Nat} (h:i+j<4611686018427387904):IntKind.i64.wrap ((i:Int)+(j:Int))=((i+j:Nat):Int):=by rw [wrap_id] <;> omega
theorem w_sub {i j:Nat} (h:j≤i) (h2:i<4611686018427387904):IntKind.i64.wrap ((i:Int) - (j:Int))=((i - j:Nat):Int):=by rw [wrap_id] <;> omega
theorem swapRange_ok {d : List WRow} {a b n : Nat} (h2 : b + n ≤ d.length) (h3 : a + n ≤ d.length) (hl : d.length ≤ 1073741824) :
 xs0f d (a:Int) (b:Int) (n:Int)=some (swapR ([],0) n d a b):=by
 refine xs0f.eq _ _ _ _ ?_
 simp only [xs0f.t]
 refine swap_loop (z:=(([]:List Int),(0:Int))) (n:=n) (a:=a) (b:=b) (N:=d.length) (fun d i => xs0f.l1 d (a:Int) (b:Int) (n:Int) (i:Int)) some ?_ ?_ n 0 d rfl rfl (Nat.zero_le _) _ rfl
 · intro d1 r _ hx
   exact xs0f.eq1 _ _ _ _ _ (by simp only [xs0f.t1,ix_lt,Nat.lt_irrefl,decide_false,cond_false]; exact hx)
 · intro d1 i r hi hd hx
   have ha:a+i<d1.length:=by omega
   have hb:b+i<d1.length:=by omega
   have hs:∀ x:WRow,decide (b+i<(d1.set (a+i) x).length)=true:=fun x => by rw [List.length_set]; exact dec_t hb
   exact xs0f.eq1 _ _ _ _ _ (by
    simp only [xs0f.t1,ix_lt,dec_t hi,cond_true,w_add (show a+i<4611686018427387904 by omega),w_add (show b+i<4611686018427387904 by omega),ix_nn,ix_nat,dec_t ha,dec_t hb,hs,wrap_succ (show i<9223372036854775807 by omega)]
    exact hx)
theorem rotate_ok {d : List WRow} {a m b : Nat} (ha : a < m) (hb : m < b) (hbl : b ≤ d.length) (hl : d.length ≤ 1073741824) :
 ∃ d',xs0i d (a:Int) (m:Int) (b:Int)=some d'∧Mv ([],0) d d' a b∧RotF (fun k => d.getD k ([],0)) (fun k => d'.getD k ([],0)) a m b:=by
 refine Exists.elim (rot_loop (z:=(([]:List Int),(0:Int))) (m:=m) (N:=d.length) (fun d i j => xs0i.l2 d (m:Int) (i:Int) (j:Int)) some ?_ ?_ ?_ _ (m - a) (b - m) d rfl (by omega) (by omega) (by omega) (by omega) rfl) ?_
 · intro d1 i r h1 h2 h3 h4 hx
   refine xs0i.eq2 _ _ _ _ ?_
   have e:=swapRange_ok (d:=d1) (a:=m - i) (b:=m) (n:=i) (by omega) (by omega) (by omega)
   simp only [xs0i.t2,bne_ref,cond_false,w_sub (show i≤m by omega) (show m<4611686018427387904 by omega),e,Option.bind_some]
   exact hx
 · intro d1 i j r h1 h2 h3 h4 h5 hx
   refine xs0i.eq2 _ _ _ _ ?_
   have e:=swapRange_ok (d:=d1) (a:=m - i) (b:=m) (n:=j) (by omega) (by omega) (by omega)
   simp only [xs0i.t2,bneI,dec_f (show ¬ i=j by omega),bang_f,cond_true,gt_dec,dec_t h1,w_sub (show i≤m by omega) (show m<4611686018427387904 by omega),e,Option.bind_some,w_sub (show j≤i by omega) (show i<4611686018427387904 by omega)]
   exact hx
 · intro d1 i j r h1 h2 h3 h4 h5 hx
   refine xs0i.eq2 _ _ _ _ ?_
   have e:=swapRange_ok (d:=d1) (a:=m - i) (b:=m+j - i) (n:=i) (by omega) (by omega) (by omega)
   simp only [xs0i.t2,bneI,dec_f (show ¬ i=j by omega),bang_f,cond_true,cond_false,gt_dec,dec_f (show ¬ j<i by omega),w_sub (show i≤m by omega) (show m<4611686018427387904 by omega),w_add (show m+j<4611686018427387904 by omega),w_sub (show i≤m+j by omega) (show m+j<4611686018427387904 by omega),e,Option.bind_some,w_sub (show i≤j by omega) (show j<4611686018427387904 by omega)]
   exact hx
 · rintro d' ⟨h1, h2, h3⟩
   rw [show m - (m - a)=a by omega,show m+(b - m)=b by omega] at h1 h2
   refine ⟨d',xs0i.eq _ _ _ _ ?_,h1,h2⟩
   simp only [xs0i.t,w_sub (show a≤m by omega) (show m<4611686018427387904 by omega),w_sub (show m≤b by omega) (show b<4611686018427387904 by omega)]
   exact h3 d' rfl
end GoV

/- The weight of a row: by binary search, and one by one. -/
namespace GoV
open Go
/-- The middle of two numbers, as Go reckons it. -/
theorem mid_nat (i j:Nat) (h:i+j<4611686018427387904):IntKind.i64.wrap ((IntKind.u64.wrap (IntKind.i64.wrap ((i:Int)+(j:Int)))).fdiv ((2:Int) ^ Min.min (Int.toNat (1:Int)) IntKind.u64.bits))=(((i+j) / 2:Nat):Int):=by
 have e1:IntKind.i64.wrap ((i:Int)+(j:Int))=((i+j:Nat):Int):=by rw [wrap_id] <;> omega
 have e2:IntKind.u64.wrap ((i+j:Nat):Int)=((i+j:Nat):Int):=by
  have:IntKind.u64.wrap ((i+j:Nat):Int)=((i+j:Nat):Int) % 18446744073709551616:=by simp [IntKind.wrap,IntKind.bits,IntKind.signed]
  rw [this]
  omega
 have e3:Min.min (Int.toNat (1:Int)) IntKind.u64.bits=1:=rfl
 rw [e1,e2,e3,Int.pow_one,Int.fdiv_eq_ediv_of_nonneg _ (by omega)]
 rw [wrap_id] <;> omega
section
variable {l:List WRow} {r:List Int} (hl:l.length≤1073741824) (hr:∀ w,w∈l→w.1.length≤1073741824) (hx:r.length≤1073741824) (hs:sortedW l)
include hl hr hx hs
end
end GoV

/- The library's stable sort of rows with weights: merging in place, and all of it. -/
namespace GoV
open Go
theorem RotF.none {f:Nat→WRow} {s m t:Nat} (h:s=m∨t=m) (h1:s≤m) (h2:m≤t):RotF f f s m t:=by
 intro k
 by_cases c1:s≤k∧k<s+(t - m)
 · rw [if_pos c1]; congr 1; omega
 · rw [if_neg c1]
   by_cases c2:s+(t - m)≤k∧k<t
   · rw [if_pos c2]; congr 1; omega
   · rw [if_neg c2]
theorem one_eq (i j:Nat) (h:j≤i) (h2:i<4611686018427387904):(IntKind.i64.wrap ((i:Int) - (j:Int)) == (1:Int))=decide (i - j=1):=by
 rw [w_sub h h2]
 by_cases e:i - j=1
 · rw [e]; rfl
 · rw [dec_f e]
   exact beq_eq_false_iff_ne.2 (by omega)
abbrev zW:WRow:=([],0)
/-- One element alone to the left. -/
theorem sym_left {d : List WRow} {a b : Nat} (hab : a + 1 < b) (hb : b ≤ d.length) (hl : d.length ≤ 1073741824) (hr : Rows d) (hs : SortS zW ltW d (a + 1) b) :
 ∃ d',xs0h d (a:Int) ((a+1:Nat):Int) (b:Int)=some d'∧Mv zW d d' a b∧SortS zW ltW d' a b:=by
 have hmono:∀ h k,a+1≤k→k≤h→h<b→ltW (d.getD h zW) (d.getD a zW)=true→ltW (d.getD k zW) (d.getD a zW)=true:=by
  intro h k h1 h2 h3 h4
  cases e:ltW (d.getD k zW) (d.getD a zW) with
  | true => rfl
  | false =>
    have:=ltW_ord.tr _ _ _ e (hs.le ltW_ord h1 h2 h3)
    rw [this] at h4; cases h4
 refine Exists.elim (bs_loop (p:=fun h => ltW (d.getD h zW) (d.getD a zW)) (lo:=a+1) (hi:=b) hmono (fun i j => xs0h.l3 d (a:Int) (i:Int) (j:Int)) (fun q => xs0h.l9 d (q:Int) (a:Int)) ?_ ?_ ?_ _ (a+1) b rfl (Nat.le_refl _) (by omega) (Nat.le_refl _) (fun k h1 h2 => by omega) (fun k h1 h2 => by omega)) ?_
 · intro i r h1 h2 hx
   exact xs0h.eq3 _ _ _ _ (by simp only [xs0h.t3,ix_lt,Nat.lt_irrefl,decide_false,cond_false]; exact hx)
 · intro i j r h1 h2 h3 h4 hx
   have hm:=mid_nat i j (by omega)
   have hh:(i+j) / 2<d.length:=by omega
   have hal:a<d.length:=by omega
   have hc:decide (cmpL (d.getD ((i+j) / 2) ([],0)).1 (d.getD a ([],0)).1<0)=true:=h4
   refine xs0h.eq3 _ _ _ _ ?_
   simp only [xs0h.t3,ix_lt,dec_t h1,cond_true,hm,ix_nn,ix_nat,dec_t hh,dec_t hal,xi2r_eq _ _ _ _ (hr _ (getD_mem ([],0) hh)) (hr _ (getD_mem ([],0) hal)),Option.bind_some,hc,wrap_succ (show (i+j) / 2<9223372036854775807 by omega)]
   exact hx
 · intro i j r h1 h2 h3 h4 hx
   have hm:=mid_nat i j (by omega)
   have hh:(i+j) / 2<d.length:=by omega
   have hal:a<d.length:=by omega
   have hc:decide (cmpL (d.getD ((i+j) / 2) ([],0)).1 (d.getD a ([],0)).1<0)=false:=h4
   refine xs0h.eq3 _ _ _ _ ?_
   simp only [xs0h.t3,ix_lt,dec_t h1,cond_true,hm,ix_nn,ix_nat,dec_t hh,dec_t hal,xi2r_eq _ _ _ _ (hr _ (getD_mem ([],0) hh)) (hr _ (getD_mem ([],0) hal)),Option.bind_some,hc,cond_false]
   exact hx
 · rintro q ⟨q1, q2, q3, q4, q5⟩
   refine Exists.elim (up_loop (z:=zW) (e:=q - 1) (N:=d.length) (by omega) (fun d k => xs0h.l9 d (q:Int) (k:Int)) some ?_ ?_ _ a d rfl (by omega) rfl) ?_
   · intro d1 r _ hx
     refine xs0h.eq9 _ _ _ ?_
     simp only [xs0h.t9,wrap_pred (show 0<q by omega) (show q<9223372036854775807 by omega),ix_lt,Nat.lt_irrefl,decide_false,cond_false]
     exact hx
   · intro d1 k r h1 h2 hx
     have hk:k<d1.length:=by omega
     have hk1:k+1<d1.length:=by omega
     have hset:∀ x:WRow,decide (k+1<(d1.set k x).length)=true:=fun x => by rw [List.length_set]; exact dec_t hk1
     refine xs0h.eq9 _ _ _ ?_
     simp only [xs0h.t9,wrap_pred (show 0<q by omega) (show q<9223372036854775807 by omega),ix_lt,dec_t h1,cond_true,wrap_succ (show k<9223372036854775807 by omega),ix_nn,ix_nat,dec_t hk,dec_t hk1,hset]
     exact hx
   · rintro d' ⟨k1, k2, k3⟩
     refine ⟨d',xs0h.eq _ _ _ _ ?_,k1.mono (Nat.le_refl _) (by omega), ?_⟩
     · simp only [xs0h.t, one_eq _ _ (show a ≤ a + 1 by omega) (show a + 1 < 4611686018427387904 by omega), dec_t (show a + 1 - a = 1 by omega), cond_true]
       exact q5 _ (k3 d' rfl)
     · refine sort_up (i := q) ltW_asym hs (by omega) q2 (fun k h1 h2 => q3 k (by omega) h2) (fun k h1 h2 => q4 k h1 h2) ?_
       intro k
       exact k2 k
/-- One element alone to the right. -/
theorem sym_right {d : List WRow} {a m : Nat} (ham : a + 1 < m) (hb : m + 1 ≤ d.length) (hl : d.length ≤ 1073741824) (hr : Rows d) (hs : SortS zW ltW d a m) :
 ∃ d',xs0h d (a:Int) (m:Int) ((m+1:Nat):Int)=some d'∧Mv zW d d' a (m+1)∧SortS zW ltW d' a (m+1):=by
 have hmono:∀ h k,a≤k→k≤h→h<m→(!ltW (d.getD m zW) (d.getD h zW))=true→(!ltW (d.getD m zW) (d.getD k zW))=true:=by
  intro h k h1 h2 h3 h4
  have h4':ltW (d.getD m zW) (d.getD h zW)=false:=by simpa using h4
  have:=ltW_ord.tr _ _ _ (hs.le ltW_ord h1 h2 h3) h4'
  rw [this]; rfl
 refine Exists.elim (bs_loop (p:=fun h => !ltW (d.getD m zW) (d.getD h zW)) (lo:=a) (hi:=m) hmono (fun i j => xs0h.l15 d (m:Int) (i:Int) (j:Int)) (fun q => xs0h.l21 d (q:Int) (m:Int)) ?_ ?_ ?_ _ a m rfl (Nat.le_refl _) (by omega) (Nat.le_refl _) (fun k h1 h2 => by omega) (fun k h1 h2 => by omega)) ?_
 · intro i r h1 h2 hx
   exact xs0h.eq15 _ _ _ _ (by simp only [xs0h.t15,ix_lt,Nat.lt_irrefl,decide_false,cond_false]; exact hx)
 · intro i j r h1 h2 h3 h4 hx
   have hm:=mid_nat i j (by omega)
   have hh:(i+j) / 2<d.length:=by omega
   have hal:m<d.length:=by omega
   have hc:decide (cmpL (d.getD m ([],0)).1 (d.getD ((i+j) / 2) ([],0)).1<0)=false:=by simpa [ltW] using h4
   refine xs0h.eq15 _ _ _ _ ?_
   simp only [xs0h.t15,ix_lt,dec_t h1,cond_true,hm,ix_nn,ix_nat,dec_t hh,dec_t hal,xi2r_eq _ _ _ _ (hr _ (getD_mem ([],0) hal)) (hr _ (getD_mem ([],0) hh)),Option.bind_some,hc,bang_f,wrap_succ (show (i+j) / 2<9223372036854775807 by omega)]
   exact hx
 · intro i j r h1 h2 h3 h4 hx
   have hm:=mid_nat i j (by omega)
   have hh:(i+j) / 2<d.length:=by omega
   have hal:m<d.length:=by omega
   have hc:decide (cmpL (d.getD m ([],0)).1 (d.getD ((i+j) / 2) ([],0)).1<0)=true:=by simpa [ltW] using h4
   refine xs0h.eq15 _ _ _ _ ?_
   simp only [xs0h.t15,ix_lt,dec_t h1,cond_true,cond_false,hm,ix_nn,ix_nat,dec_t hh,dec_t hal,xi2r_eq _ _ _ _ (hr _ (getD_mem ([],0) hal)) (hr _ (getD_mem ([],0) hh)),Option.bind_some,hc,bang_t]
   exact hx
 · rintro q ⟨q1, q2, q3, q4, q5⟩
   refine Exists.elim (down_loop (z:=zW) (e:=q) (N:=d.length) (fun d k => xs0h.l21 d (q:Int) (k:Int)) some ?_ ?_ _ m d rfl q2 (by omega) rfl) ?_
   · intro d1 r _ hx
     refine xs0h.eq21 _ _ _ ?_
     simp only [xs0h.t21,gt_dec,Nat.lt_irrefl,decide_false,cond_false]
     exact hx
   · intro d1 k r h1 h1' h2 hx
     have hk:k<d1.length:=by omega
     have hk1:k - 1<d1.length:=by omega
     have hset:∀ x:WRow,decide (k - 1<(d1.set k x).length)=true:=fun x => by rw [List.length_set]; exact dec_t hk1
     refine xs0h.eq21 _ _ _ ?_
     simp only [xs0h.t21,gt_dec,dec_t h1,cond_true,wrap_pred (show 0<k by omega) (show k<9223372036854775807 by omega),ix_nn,ix_nat,dec_t hk,dec_t hk1,hset]
     exact hx
   · rintro d' ⟨k1, k2, k3⟩
     refine ⟨d',xs0h.eq _ _ _ _ ?_,k1.mono q1 (Nat.le_refl _), ?_⟩
     · simp only [xs0h.t, one_eq _ _ (show a ≤ m by omega) (show m < 4611686018427387904 by omega), dec_f (show ¬ m - a = 1 by omega), cond_false, one_eq _ _ (show m ≤ m + 1 by omega) (show m + 1 < 4611686018427387904 by omega), dec_t (show m + 1 - m = 1 by omega), cond_true]
       exact q5 _ (k3 d' rfl)
     · refine sort_down (i := q) ltW_asym hs q1 q2 (fun k h1 h2 => by simpa using q3 k h1 h2) (fun k h1 h2 => by simpa using q4 k h1 h2) ?_
       intro k
       exact k2 k
end GoV

/- The library's stable sort of rows with weights: merging in place. -/
namespace GoV
open Go
theorem sym_ok : ∀ (n : Nat) (d : List WRow) (a m b : Nat), b - a = n → a < m → m < b → b ≤ d.length → d.length ≤ 1073741824 → Rows d → SortS zW ltW d a m → SortS zW ltW d m b →
 ∃ d',xs0h d (a:Int) (m:Int) (b:Int)=some d'∧Mv zW d d' a b∧SortS zW ltW d' a b:=by
 intro n
 induction n using Nat.strongRecOn with
 | ind n ih =>
   intro d a m b hn ham hmb hb hl hr h1 h2
   by_cases e1:m=a+1
   · subst e1
     exact sym_left (by omega) hb hl hr h2
   by_cases e2:b=m+1
   · subst e2
     exact sym_right (by omega) hb hl hr h1
   obtain ⟨mid,hmid⟩:∃ mid,mid=(a+b) / 2:=⟨_,rfl⟩
   obtain ⟨s0,hs0⟩:∃ s0,s0=if m > mid then mid+m - b else a:=⟨_,rfl⟩
   obtain ⟨r0,hr0⟩:∃ r0,r0=if m > mid then mid else m:=⟨_,rfl⟩
   have hbd:∀ c,s0≤c→c<r0→(a≤c∧c<m)∧m≤mid+m - 1 - c∧mid+m - 1 - c<b:=by
    intro c g1 g2
    split at hs0 <;> split at hr0 <;> omega
   have hsr:s0≤r0∧r0<1073741824:=by
    split at hs0 <;> split at hr0 <;> omega
   have hmono:∀ h k,s0≤k→k≤h→h<r0→(!ltW (d.getD (mid+m - 1 - h) zW) (d.getD h zW))=true→(!ltW (d.getD (mid+m - 1 - k) zW) (d.getD k zW))=true:=by
    intro h k g1 g2 g3 g4
    have g4':ltW (d.getD (mid+m - 1 - h) zW) (d.getD h zW)=false:=by simpa using g4
    obtain ⟨⟨k1,k2⟩,k3,k4⟩:=hbd k g1 (by omega)
    obtain ⟨⟨k5,k6⟩,k7,k8⟩:=hbd h (by omega) g3
    have:=ltW_ord.tr _ _ _ (ltW_ord.tr _ _ _ (h1.le ltW_ord k1 g2 k6) g4') (h2.le ltW_ord k7 (show mid+m - 1 - h≤mid+m - 1 - k by omega) k4)
    rw [this]; rfl
   refine Exists.elim (bs_loop (p := fun c => !ltW (d.getD (mid + m - 1 - c) zW) (d.getD c zW)) (lo := s0) (hi := r0) hmono
    (fun i j => xs0h.l33 d (a:Int) (m:Int) (b:Int) (mid:Int) ((mid+m:Nat):Int) (i:Int) (j:Int) ((mid+m - 1:Nat):Int))
    (fun q => xs0h.l33 d (a:Int) (m:Int) (b:Int) (mid:Int) ((mid+m:Nat):Int) (q:Int) (q:Int) ((mid+m - 1:Nat):Int)) (fun i r _ _ h => h) ?_ ?_ _ s0 r0 rfl (Nat.le_refl _) hsr.1 (Nat.le_refl _) (fun k h1 h2 => by omega) (fun k h1 h2 => by omega)) ?_
   · intro i j r g1 g2 g3 g4 hx
     obtain ⟨⟨k1,k2⟩,k3,k4⟩:=hbd ((i+j) / 2) (by omega) (by omega)
     have hm:=mid_nat i j (by omega)
     have hh:(i+j) / 2<d.length:=by omega
     have hal:mid+m - 1 - (i+j) / 2<d.length:=by omega
     have hc:decide (cmpL (d.getD (mid+m - 1 - (i+j) / 2) ([],0)).1 (d.getD ((i+j) / 2) ([],0)).1<0)=false:=by simpa [ltW] using g4
     refine xs0h.eq33 _ _ _ _ _ _ _ _ _ ?_
     simp only [xs0h.t33,ix_lt,dec_t g1,cond_true,hm,w_sub (show (i+j) / 2≤mid+m - 1 by omega) (show mid+m - 1<4611686018427387904 by omega),ix_nn,ix_nat,dec_t hh,dec_t hal,xi2r_eq _ _ _ _ (hr _ (getD_mem ([],0) hal)) (hr _ (getD_mem ([],0) hh)),Option.bind_some,hc,bang_f,wrap_succ (show (i+j) / 2<9223372036854775807 by omega)]
     exact hx
   · intro i j r g1 g2 g3 g4 hx
     obtain ⟨⟨k1,k2⟩,k3,k4⟩:=hbd ((i+j) / 2) (by omega) (by omega)
     have hm:=mid_nat i j (by omega)
     have hh:(i+j) / 2<d.length:=by omega
     have hal:mid+m - 1 - (i+j) / 2<d.length:=by omega
     have hc:decide (cmpL (d.getD (mid+m - 1 - (i+j) / 2) ([],0)).1 (d.getD ((i+j) / 2) ([],0)).1<0)=true:=by simpa [ltW] using g4
     refine xs0h.eq33 _ _ _ _ _ _ _ _ _ ?_
     simp only [xs0h.t33,ix_lt,dec_t g1,cond_true,cond_false,hm,w_sub (show (i+j) / 2≤mid+m - 1 by omega) (show mid+m - 1<4611686018427387904 by omega),ix_nn,ix_nat,dec_t hh,dec_t hal,xi2r_eq _ _ _ _ (hr _ (getD_mem ([],0) hal)) (hr _ (getD_mem ([],0) hh)),Option.bind_some,hc,bang_t]
     exact hx
   · rintro s ⟨q1, q2, q3, q4, q5⟩
     obtain ⟨t,ht⟩:∃ t,t=mid+m - s:=⟨_,rfl⟩
     have hst:a≤s∧s≤m∧m≤t∧t≤b∧s≤mid∧mid≤t:=by
       split at hs0 <;> split at hr0 <;> omega
     obtain ⟨b1,b2,b3,b4,b5,b6⟩:=hst
     -- the rotation
     obtain ⟨e,he1,he2,he3,he4⟩:∃ e,Mv zW d e a b∧RotF (fun k => d.getD k zW) (fun k => e.getD k zW) s m t∧(s<m∧m<t→xs0i d (s:Int) (m:Int) (t:Int)=some e)∧(¬ (s<m∧m<t)→e=d):=by
       by_cases c:s<m∧m<t
       · obtain ⟨e, k1, k2, k3⟩ := rotate_ok (d := d) c.1 c.2 (by omega) hl
         exact ⟨e,k2.mono b1 b4,k3,fun _ => k1,fun h => absurd c h⟩
       · exact ⟨d,.refl _ _ _,RotF.none (by omega) b2 b3,fun h => absurd h c,fun _ => rfl⟩
     obtain ⟨_,x1,x2,x3,x4,x5⟩:=sym_halves ltW_ord ltW_asym hmid ham hmb h1 h2 hs0 hr0 q1 q2 ht (fun c g1 g2 => by simpa using q3 c g1 g2) (fun c g1 g2 => by simpa using q4 c g1 g2) he2
     have hel:e.length=d.length:=he1.len
     have her:Rows e:=hr.perm he1.perm
     -- the left half
     obtain ⟨f,hf1,hf2,hf3,hf4⟩:∃ f,Mv zW e f a mid∧SortS zW ltW f a mid∧(a<s∧s<mid→xs0h e (a:Int) (s:Int) (mid:Int)=some f)∧(¬ (a<s∧s<mid)→f=e):=by
       by_cases c:a<s∧s<mid
       · obtain ⟨f, k1, k2, k3⟩ := ih (mid - a) (by omega) e a s mid rfl c.1 c.2 (by omega) (by omega) her x1 x2
         exact ⟨f,k2,k3,fun _ => k1,fun h => absurd c h⟩
       · refine ⟨e, .refl _ _ _, ?_, fun h => absurd h c, fun _ => rfl⟩
         by_cases c2:a=s
         · rw [c2]; exact x2
         · have : s = mid := by omega
           rw [← this]; exact x1
     have hfl:f.length=e.length:=hf1.len
     have hfr:Rows f:=her.perm hf1.perm
     have hout:∀ k,mid≤k→f.getD k zW=e.getD k zW:=fun k hk => hf1.out k (.inr hk)
     have y3:SortS zW ltW f mid t:=x3.congr fun k g _ => hout k g
     have y4:SortS zW ltW f t b:=x4.congr fun k g _ => hout k (by omega)
     -- the right half
     obtain ⟨g,hg1,hg2,hg3,hg4⟩:∃ g,Mv zW f g mid b∧SortS zW ltW g mid b∧(mid<t∧t<b→xs0h f (mid:Int) (t:Int) (b:Int)=some g)∧(¬ (mid<t∧t<b)→g=f):=by
       by_cases c:mid<t∧t<b
       · obtain ⟨g, k1, k2, k3⟩ := ih (b - mid) (by omega) f mid t b rfl c.1 c.2 (by omega) (by omega) hfr y3 y4
         exact ⟨g,k2,k3,fun _ => k1,fun h => absurd c h⟩
       · refine ⟨f, .refl _ _ _, ?_, fun h => absurd h c, fun _ => rfl⟩
         by_cases c2:mid=t
         · rw [c2]; exact y4
         · have : t = b := by omega
           rw [← this]; exact y3
     have hmidb:a<mid∧mid<b:=by omega
     have hfg:Mv zW e g a b:=(hf1.mono (Nat.le_refl _) (by omega)).trans (hg1.mono (by omega) (Nat.le_refl _))
     have hin:∀ k,k<mid→g.getD k zW=f.getD k zW:=fun k hk => hg1.out k (.inl hk)
     refine ⟨g, ?_,he1.trans hfg, ?_⟩
     · refine xs0h.eq _ _ _ _ ?_
       have hm:=mid_nat a b (by omega)
       rw [← hmid] at hm
       have hres:xs0h.l33 d (a:Int) (m:Int) (b:Int) (mid:Int) ((mid+m:Nat):Int) (s:Int) (s:Int) ((mid+m - 1:Nat):Int)=some g:=by
         refine xs0h.eq33 _ _ _ _ _ _ _ _ _ ?_
         have hsub:IntKind.i64.wrap (((mid+m:Nat):Int) - (s:Int))=(t:Int):=by rw [w_sub (by omega) (by omega),ht]
         simp only [xs0h.t33,ix_lt,Nat.lt_irrefl,decide_false,cond_false,hsub]
         by_cases c1:s<m∧m<t
         · have z1 := he3 c1
           simp only [dec_t c1.1,dec_t c1.2,cond_true,z1,Option.bind_some]
           by_cases c2:a<s∧s<mid
           · have z2 := hf3 c2
             simp only [dec_t c2.1,dec_t c2.2,cond_true,z2,Option.bind_some]
             by_cases c3:mid<t∧t<b
             · simp only [dec_t c3.1,dec_t c3.2,cond_true,hg3 c3,Option.bind_some]
             · rw [hg4 c3]
               by_cases c4:mid<t
               · simp only [dec_t c4,dec_f (show ¬ t<b from fun h => c3 ⟨c4,h⟩),cond_true,cond_false]
               · simp only [dec_f c4,cond_false]
           · have z2 := hf4 c2
             subst z2
             by_cases c5:a<s
             · simp only [dec_t c5, dec_f (show ¬ s < mid from fun h => c2 ⟨c5, h⟩), cond_true, cond_false]
               by_cases c3:mid<t∧t<b
               · simp only [dec_t c3.1,dec_t c3.2,cond_true,hg3 c3,Option.bind_some]
               · rw [hg4 c3]
                 by_cases c4:mid<t
                 · simp only [dec_t c4,dec_f (show ¬ t<b from fun h => c3 ⟨c4,h⟩),cond_true,cond_false]
                 · simp only [dec_f c4,cond_false]
             · simp only [dec_f c5, cond_false]
               by_cases c3:mid<t∧t<b
               · simp only [dec_t c3.1,dec_t c3.2,cond_true,hg3 c3,Option.bind_some]
               · rw [hg4 c3]
                 by_cases c4:mid<t
                 · simp only [dec_t c4,dec_f (show ¬ t<b from fun h => c3 ⟨c4,h⟩),cond_true,cond_false]
                 · simp only [dec_f c4,cond_false]
         · have z1 := he4 c1
           subst z1
           have hno:(decide (s<m) && decide (m<t))=false:=by
            by_cases c6:s<m
            · rw [dec_f (show ¬ m<t from fun h => c1 ⟨c6,h⟩),Bool.and_false]
            · rw [dec_f c6,Bool.false_and]
           by_cases c6:s<m
           · simp only [dec_t c6, dec_f (show ¬ m < t from fun h => c1 ⟨c6, h⟩), cond_true, cond_false]
             by_cases c2:a<s∧s<mid
             · have z2 := hf3 c2
               simp only [dec_t c2.1,dec_t c2.2,cond_true,z2,Option.bind_some]
               by_cases c3:mid<t∧t<b
               · simp only [dec_t c3.1,dec_t c3.2,cond_true,hg3 c3,Option.bind_some]
               · rw [hg4 c3]
                 by_cases c4:mid<t
                 · simp only [dec_t c4,dec_f (show ¬ t<b from fun h => c3 ⟨c4,h⟩),cond_true,cond_false]
                 · simp only [dec_f c4,cond_false]
             · have z2 := hf4 c2
               subst z2
               by_cases c5:a<s
               · simp only [dec_t c5, dec_f (show ¬ s < mid from fun h => c2 ⟨c5, h⟩), cond_true, cond_false]
                 by_cases c3:mid<t∧t<b
                 · simp only [dec_t c3.1,dec_t c3.2,cond_true,hg3 c3,Option.bind_some]
                 · rw [hg4 c3]
                   by_cases c4:mid<t
                   · simp only [dec_t c4,dec_f (show ¬ t<b from fun h => c3 ⟨c4,h⟩),cond_true,cond_false]
                   · simp only [dec_f c4,cond_false]
               · simp only [dec_f c5, cond_false]
                 by_cases c3:mid<t∧t<b
                 · simp only [dec_t c3.1,dec_t c3.2,cond_true,hg3 c3,Option.bind_some]
                 · rw [hg4 c3]
                   by_cases c4:mid<t
                   · simp only [dec_t c4,dec_f (show ¬ t<b from fun h => c3 ⟨c4,h⟩),cond_true,cond_false]
                   · simp only [dec_f c4,cond_false]
           · simp only [dec_f c6, cond_false]
             by_cases c2:a<s∧s<mid
             · have z2 := hf3 c2
               simp only [dec_t c2.1,dec_t c2.2,cond_true,z2,Option.bind_some]
               by_cases c3:mid<t∧t<b
               · simp only [dec_t c3.1,dec_t c3.2,cond_true,hg3 c3,Option.bind_some]
               · rw [hg4 c3]
                 by_cases c4:mid<t
                 · simp only [dec_t c4,dec_f (show ¬ t<b from fun h => c3 ⟨c4,h⟩),cond_true,cond_false]
                 · simp only [dec_f c4,cond_false]
             · have z2 := hf4 c2
               subst z2
               by_cases c5:a<s
               · simp only [dec_t c5, dec_f (show ¬ s < mid from fun h => c2 ⟨c5, h⟩), cond_true, cond_false]
                 by_cases c3:mid<t∧t<b
                 · simp only [dec_t c3.1,dec_t c3.2,cond_true,hg3 c3,Option.bind_some]
                 · rw [hg4 c3]
                   by_cases c4:mid<t
                   · simp only [dec_t c4,dec_f (show ¬ t<b from fun h => c3 ⟨c4,h⟩),cond_true,cond_false]
                   · simp only [dec_f c4,cond_false]
               · simp only [dec_f c5, cond_false]
                 by_cases c3:mid<t∧t<b
                 · simp only [dec_t c3.1,dec_t c3.2,cond_true,hg3 c3,Option.bind_some]
                 · rw [hg4 c3]
                   by_cases c4:mid<t
                   · simp only [dec_t c4,dec_f (show ¬ t<b from fun h => c3 ⟨c4,h⟩),cond_true,cond_false]
                   · simp only [dec_f c4,cond_false]
       have hq:=q5 _ hres
       have hn:IntKind.i64.wrap ((mid:Int)+(m:Int))=((mid+m:Nat):Int):=w_add (by omega)
       have hp:IntKind.i64.wrap (((mid+m:Nat):Int) - (1:Int))=((mid+m - 1:Nat):Int):=wrap_pred (by omega) (by omega)
       simp only [xs0h.t,one_eq _ _ (show a≤m by omega) (show m<4611686018427387904 by omega),dec_f (show ¬ m - a=1 by omega),cond_false,one_eq _ _ (show m≤b by omega) (show b<4611686018427387904 by omega),dec_f (show ¬ b - m=1 by omega),hm,hn,hp,gt_dec]
       by_cases c:m > mid
       · rw [if_pos c] at hs0 hr0
         have hs:IntKind.i64.wrap (((mid+m:Nat):Int) - (b:Int))=(s0:Int):=by rw [w_sub (by omega) (by omega),hs0]
         simp only [dec_t (show mid<m from c),cond_true,hs]
         rw [hr0] at hq
         exact hq
       · rw [if_neg c] at hs0 hr0
         simp only [dec_f (show ¬ mid<m from c),cond_false]
         rw [hs0,hr0] at hq
         exact hq
     · refine sym_join (mid := mid) hfg (fun k g1 g2 => ?_) (fun k g1 g2 => ?_) (hf2.congr fun k _ g2 => hin k g2) hg2 x5
       · obtain ⟨j, k1, k2, k3⟩ := hf1.from' k g1 g2
         exact ⟨j,k1,k2,by rw [hin k g2]; exact k3⟩
       · obtain ⟨j, k1, k2, k3⟩ := hg1.from' k g1 g2
         exact ⟨j,k1,k2,by rw [k3]; exact hout j k1⟩
end GoV

/- The library's stable sort of rows with weights: blocks sorted, then merged. -/
namespace GoV
open Go
/-- The first A blocks of s are sorted, each in itself. -/
def LoB (d:List WRow) (s A n:Nat):Prop:=∀ q,q<A→q * s<n→SortS zW ltW d (q * s) (min (q * s+s) n)
/-- The blocks from the A-th on. -/
def HiB (d:List WRow) (s A n:Nat):Prop:=∀ q,A≤q→q * s<n→SortS zW ltW d (q * s) (min (q * s+s) n)
theorem mul_le_of_lt {q A s:Nat} (h:q<A):q * s+s≤A * s:=by
 have:=Nat.mul_le_mul_right s (show q+1≤A by omega)
 rwa [Nat.succ_mul] at this
theorem LoB.keep {d d':List WRow} {s A n a b:Nat} (h:LoB d s A n) (hm:Mv zW d d' a b) (ha:A * s≤a):LoB d' s A n:=fun q h1 h2 =>
 (h q h1 h2).congr fun k _ g2 => hm.out k (.inl (by have:=mul_le_of_lt (s:=s) h1; omega))
theorem HiB.keep {d d':List WRow} {s A n a b:Nat} (h:HiB d s A n) (hm:Mv zW d d' a b) (hb:b≤A * s):HiB d' s A n:=fun q h1 h2 =>
 (h q h1 h2).congr fun k g1 _ => hm.out k (.inr (by have:=Nat.mul_le_mul_right s h1; omega))
theorem blocks_ok {n : Nat} {β : Type} (L : List WRow → Nat → Option β) (K : List WRow → Option β) (hn : n ≤ 1073741824)
 (hs:∀ d d' A r,d.length=n→Rows d→A * 20+20≤n→xs0a d ((A * 20:Nat):Int) ((A * 20+20:Nat):Int)=some d'→L d' (A+1)=some r→L d A=some r)
 (he:∀ d d' A r,d.length=n→Rows d→A * 20≤n→n<A * 20+20→xs0a d ((A * 20:Nat):Int) (n:Int)=some d'→K d'=some r→L d A=some r) :
 ∀ m A d,n - A * 20=m→A * 20≤n→d.length=n→Rows d→LoB d 20 A n→∃ d' B,Mv zW d d' 0 n∧LoB d' 20 B n∧n<B * 20∧∀ r,K d'=some r→L d A=some r:=by
 intro m
 induction m using Nat.strongRecOn with
 | ind m ih =>
   intro A d hm hA hd hr hlo
   by_cases c:A * 20+20≤n
   · obtain ⟨d1, k1, k2, k3⟩ := ins_ok (d := d) (a := A * 20) (b := A * 20 + 20) (by omega) (by omega) hr (by omega)
     have hlo1:LoB d1 20 (A+1) n:=by
       intro q h1 h2
       by_cases e:q<A
       · exact (hlo.keep k2 (Nat.le_refl _)) q e h2
       · obtain rfl : q = A := by omega
         rw [Nat.min_eq_left c]
         exact k3
     obtain ⟨d',B,g1,g2,g3,g4⟩:=ih (n - (A+1) * 20) (by omega) (A+1) d1 rfl (by omega) (k2.len.trans hd) (hr.perm k2.perm) hlo1
     exact ⟨d',B,(k2.mono (by omega) c).trans g1,g2,g3,fun r hr' => hs d d1 A r hd hr c k1 (g4 r hr')⟩
   · obtain ⟨d1, k1, k2, k3⟩ := ins_ok (d := d) (a := A * 20) (b := n) (by omega) (by omega) hr (by omega)
     refine ⟨d1,A+1,k2.mono (by omega) (Nat.le_refl _), ?_,by omega,fun r hr' => he d d1 A r hd hr hA (by omega) k1 hr'⟩
     intro q h1 h2
     by_cases e:q<A
     · exact (hlo.keep k2 (Nat.le_refl _)) q e h2
     · obtain rfl : q = A := by omega
       rw [Nat.min_eq_right (by omega)]
       exact k3
theorem twice (A s:Nat):2 * A * s=A * (2 * s):=by rw [Nat.mul_comm 2 A,Nat.mul_assoc]
theorem twice1 (A s:Nat):(2 * A+1) * s=A * (2 * s)+s:=by rw [Nat.succ_mul,twice]
theorem twice2 (A s:Nat):2 * (A+1) * s=A * (2 * s)+2 * s:=by rw [twice,Nat.succ_mul]
theorem merges_ok {n s : Nat} {β : Type} (hs0 : 0 < s) (L : List WRow → Nat → Option β) (K : List WRow → Option β) (hn : n ≤ 1073741824)
 (hs:∀ d d' A r,d.length=n→Rows d→A * (2 * s)+2 * s≤n→xs0h d ((A * (2 * s):Nat):Int) ((A * (2 * s)+s:Nat):Int) ((A * (2 * s)+2 * s:Nat):Int)=some d'→L d' (A+1)=some r→L d A=some r)
 (he1:∀ d d' A r,d.length=n→Rows d→n<A * (2 * s)+2 * s→A * (2 * s)+s<n→xs0h d ((A * (2 * s):Nat):Int) ((A * (2 * s)+s:Nat):Int) (n:Int)=some d'→K d'=some r→L d A=some r)
 (he2:∀ d A r,d.length=n→Rows d→A * (2 * s)≤n→n≤A * (2 * s)+s→K d=some r→L d A=some r) :
 ∀ m A d,n - A * (2 * s)=m→A * (2 * s)≤n→d.length=n→Rows d→LoB d (2 * s) A n→HiB d s (2 * A) n→∃ d',Mv zW d d' 0 n∧HiB d' (2 * s) 0 n∧∀ r,K d'=some r→L d A=some r:=by
 intro m
 induction m using Nat.strongRecOn with
 | ind m ih =>
   intro A d hm hA hd hr hlo hhi
   have hfin:∀ d':List WRow,LoB d' (2 * s) (A+1) n→n≤A * (2 * s)+2 * s→HiB d' (2 * s) 0 n:=by
    intro d' h hle q _ h2
    refine h q ?_ h2
    rcases Nat.lt_or_ge q (A+1) with g | g
    · exact g
    · have := Nat.mul_le_mul_right (2 * s) g
      rw [Nat.succ_mul] at this
      omega
   have h1:A * (2 * s)<n→SortS zW ltW d (A * (2 * s)) (min (A * (2 * s)+s) n):=fun h => by
    have:=hhi (2 * A) (Nat.le_refl _) (by rw [twice]; exact h)
    rwa [twice] at this
   have h2:A * (2 * s)+s<n→SortS zW ltW d (A * (2 * s)+s) (min (A * (2 * s)+2 * s) n):=fun h => by
    have:=hhi (2 * A+1) (by omega) (by rw [twice1]; exact h)
    rw [twice1] at this
    rwa [show A * (2 * s)+s+s=A * (2 * s)+2 * s by omega] at this
   by_cases c:A * (2 * s)+2 * s≤n
   · have g1 := h1 (by omega)
     have g2:=h2 (by omega)
     rw [Nat.min_eq_left (by omega)] at g1 g2
     obtain ⟨d1,k1,k2,k3⟩:=sym_ok _ d (A * (2 * s)) (A * (2 * s)+s) (A * (2 * s)+2 * s) rfl (by omega) (by omega) (by omega) (by omega) hr g1 g2
     have hlo1:LoB d1 (2 * s) (A+1) n:=by
       intro q h1 h2
       by_cases e:q<A
       · exact (hlo.keep k2 (Nat.le_refl _)) q e h2
       · obtain rfl : q = A := by omega
         rw [Nat.min_eq_left c]
         exact k3
     have hhi1:HiB d1 s (2 * (A+1)) n:=HiB.keep (A:=2 * (A+1)) (fun q h1 h2 => hhi q (by omega) h2) k2 (by rw [twice2]; exact Nat.le_refl _)
     obtain ⟨d',g3,g4,g5⟩:=ih (n - (A+1) * (2 * s)) (by rw [Nat.succ_mul]; omega) (A+1) d1 rfl (by rw [Nat.succ_mul]; exact c) (k2.len.trans hd) (hr.perm k2.perm) hlo1 hhi1
     exact ⟨d',(k2.mono (by omega) c).trans g3,g4,fun r hr' => hs d d1 A r hd hr c k1 (g5 r hr')⟩
   · by_cases c2 : A * (2 * s) + s < n
     · have g1 := h1 (by omega)
       have g2:=h2 c2
       rw [Nat.min_eq_left (by omega)] at g1
       rw [Nat.min_eq_right (by omega)] at g2
       obtain ⟨d1,k1,k2,k3⟩:=sym_ok _ d (A * (2 * s)) (A * (2 * s)+s) n rfl (by omega) (by omega) (by omega) (by omega) hr g1 g2
       refine ⟨d1,k2.mono (by omega) (Nat.le_refl _),hfin d1 ?_ (by omega),fun r hr' => he1 d d1 A r hd hr (by omega) c2 k1 hr'⟩
       intro q h1 h2
       by_cases e:q<A
       · exact (hlo.keep k2 (Nat.le_refl _)) q e h2
       · obtain rfl : q = A := by omega
         rw [Nat.min_eq_right (by omega)]
         exact k3
     · refine ⟨d, .refl _ _ _, hfin d ?_ (by omega), fun r hr' => he2 d A r hd hr hA (by omega) hr'⟩
       intro q g1 g2
       by_cases e:q<A
       · exact hlo q e g2
       · obtain rfl : q = A := by omega
         have:=h1 g2
         rw [Nat.min_eq_right (by omega)] at this ⊢
         exact this
end GoV

/- The library's stable sort of rows with weights. -/
namespace GoV
open Go
theorem double_ok {n : Nat} (hn : n ≤ 1073741824) : ∀ (m s : Nat) (d : List WRow), n - s = m → 0 < s → s ≤ 2147483648 → d.length = n → Rows d → HiB d s 0 n →
 ∃ d',xs0j.l7 d (n:Int) (s:Int)=some d'∧Mv zW d d' 0 n∧SortS zW ltW d' 0 n:=by
 intro m
 induction m using Nat.strongRecOn with
 | ind m ih =>
   intro s d hm hs0 hs hd hr hB
   by_cases c:s<n
   · have hd2 : IntKind.i64.wrap ((2 : Int) * (s : Int)) = ((2 * s : Nat) : Int) := by rw [wrap_id] <;> omega
     have hd3:IntKind.i64.wrap ((s:Int) * (2:Int))=((2 * s:Nat):Int):=by rw [wrap_id] <;> omega
     refine Exists.elim (merges_ok (n:=n) (s:=s) hs0 (fun d A => xs0j.l9 d (n:Int) (s:Int) ((A * (2 * s):Nat):Int) ((A * (2 * s)+2 * s:Nat):Int)) (fun d => xs0j.l7 d (n:Int) ((2 * s:Nat):Int)) hn ?_ ?_ ?_ _ 0 d rfl (by omega) hd hr (fun q h => by omega) hB) ?_
     · intro d1 d2 A r h1 h2 h3 h4 hx
       refine xs0j.eq9 _ _ _ _ _ ?_
       have hle:((A * (2 * s)+2 * s:Nat):Int)≤(n:Int):=by omega
       simp only [xs0j.t9,dec_t hle,cond_true,w_add (show A * (2 * s)+s<4611686018427387904 by omega),h4,Option.bind_some,hd2,w_add (show A * (2 * s)+2 * s+2 * s<4611686018427387904 by omega)]
       rw [Nat.succ_mul] at hx
       exact hx
     · intro d1 d2 A r h1 h2 h3 h3' h4 hx
       refine xs0j.eq9 _ _ _ _ _ ?_
       have hle:¬ ((A * (2 * s)+2 * s:Nat):Int)≤(n:Int):=by omega
       simp only [xs0j.t9,dec_f hle,cond_false,w_add (show A * (2 * s)+s<4611686018427387904 by omega),ix_lt,dec_t h3',cond_true,h4,Option.bind_some,hd3]
       exact hx
     · intro d1 A r h1 h2 h3 h3' hx
       refine xs0j.eq9 _ _ _ _ _ ?_
       have hle:¬ ((A * (2 * s)+2 * s:Nat):Int)≤(n:Int):=by omega
       simp only [xs0j.t9,dec_f hle,cond_false,w_add (show A * (2 * s)+s<4611686018427387904 by omega),ix_lt,dec_f (show ¬ A * (2 * s)+s<n by omega),hd3]
       exact hx
     · rintro d1 ⟨k1, k2, k3⟩
       obtain ⟨d',g1,g2,g3⟩:=ih (n - 2 * s) (by omega) (2 * s) d1 rfl (by omega) (by omega) (k1.len.trans hd) (hr.perm k1.perm) k2
       refine ⟨d',xs0j.eq7 _ _ _ ?_,k1.trans g2,g3⟩
       have:=k3 d' g1
       simp only [Nat.zero_mul,Nat.zero_add] at this
       simp only [xs0j.t7,ix_lt,dec_t c,cond_true,hd2]
       exact this
   · refine ⟨d, xs0j.eq7 _ _ _ ?_, .refl _ _ _, ?_⟩
     · simp only [xs0j.t7,ix_lt,dec_f c,cond_false]
     · intro i j h1 h2 h3
       have:=hB 0 (Nat.le_refl _) (by omega)
       rw [Nat.zero_mul,Nat.zero_add,Nat.min_eq_right (by omega)] at this
       exact this i j h1 h2 h3
theorem sort_ok {d : List WRow} (hl : d.length ≤ 1073741824) (hr : Rows d) :
 ∃ d',xs04 d=some d'∧d'.Perm d∧SortS zW ltW d' 0 d'.length:=by
 refine Exists.elim (blocks_ok (n:=d.length) (fun d1 A => xs0j.l2 d1 (d.length:Int) 20 ((A * 20:Nat):Int) ((A * 20+20:Nat):Int)) (fun d1 => xs0j.l7 d1 (d.length:Int) 20) hl ?_ ?_ _ 0 d rfl (by omega) rfl hr (fun q h => by omega)) ?_
 · intro d1 d2 A r h1 h2 h3 h4 hx
   refine xs0j.eq2 _ _ _ _ _ ?_
   have hle:((A * 20+20:Nat):Int)≤(d.length:Int):=by omega
   have hw:IntKind.i64.wrap (((A * 20+20:Nat):Int)+(20:Int))=(((A+1) * 20+20:Nat):Int):=by rw [wrap_id] <;> omega
   have e:(A+1) * 20=A * 20+20:=by omega
   simp only [xs0j.t2,dec_t hle,cond_true,h4,Option.bind_some,hw]
   rw [← e]
   exact hx
 · intro d1 d2 A r h1 h2 h3 h3' h4 hx
   refine xs0j.eq2 _ _ _ _ _ ?_
   have hle:¬ ((A * 20+20:Nat):Int)≤(d.length:Int):=by omega
   simp only [xs0j.t2,dec_f hle,cond_false,h4,Option.bind_some]
   exact hx
 · rintro d1 ⟨B, k1, k2, k3, k4⟩
   have hB:HiB d1 20 0 d.length:=fun q _ h2 => k2 q (by omega) h2
   obtain ⟨d',g1,g2,g3⟩:=double_ok hl _ 20 d1 rfl (by omega) (by omega) k1.len (hr.perm k1.perm) hB
   have hm:=k1.trans g2
   refine ⟨d',xs04.eq _ ?_,hm.perm,by rw [hm.len]; exact g3⟩
   have h2:=k4 d' g1
   have h3:=xs0j.eq d (d.length:Int) (b:=d') (by simp only [xs0j.t]; exact h2)
   simp only [xs04.t,h3,Option.bind_some]
end GoV

/- A table handed on if it is good. -/
namespace GoV
open Go
end GoV

/- Lists of rows summed: what the program's 'summed' gives. -/
namespace GoV
open Go
theorem xi3r_eq {c M : Int} {ls : List (List WRow)} {a b : List WRow} (he : ls.flatten = a ++ b) (hn : ls.length ≤ 1073741824) (hl : ls.flatten.length ≤ 1073741824) (hr : Rows ls.flatten) (hM : 0 ≤ M) (hw : ∀ w, w ∈ ls.flatten → -M ≤ w.2 ∧ w.2 ≤ M) (hbig : M * (ls.flatten.length : Int) ≤ 9223372036854775807)
 (h1:sortedW a) (h2:nzW a):xi3r c ls=some (c,putsL a b):=by
 have e1:=slices_Concat_W_eq ls hl hn
 obtain ⟨d,e2,hp,hs⟩:=sort_ok (d:=ls.flatten) hl hr
 have hlen:d.length=ls.flatten.length:=hp.length_eq
 have e3:=(groups_ok (d:=d) (c:=c) (M:=M) (by omega) (hr.perm hp) hM (fun w hw' => hw w (hp.mem_iff.1 hw')) (by rw [hlen]; exact hbig) 0 (Nat.zero_le _)).1 [] (by simp)
 rw [List.drop_zero,List.nil_append,group_puts (by rw [← he]; exact hp) hs h1 h2] at e3
 refine xi3r.eq c ls ?_
 simp only [xi3r.t,e1,e2,Option.bind_some]
 exact e3
end GoV

/- Tables that are good, with as many columns. -/
namespace GoV
open Go
end GoV

/- Some cells of a row; numbers of columns. -/
namespace GoV
open Go
def pickR (r cs:List Int):List Int:=cs.map fun k => r.getD k.toNat 0
def pickG (r:List Int) (k:Int):List Int:=[r.getD k.toNat 0]
theorem pickG_map (r : List Int) : ∀ cs : List Int, cs.flatMap (pickG r) = pickR r cs
 | [] => rfl
 | k::cs => by rw [List.flatMap_cons,pickG_map r cs]; rfl
theorem pickR_len (r cs:List Int):(pickR r cs).length=cs.length:=by simp [pickR]
theorem xs46_eq {r cs:List Int} (hl:cs.length≤1073741824) (h:∀ k,k∈cs→0≤k∧k.toNat<r.length):xs46 r cs=some (pickR r cs):=by
 refine xs46.eq r cs ?_
 simp only [xs46.t]
 rw [← pickG_map]
 refine push_loop cs 0 (fun acc i => xs46.l3 r [] acc cs (cs.length:Int) (i:Int)) (pickG r) (fun _ => Nat.le_refl _) some ?_ ?_ _ rfl
 · intro acc b _ hb
   exact xs46.eq3 _ _ _ _ _ _ (by simp only [xs46.t3,ix_lt,Nat.lt_irrefl,decide_false,cond_false]; exact hb)
 · intro acc i b hi ha hb
   obtain ⟨h1,h2⟩:=h _ (getD_mem 0 hi)
   refine xs46.eq3 _ _ _ _ _ _ ?_
   have h3:acc.length+[r.getD (cs.getD i 0).toNat 0].length≤4294967296:=by simp only [List.length_cons,List.length_nil]; omega
   simp only [xs46.t3,ix_lt,ix_nn,ix_nat,dec_t hi,dec_t h1,dec_t h2,dec_t h3,cond_true,wrap_succ (show i<9223372036854775807 by omega)]
   exact hb
theorem xi20_eq {r cs:List Int} (hl:cs.length≤1073741824) (h:∀ k,k∈cs→0≤k∧k.toNat<r.length):xi20 r cs=some (pickR r cs):=by
 refine xi20.eq r cs ?_
 simp only [xi20.t]
 rw [← pickG_map]
 refine push_loop cs 0 (fun acc i => xi20.l3 r [] acc cs (cs.length:Int) (i:Int)) (pickG r) (fun _ => Nat.le_refl _) some ?_ ?_ _ rfl
 · intro acc b _ hb
   exact xi20.eq3 _ _ _ _ _ _ (by simp only [xi20.t3,ix_lt,Nat.lt_irrefl,decide_false,cond_false]; exact hb)
 · intro acc i b hi ha hb
   obtain ⟨h1,h2⟩:=h _ (getD_mem 0 hi)
   refine xi20.eq3 _ _ _ _ _ _ ?_
   have h3:acc.length+[r.getD (cs.getD i 0).toNat 0].length≤4294967296:=by simp only [List.length_cons,List.length_nil]; omega
   simp only [xi20.t3,ix_lt,ix_nn,ix_nat,dec_t hi,dec_t h1,dec_t h2,dec_t h3,cond_true,wrap_succ (show i<9223372036854775807 by omega)]
   exact hb
def plB (n k:Int):Bool:=decide (0≤k) && decide (k<n)
theorem plB_iff {n k:Int}:plB n k=true↔0≤k∧k<n:=by simp [plB]
def colsB (n:Int) (cs:List Int):Bool:=cs.all (plB n) && decide (cs.length≤6)
theorem xi35_eq' (x c:Int):xi35 x c=some (plB c x):=by
 refine xi35.eq x c ?_
 simp only [xi35.t,plB]
 by_cases h:0≤x
 · have h' : x ≥ 0 := h
   simp only [dec_t h,dec_t h',cond_true,Bool.true_and]
 · have h' : ¬ x ≥ 0 := h
   simp only [dec_f h,dec_f h',cond_false,Bool.false_and]
theorem lenDec (n k:Nat):decide ((n:Int)≤(k:Int))=decide (n≤k):=by
 by_cases h:n≤k
 · rw [dec_t h,dec_t (by omega)]
 · rw [dec_f h,dec_f (by omega)]
theorem xs2j_eq (cs:List Int) (n:Int) (hl:cs.length≤1073741824):xs2j cs n=some (colsB n cs):=by
 refine xs2j.eq cs n ?_
 simp only [xs2j.t]
 have:=all_loop cs 0 (fun i => xs2j.l2 cs n cs (cs.length:Int) (i:Int)) (plB n) false (decide (cs.length≤6)) ?_ ?_ ?_
 · refine Eq.trans this ?_
   simp only [colsB]
   cases cs.all (plB n) <;> rfl
 · exact xs2j.eq2 _ _ _ _ _ (by simp only [xs2j.t2,ix_lt,Nat.lt_irrefl,decide_false,cond_false]; exact congrArg some (lenDec cs.length 6))
 · intro i hi hb
   refine xs2j.eq2 _ _ _ _ _ ?_
   simp only [xs2j.t2,ix_lt,ix_nn,ix_nat,dec_t hi,cond_true]
   by_cases h1:cs.getD i 0<0
   · simp only [dec_t h1,cond_true]
   · have h2:cs.getD i 0 ≥ n:=by
        apply Classical.byContradiction
        intro h2
        rw [plB_iff.2 ⟨by omega,by omega⟩] at hb
        cases hb
     simp only [dec_f h1,dec_t h2,cond_true,cond_false]
 · intro i c hi hb hc
   refine xs2j.eq2 _ _ _ _ _ ?_
   obtain ⟨h1,h2⟩:=plB_iff.1 hb
   have h3:¬ cs.getD i 0<0:=by omega
   have h4:¬ cs.getD i 0 ≥ n:=by omega
   simp only [xs2j.t2,ix_lt,ix_nn,ix_nat,dec_t hi,cond_true,dec_f h3,dec_f h4,cond_false,wrap_succ (show i<9223372036854775807 by omega)]
   exact hc
theorem xi23_eq (cs:List Int) (n:Int) (hl:cs.length≤1073741824):xi23 cs n=some (colsB n cs):=by
 refine xi23.eq cs n ?_
 have e:=xi0w_ok cs n (plB n) (by omega) (fun x _ => xi1p.eq _ _ (by simp only [xi1p.t,xi35_eq',Option.bind_some]))
 have e2:decide ((cs.length:Int)≤6)=decide (cs.length≤6):=lenDec cs.length 6
 simp only [xi23.t,e,e2,Option.bind_some,colsB]
 by_cases h:cs.length≤6
 · simp only [dec_t h,cond_true,Bool.and_true]
 · simp only [dec_f h,cond_false,Bool.and_false]
theorem PutOK.nil:PutOK 0 0 []:=⟨Nat.le_refl _,fun _ h => (by cases h),fun _ h => (by cases h)⟩
/-- Rows summed, none ahead. -/
theorem impl_summed_one {c M:Int} {b:List WRow} (hl:b.length≤1073741824) (hr:Rows b) (hM:0≤M) (hw:∀ w,w∈b→-M≤w.2∧w.2≤M) (hbig:M * (b.length:Int)≤9223372036854775807):xi3r c [b]=some (c,putsL [] b):=by
 have e:[b].flatten=[] ++ b:=by simp
 have e':[b].flatten=b:=by simp
 exact xi3r_eq (M:=M) e (by simp) (by rw [e']; exact hl) (by rw [e']; exact hr) hM (by rw [e']; exact hw) (by rw [e']; exact hbig) .nil (fun _ h => (by cases h))
end GoV

/- Tests of rows: alike for the program and its specification. -/
namespace GoV
open Go
abbrev Tst:=Int × Int × Int
def testB (c:Int) (x:Tst):Bool:=(decide (0≤x.2.1) && decide (x.2.1<c)) && (inB 1 4 x.1 && ((bif x.1 == 4 then decide (0≤x.2.2) && decide (x.2.2<c) else true) && inB (-100000) 100000 x.2.2))
def testsB (c:Int) (l:List Tst):Bool:=l.all (testB c) && decide (l.length≤8)
def trueB (r:List Int) (x:Tst):Bool:=bif x.1 == 1 then r.getD x.2.1.toNat 0 == x.2.2 else bif x.1 == 2 then decide (r.getD x.2.1.toNat 0<x.2.2) else bif x.1 == 3 then decide (r.getD x.2.1.toNat 0 > x.2.2) else r.getD x.2.1.toNat 0 == r.getD x.2.2.toNat 0
theorem not_lt_dec (x y:Int):decide (x<y) = !decide (y≤x):=by
 by_cases h:x<y
 · rw [dec_t h,dec_f (by omega)]; rfl
 · rw [dec_f h,dec_t (by omega)]; rfl
theorem not_ge_dec (x y:Int):decide (x ≥ y) = !decide (x<y):=by
 by_cases h:x<y
 · rw [dec_t h,dec_f (by omega)]; rfl
 · rw [dec_f h,dec_t (by omega)]; rfl
theorem xs2i_eq (l:List Tst) (c:Int) (hl:l.length≤1073741824):xs2i l c=some (testsB c l):=by
 refine xs2i.eq l c ?_
 simp only [xs2i.t]
 have:=all_loop l (0,0,0) (fun i => xs2i.l2 l c l (l.length:Int) (i:Int)) (testB c) false (decide (l.length≤8)) ?_ ?_ ?_
 · refine Eq.trans this ?_
   simp only [testsB]
   cases l.all (testB c) <;> rfl
 · have e:decide ((l.length:Int)≤8)=decide (l.length≤8):=by
    by_cases h:l.length≤8
    · rw [dec_t h,dec_t (by omega)]
    · rw [dec_f h,dec_f (by omega)]
   exact xs2i.eq2 _ _ _ _ _ (by simp only [xs2i.t2,ix_lt,Nat.lt_irrefl,decide_false,cond_false,e])
 · intro i hi hb
   refine xs2i.eq2 _ _ _ _ _ ?_
   simp only [testB] at hb
   simp only [xs2i.t2,ix_lt,ix_nn,ix_nat,dec_t hi,cond_true,xs4h_eq,Option.bind_some,not_lt_dec (l.getD i (0,0,0)).2.1 0,not_lt_dec (l.getD i (0,0,0)).2.2 0,not_ge_dec (l.getD i (0,0,0)).2.1 c,not_ge_dec (l.getD i (0,0,0)).2.2 c]
   cases h1:decide (0≤(l.getD i (0,0,0)).2.1)
   · rfl
   · cases h2 : decide ((l.getD i (0, 0, 0)).2.1 < c)
     · rfl
     · cases h3 : inB 1 4 (l.getD i (0, 0, 0)).1
       · rfl
       · cases h4 : (l.getD i (0, 0, 0)).1 == 4
         · simp only [h1, h2, h3, h4, cond_false, Bool.true_and] at hb
           simp only [hb,bang_t,bang_f,cond_true,cond_false]
         · cases h5 : decide (0 ≤ (l.getD i (0, 0, 0)).2.2)
           · rfl
           · cases h6 : decide ((l.getD i (0, 0, 0)).2.2 < c)
             · rfl
             · simp only [h1, h2, h3, h4, h5, h6, cond_true, Bool.true_and] at hb
               simp only [hb,bang_t,bang_f,cond_true,cond_false]
 · intro i b hi hb hc
   refine xs2i.eq2 _ _ _ _ _ ?_
   simp only [testB,Bool.and_eq_true] at hb
   obtain ⟨⟨h1,h2⟩,h3,h4,h5⟩:=hb
   simp only [xs2i.t2,ix_lt,ix_nn,ix_nat,dec_t hi,cond_true,cond_false,xs4h_eq,Option.bind_some,not_lt_dec (l.getD i (0,0,0)).2.1 0,not_lt_dec (l.getD i (0,0,0)).2.2 0,not_ge_dec (l.getD i (0,0,0)).2.1 c,not_ge_dec (l.getD i (0,0,0)).2.2 c,h1,h2,h3,h5,bang_t,wrap_succ (show i<9223372036854775807 by omega)]
   cases h6:(l.getD i (0,0,0)).1 == 4
   · simp only [cond_false]; exact hc
   · rw [h6, cond_true, Bool.and_eq_true] at h4
     simp only [cond_true,cond_false,h4.1,h4.2,bang_t]; exact hc
theorem xi35_eq (x c:Int):xi35 x c=some (decide (0≤x) && decide (x<c)):=by
 refine xi35.eq x c ?_
 simp only [xi35.t]
 by_cases h:0≤x
 · have h' : x ≥ 0 := h
   simp only [dec_t h,dec_t h',cond_true,Bool.true_and]
 · have h' : ¬ x ≥ 0 := h
   simp only [dec_f h,dec_f h',cond_false,Bool.false_and]
theorem xi1s_eq (x:Tst) (c:Int) (hc:c≤6):xi1s x.1 x.2.1 x.2.2 c=some (testB c x):=by
 obtain ⟨k,p,n⟩:=x
 refine xi1s.eq _ _ _ _ ?_
 simp only [xi1s.t,xi35_eq,xi3s_eq,xi3p_eq,Option.bind_some,testB]
 cases decide (0≤p) && decide (p<c)
 · rfl
 · simp only [bang_t, cond_false, Bool.true_and]
   by_cases h:k=4
   · subst h
     have h1:((4:Int) == 4)=true:=rfl
     have h2:inB 1 4 4=true:=rfl
     simp only [h1,h2,cond_true,Bool.true_and]
     by_cases h3:0≤n
     · by_cases h4 : n < c
       · have h5 : inB (-100000) 100000 n = true := inB_iff.2 ⟨by omega, by omega⟩
         simp only [dec_t h3,dec_t h4,h5,Bool.and_true]
       · simp only [dec_f h4,Bool.and_false,Bool.false_and]
     · simp only [dec_f h3,Bool.false_and]
   · have h1 : (k == 4) = false := beq_eq_false_iff_ne.2 h
     have h2:inB 1 3 k=inB 1 4 k:=bool_eq (by rw [inB_iff,inB_iff]; omega)
     simp only [h1,h2,cond_false,Bool.true_and]
     cases inB 1 4 k <;> simp
theorem xi2d_eq (l:List Tst) (c:Int) (hl:l.length≤1073741824) (hc:c≤6):xi2d l c=some (testsB c l):=by
 refine xi2d.eq l c ?_
 simp only [xi2d.t,xi0r_ok l c (testB c) (by omega) (fun x _ => xi1s_eq x c hc),Option.bind_some,testsB]
 by_cases h:l.length≤8
 · have h' : (l.length : Int) ≤ 8 := by omega
   simp only [dec_t h,dec_t h',cond_true,Bool.and_true]
 · have h' : ¬ (l.length : Int) ≤ 8 := by omega
   simp only [dec_f h,dec_f h',cond_false,Bool.and_false]
theorem testB_fit {c:Int} {x:Tst} (h:testB c x=true):(0≤x.2.1∧x.2.1<c)∧(x.1=1∨x.1=2∨x.1=3∨(x.1=4∧0≤x.2.2∧x.2.2<c)):=by
 simp only [testB,Bool.and_eq_true,decide_eq_true_eq,inB_iff] at h
 obtain ⟨⟨h1,h2⟩,⟨h3,h4⟩,h5,_⟩:=h
 refine ⟨⟨h1,h2⟩, ?_⟩
 by_cases h6:x.1=4
 · have h7 : (x.1 == 4) = true := beq_iff_eq.2 h6
   rw [h7,cond_true,Bool.and_eq_true,decide_eq_true_eq,decide_eq_true_eq] at h5
   exact .inr (.inr (.inr ⟨h6,h5.1,h5.2⟩))
 · omega
end GoV

/- Pairs of columns; rows joined: alike for the program and its specification. -/
namespace GoV
open Go
theorem toNat0:Int.toNat (0:Int)=0:=rfl
theorem toNat1:Int.toNat (1:Int)=1:=rfl
def pairB (a b:Int) (p:List Int):Bool:=((p.length:Int) == 2) && (plB a (p.getD 0 0) && plB b (p.getD 1 0))
def pairsB (a b:Int) (ps:List (List Int)):Bool:=ps.all (pairB a b) && decide (ps.length≤6)
theorem pairB_iff {a b:Int} {p:List Int}:pairB a b p=true↔p.length=2∧(0≤p.getD 0 0∧p.getD 0 0<a)∧0≤p.getD 1 0∧p.getD 1 0<b:=by
 simp only [pairB,Bool.and_eq_true,plB_iff,beq_iff_eq]
 constructor
 · intro h; exact ⟨by omega,h.2⟩
 · intro h; exact ⟨by omega,h.2⟩
theorem xs3l_eq (ps:List (List Int)) (a b:Int) (hl:ps.length≤1073741824):xs3l ps a b=some (pairsB a b ps):=by
 refine xs3l.eq ps a b ?_
 simp only [xs3l.t]
 have:=all_loop ps [] (fun i => xs3l.l2 ps a b ps (ps.length:Int) (i:Int)) (pairB a b) false (decide (ps.length≤6)) ?_ ?_ ?_
 · refine Eq.trans this ?_
   simp only [pairsB]
   cases ps.all (pairB a b) <;> rfl
 · exact xs3l.eq2 _ _ _ _ _ _ (by simp only [xs3l.t2,ix_lt,Nat.lt_irrefl,decide_false,cond_false]; exact congrArg some (lenDec ps.length 6))
 · intro i hi hb
   refine xs3l.eq2 _ _ _ _ _ _ ?_
   simp only [xs3l.t2,ix_lt,ix_nn,ix_nat,dec_t hi,cond_true,toNat0,toNat1,bne]
   cases h0:((ps.getD i []).length:Int) == 2
   · rfl
   · have h1 := beq_iff_eq.1 h0
     have h2:0<(ps.getD i []).length:=by omega
     have h3:1<(ps.getD i []).length:=by omega
     simp only [pairB,h0,Bool.true_and] at hb
     simp only [bang_t,cond_false,dec_t h2,dec_t h3,cond_true]
     by_cases g1:(ps.getD i []).getD 0 0<0
     · simp only [dec_t g1,cond_true]
     · by_cases g2 : (ps.getD i []).getD 0 0 ≥ a
       · simp only [dec_f g1,dec_t g2,cond_true,cond_false]
       · have g0 : plB a ((ps.getD i []).getD 0 0) = true := plB_iff.2 ⟨by omega, by omega⟩
         rw [g0,Bool.true_and] at hb
         by_cases g3:(ps.getD i []).getD 1 0<0
         · simp only [dec_f g1,dec_f g2,dec_t g3,cond_true,cond_false]
         · have g4:(ps.getD i []).getD 1 0 ≥ b:=by
             apply Classical.byContradiction
             intro g4
             have g5:plB b ((ps.getD i []).getD 1 0)=true:=plB_iff.2 ⟨by omega,by omega⟩
             rw [g5] at hb
             cases hb
           simp only [dec_f g1,dec_f g2,dec_f g3,dec_t g4,cond_true,cond_false]
 · intro i c hi hb hc
   refine xs3l.eq2 _ _ _ _ _ _ ?_
   obtain ⟨h0,⟨g1,g2⟩,g3,g4⟩:=pairB_iff.1 hb
   have h1:(((ps.getD i []).length:Int) == 2)=true:=beq_iff_eq.2 (by omega)
   have h2:0<(ps.getD i []).length:=by omega
   have h3:1<(ps.getD i []).length:=by omega
   have k1:¬ (ps.getD i []).getD 0 0<0:=by omega
   have k2:¬ (ps.getD i []).getD 0 0 ≥ a:=by omega
   have k3:¬ (ps.getD i []).getD 1 0<0:=by omega
   have k4:¬ (ps.getD i []).getD 1 0 ≥ b:=by omega
   simp only [xs3l.t2,ix_lt,ix_nn,ix_nat,dec_t hi,cond_true,toNat0,toNat1,bne,h1,bang_t,cond_false,dec_t h2,dec_t h3,dec_f k1,dec_f k2,dec_f k3,dec_f k4,wrap_succ (show i<9223372036854775807 by omega)]
   exact hc
theorem xi24_eq (p:List Int) (a b:Int):xi24 p a b=some (pairB a b p):=by
 refine xi24.eq _ _ _ ?_
 simp only [xi24.t,toNat0,toNat1,xi35_eq',Option.bind_some,pairB]
 cases h0:(p.length:Int) == 2
 · rfl
 · have h1 := beq_iff_eq.1 h0
   have h2:0<p.length:=by omega
   have h3:1<p.length:=by omega
   simp only [dec_t h2,dec_t h3,cond_true,Bool.true_and]
   cases plB a (p.getD 0 0) <;> rfl
theorem xi2o_eq (ps:List (List Int)) (a b:Int) (hl:ps.length≤1073741824):xi2o ps a b=some (pairsB a b ps):=by
 refine xi2o.eq ps a b ?_
 have e:=xi0z_ok ps a b (pairB a b) (by omega) (fun x _ => xi24_eq x a b)
 have e2:decide ((ps.length:Int)≤6)=decide (ps.length≤6):=lenDec ps.length 6
 simp only [xi2o.t,e,e2,Option.bind_some,pairsB]
 by_cases h:ps.length≤6
 · simp only [dec_t h,cond_true,Bool.and_true]
 · simp only [dec_f h,cond_false,Bool.and_false]
/-! ## Columns that are in no pair -/
def isP (k:Int) (p:List Int):Bool:=p.getD 1 0 == k
def unpG (ps:List (List Int)) (k:Nat):List Int:=bif ps.any (isP (k:Int)) then [] else [(k:Int)]
def unpL (n:Nat) (ps:List (List Int)):List Int:=(List.range n).flatMap (unpG ps)
theorem unpG_len (ps:List (List Int)) (k:Nat):(unpG ps k).length≤1:=by
 unfold unpG
 cases ps.any (isP (k:Int)) <;> simp
theorem unpL_len (n:Nat) (ps:List (List Int)):(unpL n ps).length≤n:=by
 have:=flatMap_len (unpG_len ps) (List.range n)
 rwa [List.length_range] at this
theorem unpL_mem {n:Nat} {ps:List (List Int)} {k:Int} (h:k∈unpL n ps):0≤k∧k.toNat<n:=by
 obtain ⟨j,hj,hk⟩:=List.mem_flatMap.1 h
 rw [List.mem_range] at hj
 simp only [unpG] at hk
 cases ha:ps.any (isP (j:Int)) with
 | true => rw [ha] at hk; cases hk
 | false =>
   rw [ha,cond_false,List.mem_singleton] at hk
   omega
theorem range_getD {n i:Nat} (h:i<n):(List.range n).getD i 0=i:=by rw [getD_of_lt (by simpa using h)]; simp
def flagF (k:Int) (s:Bool) (p:List Int):Bool:=bif s then true else isP k p
theorem flag_any (k : Int) : ∀ (ps : List (List Int)) (s : Bool), ps.foldl (flagF k) s = (s || ps.any (isP k))
 | [],s => by simp
 | p::ps,s => by
   rw [List.foldl_cons,flag_any k ps,List.any_cons,flagF]
   cases s <;> simp
section
variable {ps:List (List Int)} (hl:ps.length≤1073741824) (hp:∀ p,p∈ps→1<p.length)
include hl hp
theorem xi2s_eq (n:Nat) (hn:n≤1073741824):xi2s (n:Int) ps=some (unpL n ps):=by
 refine xi2s.eq _ _ ?_
 simp only [xi2s.t]
 have hc:∀ k:Int,xs0m ps k=some (ps.any (isP k)):=fun k => xs0m_ok ps k (isP k) (by omega) (fun p h => xi25.eq _ _ (by simp only [xi25.t,toNat1,dec_t (hp p h),cond_true]; rfl))
 refine push_loop (List.range n) 0 (fun acc i => xi2s.l3 ps acc (n:Int) (i:Int)) (unpG ps) (unpG_len ps) some ?_ ?_ _ rfl
 · intro acc b _ hb
   rw [List.length_range]
   exact xi2s.eq3 _ _ _ _ (by simp only [xi2s.t3,ix_lt,Nat.lt_irrefl,decide_false,cond_false]; exact hb)
 · intro acc i b hi ha hb
   rw [List.length_range] at hi
   rw [range_getD hi] at hb
   refine xi2s.eq3 _ _ _ _ ?_
   simp only [xi2s.t3,ix_lt,dec_t hi,cond_true,hc,Option.bind_some,wrap_succ (show i<9223372036854775807 by omega)]
   simp only [unpG] at hb
   cases h:ps.any (isP (i:Int)) with
   | true =>
     rw [h,cond_true,List.append_nil] at hb
     exact hb
   | false =>
     rw [h,cond_false] at hb
     have h2:acc.length+[(i:Int)].length≤4294967296:=by simp only [List.length_cons,List.length_nil]; omega
     simp only [bang_f,cond_true,dec_t h2]
     exact hb
theorem xs49_eq (n:Nat) (hn:n≤1073741824):xs49 ps (n:Int)=some ((unpL n ps).length:Int):=by
 have inner:∀ (cnt k:Int) (b:Int),(bif !(ps.any (isP k)) then xs49.l3 ps (n:Int) (IntKind.i64.wrap (cnt+1)) (IntKind.i64.wrap (k+1)) else xs49.l3 ps (n:Int) cnt (IntKind.i64.wrap (k+1)))=some b→xs49.l7 ps (n:Int) cnt k false ps (ps.length:Int) 0=some b:=by
  intro cnt k b hb
  refine fold_loop ps [] (fun s i => xs49.l7 ps (n:Int) cnt k s ps (ps.length:Int) (i:Int)) (flagF k) (fun _ => True) (fun s => bif !s then xs49.l3 ps (n:Int) (IntKind.i64.wrap (cnt+1)) (IntKind.i64.wrap (k+1)) else xs49.l3 ps (n:Int) cnt (IntKind.i64.wrap (k+1))) ?_ ?_ ?_ false b trivial ?_
  · intro s c _ hc
    exact xs49.eq7 _ _ _ _ _ _ _ _ (by simp only [xs49.t7,ix_lt,Nat.lt_irrefl,decide_false,cond_false]; exact hc)
  · intros; trivial
  · intro s i c hi _ hc
    have h1:=hp _ (getD_mem [] hi)
    refine xs49.eq7 _ _ _ _ _ _ _ _ ?_
    simp only [xs49.t7,ix_lt,ix_nn,ix_nat,dec_t hi,cond_true,toNat1,dec_t h1,wrap_succ (show i<9223372036854775807 by omega)]
    cases s
    · exact hc
    · exact hc
  · rw [flag_any,Bool.false_or]; exact hb
 refine xs49.eq _ _ ?_
 simp only [xs49.t]
 refine push_loop (List.range n) 0 (fun acc i => xs49.l3 ps (n:Int) (acc.length:Int) (i:Int)) (unpG ps) (unpG_len ps) (fun acc => some (acc.length:Int)) ?_ ?_ _ rfl
 · intro acc b _ hb
   rw [List.length_range]
   exact xs49.eq3 _ _ _ _ (by simp only [xs49.t3,ix_lt,Nat.lt_irrefl,decide_false,cond_false]; exact hb)
 · intro acc i b hi ha hb
   rw [List.length_range] at hi
   rw [range_getD hi] at hb
   refine xs49.eq3 _ _ _ _ ?_
   simp only [xs49.t3,ix_lt,dec_t hi,cond_true]
   refine inner _ _ _ ?_
   simp only [unpG] at hb
   cases h:ps.any (isP (i:Int)) with
   | true =>
     rw [h,cond_true,List.append_nil] at hb
     simp only [bang_t,cond_false,wrap_succ (show i<9223372036854775807 by omega)]
     exact hb
   | false =>
     rw [h,cond_false,List.length_append,List.length_singleton] at hb
     simp only [bang_f,cond_true,wrap_succ (show i<9223372036854775807 by omega),wrap_succ (show acc.length<9223372036854775807 by omega)]
     exact hb
end
/-! ## Rows joined -/
def eqP (a b:List Int) (p:List Int):Bool:=a.getD (p.getD 0 0).toNat 0 == b.getD (p.getD 1 0).toNat 0
def joinR (a b:List Int) (ps:List (List Int)):List Int:=a ++ pickR b (unpL b.length ps)
def joinG (b:List Int) (ps:List (List Int)) (k:Nat):List Int:=bif ps.any (isP (k:Int)) then [] else [b.getD k 0]
theorem joinG_len (b:List Int) (ps:List (List Int)) (k:Nat):(joinG b ps k).length≤1:=by
 unfold joinG
 cases ps.any (isP (k:Int)) <;> simp
theorem joinG_map (b:List Int) (ps:List (List Int)) (n:Nat):(List.range n).flatMap (joinG b ps)=pickR b (unpL n ps):=by
 rw [pickR,unpL,List.map_flatMap]
 congr 1
 funext k
 simp only [joinG,unpG]
 cases ps.any (isP (k:Int)) <;> rfl
theorem joinR_len (a b:List Int) (ps:List (List Int)):(joinR a b ps).length=a.length+(unpL b.length ps).length:=by rw [joinR,List.length_append,pickR_len]
section
variable {a b : List Int} {ps : List (List Int)} (hl : ps.length ≤ 1073741824) (hal : a.length ≤ 536870912) (hbl : b.length ≤ 536870912)
 (hp:∀ p,p∈ps→p.length=2∧(0≤p.getD 0 0∧(p.getD 0 0).toNat<a.length)∧0≤p.getD 1 0∧(p.getD 1 0).toNat<b.length)
include hl hal hbl hp
theorem xs45_eq:xs45 a b ps=some (bif ps.all (eqP a b) then (joinR a b ps,decide ((joinR a b ps).length≤6)) else ([],false)):=by
 have inner:∀ (x out:List Int) (k c:Int) (v6:List Int) (v7 v8:Int) (r:List Int × Bool),out.length≤1073741824→(bif !(ps.any (isP k)) then xs45.l9 ps x (out ++ [c]) v6 v7 (IntKind.i64.wrap (v8+1)) else xs45.l9 ps x out v6 v7 (IntKind.i64.wrap (v8+1)))=some r→xs45.l13 ps x out k c false v6 v7 v8 ps (ps.length:Int) 0=some r:=by
  intro x out k c v6 v7 v8 r ho hr
  have h2:out.length+[c].length≤4294967296:=by simp only [List.length_cons,List.length_nil]; omega
  refine fold_loop ps [] (fun s i => xs45.l13 ps x out k c s v6 v7 v8 ps (ps.length:Int) (i:Int)) (flagF k) (fun _ => True) (fun s => bif !s then xs45.l9 ps x (out ++ [c]) v6 v7 (IntKind.i64.wrap (v8+1)) else xs45.l9 ps x out v6 v7 (IntKind.i64.wrap (v8+1))) ?_ ?_ ?_ false r trivial ?_
  · intro s d _ hd
    exact xs45.eq13 _ _ _ _ _ _ _ _ _ _ _ _ (by simp only [xs45.t13,ix_lt,Nat.lt_irrefl,decide_false,cond_false,dec_t h2,cond_true]; exact hd)
  · intros; trivial
  · intro s i d hi _ hd
    have h1:1<(ps.getD i []).length:=by have:=(hp _ (getD_mem [] hi)).1; omega
    refine xs45.eq13 _ _ _ _ _ _ _ _ _ _ _ _ ?_
    simp only [xs45.t13,ix_lt,ix_nn,ix_nat,dec_t hi,cond_true,toNat1,dec_t h1,wrap_succ (show i<9223372036854775807 by omega)]
    cases s
    · exact hd
    · exact hd
  · rw [flag_any,Bool.false_or]; exact hr
 have outer:xs45.l9 ps [] a b (b.length:Int) 0=some (joinR a b ps,decide ((joinR a b ps).length≤6)):=by
  have:=push_loop (List.range b.length) 0 (fun acc i => xs45.l9 ps [] (a ++ acc) b (b.length:Int) (i:Int)) (joinG b ps) (joinG_len b ps) (fun acc => some (a ++ acc,decide ((a ++ acc).length≤6))) ?_ ?_ (joinR a b ps,decide ((joinR a b ps).length≤6)) ?_
  · simpa using this
  · intro acc r _ hr
    rw [List.length_range]
    have e:=lenDec (a ++ acc).length 6
    exact xs45.eq9 _ _ _ _ _ _ (by simp only [xs45.t9,ix_lt,Nat.lt_irrefl,decide_false,cond_false]; rw [← hr,← e]; rfl)
  · intro acc i r hi ha hr
    rw [List.length_range] at hi
    rw [range_getD hi] at hr
    refine xs45.eq9 _ _ _ _ _ _ ?_
    simp only [xs45.t9,ix_lt,ix_nn,ix_nat,dec_t hi,cond_true]
    refine inner _ _ _ _ _ _ _ _ (by rw [List.length_append]; omega) ?_
    simp only [joinG] at hr
    cases h:ps.any (isP (i:Int)) with
    | true =>
      rw [h,cond_true,List.append_nil] at hr
      simp only [bang_t,cond_false,wrap_succ (show i<9223372036854775807 by omega)]
      exact hr
    | false =>
      rw [h,cond_false,← List.append_assoc] at hr
      simp only [bang_f,cond_true,wrap_succ (show i<9223372036854775807 by omega)]
      exact hr
  · rw [joinG_map]; rfl
 refine xs45.eq a b ps ?_
 have h0:([]:List Int).length+a.length≤4294967296:=by simp only [List.length_nil]; omega
 simp only [xs45.t,dec_t h0,cond_true,List.nil_append]
 refine all_loop ps [] (fun i => xs45.l3 ps a b [] a ps (ps.length:Int) (i:Int)) (eqP a b) ([],false) (joinR a b ps,decide ((joinR a b ps).length≤6)) ?_ ?_ ?_
 · exact xs45.eq3 _ _ _ _ _ _ _ _ (by simp only [xs45.t3,ix_lt,Nat.lt_irrefl,decide_false,cond_false]; exact outer)
 · intro i hi hb
   obtain ⟨g0,⟨g1,g2⟩,g3,g4⟩:=hp _ (getD_mem [] hi)
   have h2:0<(ps.getD i []).length:=by omega
   have h3:1<(ps.getD i []).length:=by omega
   refine xs45.eq3 _ _ _ _ _ _ _ _ ?_
   simp only [eqP] at hb
   simp only [xs45.t3,ix_lt,ix_nn,ix_nat,dec_t hi,cond_true,toNat0,toNat1,dec_t h2,dec_t h3,dec_t g1,dec_t g2,dec_t g3,dec_t g4,bne,hb,bang_f]
 · intro i c hi hb hc
   obtain ⟨g0,⟨g1,g2⟩,g3,g4⟩:=hp _ (getD_mem [] hi)
   have h2:0<(ps.getD i []).length:=by omega
   have h3:1<(ps.getD i []).length:=by omega
   refine xs45.eq3 _ _ _ _ _ _ _ _ ?_
   simp only [eqP] at hb
   simp only [xs45.t3,ix_lt,ix_nn,ix_nat,dec_t hi,cond_true,toNat0,toNat1,dec_t h2,dec_t h3,dec_t g1,dec_t g2,dec_t g3,dec_t g4,bne,hb,bang_t,cond_false,wrap_succ (show i<9223372036854775807 by omega)]
   exact hc
theorem xi3q_eq:xi3q a b ps=some (bif ps.all (eqP a b) then (joinR a b ps,true) else ([],false)):=by
 have e1:=xi12_ok ps a b (eqP a b) (by omega) (fun p hp' => by
  obtain ⟨g0,⟨g1,g2⟩,g3,g4⟩:=hp p hp'
  have h2:0<p.length:=by omega
  have h3:1<p.length:=by omega
  exact xi2q.eq _ _ _ (by simp only [xi2q.t,toNat0,toNat1,dec_t h2,dec_t h3,dec_t g1,dec_t g2,dec_t g3,dec_t g4,cond_true,eqP]))
 have e2:=xi2s_eq hl (fun p h => by have:=(hp p h).1; omega) b.length (by omega)
 have hu:=unpL_len b.length ps
 have e3:=xi20_eq (r:=b) (cs:=unpL b.length ps) (by omega) (fun k hk => unpL_mem hk)
 have e4:=slices_Concat_int_eq [a,pickR b (unpL b.length ps)] (by simp only [List.flatten_cons,List.flatten_nil,List.append_nil,List.length_append,pickR_len]; omega) (by simp)
 have e5:[a,pickR b (unpL b.length ps)].flatten=joinR a b ps:=by simp [joinR]
 rw [e5] at e4
 refine xi3q.eq a b ps ?_
 simp only [xi3q.t,e1,Option.bind_some]
 cases ps.all (eqP a b)
 · rfl
 · simp only [bang_t,cond_false,e2,e3,e4,Option.bind_some,cond_true]
end
end GoV

/- Views: what is checked of one is alike for the program and its specification. -/
namespace GoV
open Go
abbrev Prt:=Int × Int × Int × List (Int × Int × Int) × List Int × List (List Int)
abbrev zP:Prt:=((0:Int),(0:Int),(0:Int),[],[],[])
def binK (k:Int):Bool:=bif k == 4 then true else bif k == 5 then true else k == 6
def usesB (k rt:Int) (ts:List Tst) (cs:List Int) (ps:List (List Int)):Bool :=
 (k == 2 || !decide ((ts.length:Int) > 0)) && ((k == 3 || !decide ((cs.length:Int) > 0)) && ((k == 4 || !decide ((ps.length:Int) > 0)) && (binK k || rt == 0)))
def colV (k a b:Int) (ts:List Tst) (cs:List Int) (ps:List (List Int)):Int × Bool :=
 bif k == 2 then (a,testsB a ts) else bif k == 3 then ((cs.length:Int),colsB a cs) else
 bif k == 4 then (bif pairsB a b ps then (a+((unpL b.toNat ps).length:Int),decide (a+((unpL b.toNat ps).length:Int)≤6)) else (0,false)) else
 bif k == 5 then (a,a == b) else bif k == 6 then (a,a == b) else (a,k == 7)
def partC (bs cols:List Int) (p:Prt):Option Int :=
 bif usesB p.1 p.2.2.1 p.2.2.2.1 p.2.2.2.2.1 p.2.2.2.2.2 then
    bif p.1 == 1 then (bif decide (0≤p.2.1) && decide (p.2.1<(bs.length:Int)) then some (bs.getD p.2.1.toNat 0) else none) else
    bif (decide (0 ≤ p.2.1) && decide (p.2.1 < (cols.length : Int))) && (decide (0 ≤ p.2.2.1) && decide (p.2.2.1 < (cols.length : Int))) then
     bif (colV p.1 (cols.getD p.2.1.toNat 0) (cols.getD p.2.2.1.toNat 0) p.2.2.2.1 p.2.2.2.2.1 p.2.2.2.2.2).2 then some (colV p.1 (cols.getD p.2.1.toNat 0) (cols.getD p.2.2.1.toNat 0) p.2.2.2.1 p.2.2.2.2.1 p.2.2.2.2.2).1 else none
    else none
 else none
def chkF (bs : List Int) : List Prt → List Int → Option (List Int)
 | [],cols => some cols
 | p::r,cols => match partC bs cols p with | some c => chkF bs r (cols ++ [c]) | none => none
def outC (o:Option (List Int)):List Int × Bool:=match o with | some l => (l,true) | none => ([],false)
def prtOK (p:Prt):Prop:=p.2.2.2.1.length≤1073741824∧p.2.2.2.2.1.length≤1073741824∧p.2.2.2.2.2.length≤1073741824
def colOK (cols:List Int):Prop:=∀ x,x∈cols→0≤x∧x≤6
theorem colOK_getD {cols:List Int} (h:colOK cols) (i:Nat):0≤cols.getD i 0∧cols.getD i 0≤6:=by
 by_cases hi:i<cols.length
 · exact h _ (getD_mem 0 hi)
 · rw [List.getD_eq_getElem?_getD,List.getElem?_eq_none (by omega)]; simp
theorem pairsB_two {a b:Int} {ps:List (List Int)} (h:pairsB a b ps=true):∀ p,p∈ps→1<p.length:=by
 intro p hp
 simp only [pairsB,Bool.and_eq_true,List.all_eq_true] at h
 have:=(pairB_iff.1 (h.1 p hp)).1
 omega
theorem unp_at {a b:Int} {ps:List (List Int)} (hb:0≤b∧b≤6) (h:pairsB a b ps=true):xs49 ps b=some ((unpL b.toNat ps).length:Int)∧xi2s b ps=some (unpL b.toNat ps):=by
 have e:b=((b.toNat:Nat):Int):=by omega
 have hl:ps.length≤1073741824:=by
  simp only [pairsB,Bool.and_eq_true,decide_eq_true_eq] at h
  omega
 have k1:=xs49_eq (ps:=ps) hl (pairsB_two h) b.toNat (by omega)
 have k2:=xi2s_eq (ps:=ps) hl (pairsB_two h) b.toNat (by omega)
 rw [← e] at k1 k2
 exact ⟨k1,k2⟩
theorem pos_len {α:Type} (l:List α):((l.length:Int) == 0) = !decide ((l.length:Int) > 0):=by
 cases l with
 | nil => rfl
 | cons x r => rw [dec_t (by rw [List.length_cons]; omega)]; exact beq_eq_false_iff_ne.2 (by rw [List.length_cons]; omega)
theorem colV_ok {k a b:Int} {ts:List Tst} {cs:List Int} {ps:List (List Int)} (ha:0≤a∧a≤6) (h:(colV k a b ts cs ps).2=true):0≤(colV k a b ts cs ps).1∧(colV k a b ts cs ps).1≤6:=by
 revert h
 unfold colV
 cases k == 2
 · cases k == 3
   · cases k == 4
     · cases k == 5
       · cases k == 6 <;> (intro _; exact ha)
       · intro _; exact ha
     · cases pairsB a b ps
       · intro h; cases h
       · intro h
         have h2:=of_decide_eq_true h
         simp only [cond_true,cond_false]
         omega
   · intro h
     simp only [cond_true,cond_false,colsB,Bool.and_eq_true,decide_eq_true_eq] at h ⊢
     omega
 · intro _; exact ha
theorem partC_ok {bs cols:List Int} {p:Prt} {c:Int} (hb:colOK bs) (hc:colOK cols) (h:partC bs cols p=some c):0≤c∧c≤6:=by
 revert h
 unfold partC
 cases usesB p.1 p.2.2.1 p.2.2.2.1 p.2.2.2.2.1 p.2.2.2.2.2
 · intro h; cases h
 · cases p.1 == 1
   · cases (decide (0 ≤ p.2.1) && decide (p.2.1 < (cols.length : Int))) && (decide (0 ≤ p.2.2.1) && decide (p.2.2.1 < (cols.length : Int)))
     · intro h; cases h
     · simp only [cond_true, cond_false]
       cases e:(colV p.1 (cols.getD p.2.1.toNat 0) (cols.getD p.2.2.1.toNat 0) p.2.2.2.1 p.2.2.2.2.1 p.2.2.2.2.2).2
       · intro h; cases h
       · intro h
         rw [← Option.some.inj h]
         exact colV_ok (colOK_getD hc _) e
   · simp only [cond_true]
     cases decide (0≤p.2.1) && decide (p.2.1<(bs.length:Int))
     · intro h; cases h
     · intro h
       rw [← Option.some.inj h]
       exact colOK_getD hb _
/-! ## The specification -/
theorem spec_cols_eq {k lf rt : Int} {ts : List Tst} {cs : List Int} {ps : List (List Int)} {cols : List Int} (ht : ts.length ≤ 1073741824) (hcs : cs.length ≤ 1073741824) (hps : ps.length ≤ 1073741824)
 (hc:colOK cols) (h1:0≤lf) (h2:lf.toNat<cols.length) (h3:binK k=true→0≤rt∧rt.toNat<cols.length) :
 xs2m k lf rt ts cs ps cols=some (colV k (cols.getD lf.toNat 0) (cols.getD rt.toNat 0) ts cs ps):=by
 have ca:=colOK_getD hc lf.toNat
 have cb:=colOK_getD hc rt.toNat
 have e1:=xs2i_eq ts (cols.getD lf.toNat 0) ht
 have e2:=xs2j_eq cs (cols.getD lf.toNat 0) hcs
 have e3:=xs3l_eq ps (cols.getD lf.toNat 0) (cols.getD rt.toNat 0) hps
 refine xs2m.eq _ _ _ _ _ _ _ ?_
 simp only [xs2m.t,dec_t h1,dec_t h2,cond_true,e1,e2,e3,Option.bind_some,colV]
 cases k2:k == 2
 · cases k3 : k == 3
   · cases k4 : k == 4
     · cases k5 : k == 5
       · cases k6 : k == 6
         · rfl
         · obtain ⟨g1, g2⟩ := h3 (by simp only [binK, k4, k5, k6, cond_false])
           simp only [cond_true,cond_false,dec_t g1,dec_t g2]
       · obtain ⟨g1, g2⟩ := h3 (by simp only [binK, k4, k5, cond_false, cond_true])
         simp only [cond_true,cond_false,dec_t g1,dec_t g2]
     · obtain ⟨g1, g2⟩ := h3 (by simp only [binK, k4, cond_true])
       simp only [cond_true,cond_false,dec_t g1,dec_t g2]
       cases hp:pairsB (cols.getD lf.toNat 0) (cols.getD rt.toNat 0) ps
       · rfl
       · obtain ⟨e4, _⟩ := unp_at cb hp
         have hu:=unpL_len (cols.getD rt.toNat 0).toNat ps
         simp only [bang_t,cond_true,cond_false,e4,Option.bind_some]
         rw [wrap_id (by omega) (by omega)]
   · rfl
 · rfl
section
variable {bs:List Int} {parts:List Prt}
theorem spec_st14 {cols : List Int} {i k lf rt n j : Int} {ts : List Tst} {cs : List Int} {ps : List (List Int)} {b : List Int × Bool}
 (h:(bif usesB k rt ts cs ps then xs3n.l2000016 bs parts cols i k lf rt ts cs ps (binK k) parts n j else some ([],false))=some b) :
 xs3n.l2000014 bs parts cols i k lf rt ts cs ps (binK k) parts n j=some b:=by
 refine xs3n.eq2000014 _ _ _ _ _ _ _ _ _ _ _ _ _ _ ?_
 revert h
 simp only [xs3n.t2000014,usesB,bne]
 cases k == 2 <;> cases k == 3 <;> cases k == 4 <;> cases binK k <;> cases rt == 0 <;> cases decide ((ts.length:Int) > 0) <;> cases decide ((cs.length:Int) > 0) <;> cases decide ((ps.length:Int) > 0) <;> exact id
theorem spec_step {cols : List Int} {i : Nat} {b : List Int × Bool} (hi : i < parts.length) (hc : cols.length = i) (hco : colOK cols) (hp : prtOK (parts.getD i zP)) (hl : i ≤ 100000)
 (h:(match partC bs cols (parts.getD i zP) with | some c => xs3n.l11 bs parts (cols ++ [c]) parts (parts.length:Int) ((i+1:Nat):Int) | none => some ([],false))=some b) :
 xs3n.l11 bs parts cols parts (parts.length:Int) (i:Int)=some b:=by
 refine xs3n.eq11 _ _ _ _ _ _ ?_
 simp only [xs3n.t11,ix_lt,ix_nn,ix_nat,dec_t hi,cond_true]
 obtain ⟨p1,p2,p3⟩:=hp
 generalize parts.getD i zP=p at h p1 p2 p3 ⊢
 obtain ⟨k,lf,rt,ts,cs,ps⟩:=p
 simp only at p1 p2 p3 ⊢
 have key:xs3n.l2000014 bs parts cols (i:Int) k lf rt ts cs ps (binK k) parts (parts.length:Int) (i:Int)=some b:=by
  refine spec_st14 ?_
  simp only [partC] at h
  cases hu:usesB k rt ts cs ps with
  | false => rw [hu] at h; exact h
  | true =>
    rw [hu] at h
    simp only [cond_true] at h ⊢
    have l26:∀ c:Int,xs3n.l11 bs parts (cols ++ [c]) parts (parts.length:Int) ((i+1:Nat):Int)=some b→xs3n.l2000026 bs parts (cols ++ [c]) parts (parts.length:Int) (i:Int)=some b:=fun c hh =>
        xs3n.eq2000026 _ _ _ _ _ _ (by simp only [xs3n.t2000026,wrap_succ (show i<9223372036854775807 by omega)]; exact hh)
    have hs:∀ c:Int,cols.length+[c].length≤4294967296:=fun c => by simp only [List.length_cons,List.length_nil]; omega
    refine xs3n.eq2000016 _ _ _ _ _ _ _ _ _ _ _ _ _ _ ?_
    simp only [xs3n.t2000016]
    cases k1:k == 1 with
    | true =>
      rw [k1] at h
      simp only [cond_true] at h ⊢
      by_cases g1:lf<0
      · simp only [dec_f (show ¬ 0 ≤ lf by omega), Bool.false_and, cond_false] at h
        simp only [dec_t g1,cond_true]; exact h
      · by_cases g2 : lf ≥ (bs.length : Int)
        · simp only [dec_f (show ¬ lf < (bs.length : Int) by omega), Bool.and_false, cond_false] at h
          simp only [dec_f g1,dec_t g2,cond_true,cond_false]; exact h
        · have g3 : 0 ≤ lf := by omega
          have g4:lf<(bs.length:Int):=by omega
          have g5:lf.toNat<bs.length:=by omega
          simp only [dec_t g3,dec_t g4,Bool.and_self,cond_true] at h
          simp only [dec_f g1,dec_f g2,cond_false]
          refine xs3n.eq2000019 _ _ _ _ _ _ _ _ _ _ _ _ ?_
          simp only [xs3n.t2000019,dec_t g3,dec_t g5,cond_true,dec_t (hs (bs.getD lf.toNat 0))]
          exact l26 _ h
    | false =>
      rw [k1] at h
      simp only [cond_false] at h ⊢
      by_cases g1:lf<0
      · simp only [dec_f (show ¬ 0 ≤ lf by omega), Bool.false_and, cond_false] at h
        simp only [dec_t g1,cond_true]; exact h
      · by_cases g2 : lf ≥ (i : Int)
        · simp only [dec_f (show ¬ lf < (cols.length : Int) by omega), Bool.and_false, Bool.false_and, cond_false] at h
          simp only [dec_f g1,dec_t g2,cond_true,cond_false]; exact h
        · have g3 : 0 ≤ lf := by omega
          have g4:lf<(cols.length:Int):=by omega
          have g5:lf.toNat<cols.length:=by omega
          simp only [dec_t g3,dec_t g4,Bool.and_self,Bool.true_and] at h
          simp only [dec_f g1,dec_f g2,cond_false]
          have fin:0≤rt→rt<(cols.length:Int)→xs3n.l2000022 bs parts cols k lf rt ts cs ps parts (parts.length:Int) (i:Int)=some b:=by
            intro r1 r2
            simp only [dec_t r1,dec_t r2,Bool.and_self,cond_true] at h
            have e:=spec_cols_eq (k:=k) (lf:=lf) (rt:=rt) p1 p2 p3 hco g3 g5 (fun _ => ⟨r1,by omega⟩)
            refine xs3n.eq2000022 _ _ _ _ _ _ _ _ _ _ _ _ ?_
            simp only [xs3n.t2000022,e,Option.bind_some]
            cases hv:(colV k (cols.getD lf.toNat 0) (cols.getD rt.toNat 0) ts cs ps).2 with
            | false => rw [hv] at h; simp only [bang_f,cond_true,cond_false] at h ⊢; exact h
            | true =>
              rw [hv] at h
              simp only [bang_t,cond_true,cond_false,dec_t (hs _)] at h ⊢
              exact l26 _ h
          cases hk:binK k with
          | true =>
            by_cases r1:rt<0
            · simp only [dec_f (show ¬ 0 ≤ rt by omega), Bool.false_and, cond_false] at h
              simp only [dec_t r1,cond_true]; exact h
            · by_cases r2 : rt ≥ (i : Int)
              · simp only [dec_f (show ¬ rt < (cols.length : Int) by omega), Bool.and_false, cond_false] at h
                simp only [dec_f r1,dec_t r2,cond_true,cond_false]; exact h
              · simp only [dec_f r1, dec_f r2, cond_true, cond_false]
                exact fin (by omega) (by omega)
          | false =>
            simp only [cond_false]
            have r0:rt=0:=by
             simp only [usesB,hk,Bool.false_or,Bool.and_eq_true,beq_iff_eq] at hu
             exact hu.2.2.2
            exact fin (by omega) (by omega)
 simp only [binK] at key
 cases k4:k == 4 <;> cases k5:k == 5 <;> simp only [k4,k5,cond_true,cond_false] at key ⊢ <;> exact key
theorem chk_inv {c:Int} {cols:List Int} (hco:colOK cols) (h:0≤c∧c≤6):colOK (cols ++ [c]):=fun x hx => by
 rcases List.mem_append.1 hx with hx | hx
 · exact hco x hx
 · rw [List.mem_singleton.1 hx]; exact h
theorem spec_chk_loop (hbs : colOK bs) (hl : parts.length ≤ 12) (hp : ∀ p, p ∈ parts → prtOK p) : ∀ (n i : Nat) (cols : List Int), i + n = parts.length → cols.length = i → colOK cols →
 xs3n.l11 bs parts cols parts (parts.length:Int) (i:Int)=some (outC (chkF bs (parts.drop i) cols))
 | 0,i,cols,hi,_,_ => by
   have e:i=parts.length:=by omega
   subst e
   rw [List.drop_length]
   exact xs3n.eq11 _ _ _ _ _ _ (by simp only [xs3n.t11,ix_lt,Nat.lt_irrefl,decide_false,cond_false,chkF,outC])
 | n+1,i,cols,hi,hc,hco => by
   have g:i<parts.length:=by omega
   refine spec_step g hc hco (hp _ (getD_mem zP g)) (by omega) ?_
   rw [drop_getD zP g,chkF]
   cases e:partC bs cols (parts.getD i zP) with
   | none => rfl
   | some c => exact spec_chk_loop hbs hl hp n (i+1) (cols ++ [c]) (by omega) (by rw [List.length_append,List.length_singleton]; omega) (chk_inv hco (partC_ok hbs hco e))
/-- What a check of a view answers. -/
def checkV (bs:List Int) (parts:List Prt):Option (List Int) :=
 bif (bs.all (inB 0 6) && (inB 1 4 (bs.length:Int) && inB 1 12 (parts.length:Int))) then chkF bs parts [] else none
theorem all_col {l:List Int} (h:l.all (inB 0 6)=true):colOK l:=fun x hx => inB_iff.1 (List.all_eq_true.1 h x hx)
theorem spec_base_loop (hb : bs.length ≤ 2000000) (hp : ∀ p, p ∈ parts → prtOK p) : ∀ (n i : Nat), i + n = bs.length → (bs.take i).all (inB 0 6) = true →
 xs3n.l2 bs parts bs (bs.length:Int) (i:Int)=some (outC (bif (bs.drop i).all (inB 0 6) && (inB 1 4 (bs.length:Int) && inB 1 12 (parts.length:Int)) then chkF bs parts [] else none))
 | 0,i,hi,hg => by
   have e:i=bs.length:=by omega
   subst e
   rw [List.take_length] at hg
   refine xs3n.eq2 _ _ _ _ _ ?_
   simp only [xs3n.t2,ix_lt,Nat.lt_irrefl,decide_false,cond_false,xs4h_eq,Option.bind_some,List.drop_length,List.all_nil,Bool.true_and]
   cases inB 1 4 (bs.length:Int) with
   | false => rfl
   | true =>
     cases h12:inB 1 12 (parts.length:Int) with
     | false => rfl
     | true =>
       have h:=inB_iff.1 h12
       simp only [bang_t,cond_true,cond_false,Bool.and_self]
       refine xs3n.eq2000009 _ _ ?_
       simp only [xs3n.t2000009]
       have k:=spec_chk_loop (all_col hg) (by omega) hp parts.length 0 [] (by omega) rfl (fun x hx => by cases hx)
       rw [List.drop_zero] at k
       exact k
 | n+1,i,hi,hg => by
   have g:i<bs.length:=by omega
   refine xs3n.eq2 _ _ _ _ _ ?_
   simp only [xs3n.t2,ix_lt,ix_nn,ix_nat,dec_t g,cond_true,xs4h_eq,Option.bind_some]
   rw [drop_getD (0:Int) g,List.all_cons]
   cases hq:inB 0 6 (bs.getD i 0) with
   | false => rfl
   | true =>
     simp only [bang_t,cond_false,Bool.true_and,wrap_succ (show i<9223372036854775807 by omega)]
     refine spec_base_loop hb hp n (i+1) (by omega) ?_
     rw [List.take_succ_eq_append_getElem g,List.all_append,hg,List.all_cons,← getD_of_lt (z:=(0:Int)) g,hq]
     rfl
theorem spec_check_eq (hb:bs.length≤2000000) (hp:∀ p,p∈parts→prtOK p):xs3n bs parts=some (outC (checkV bs parts)):=by
 refine xs3n.eq _ _ ?_
 simp only [xs3n.t]
 have k:=spec_base_loop (bs:=bs) hb hp bs.length 0 (by omega) rfl
 rw [List.drop_zero] at k
 exact k
/-! ## The program -/
theorem impl_uses_eq (k lf rt:Int) (ts:List Tst) (cs:List Int) (ps:List (List Int)):xi2e k lf rt ts cs ps=some (usesB k rt ts cs ps):=by
 refine xi2e.eq _ _ _ _ _ _ ?_
 simp only [xi2e.t,usesB,binK,pos_len]
 cases k == 2 <;> cases k == 3 <;> cases k == 4 <;> cases k == 5 <;> cases k == 6 <;> cases rt == 0 <;> cases decide ((ts.length:Int) > 0) <;> cases decide ((cs.length:Int) > 0) <;> cases decide ((ps.length:Int) > 0) <;> rfl
/-- What the program tells of a part's columns, its use apart. -/
def colsP (bs cols:List Int) (k lf rt:Int) (ts:List Tst) (cs:List Int) (ps:List (List Int)):Int × Bool :=
 bif k == 1 then (bif decide (0≤lf) && decide (lf<(bs.length:Int)) then (bs.getD lf.toNat 0,true) else (0,false)) else
 bif (decide (0≤lf) && decide (lf<(cols.length:Int))) && (decide (0≤rt) && decide (rt<(cols.length:Int))) then colV k (cols.getD lf.toNat 0) (cols.getD rt.toNat 0) ts cs ps else (0,false)
theorem within_len {x:Int} {n:Nat} (hn:n≤2000000):inB 0 (IntKind.i64.wrap ((n:Int) - 1)) x=(decide (0≤x) && decide (x<(n:Int))):=by
 rw [wrap_id (by omega) (by omega)]
 refine bool_eq ?_
 rw [inB_iff,Bool.and_eq_true,decide_eq_true_eq,decide_eq_true_eq]
 omega
theorem impl_cols_eq {k lf rt : Int} {ts : List Tst} {cs : List Int} {ps : List (List Int)} {cols : List Int} (ht : ts.length ≤ 1073741824) (hcs : cs.length ≤ 1073741824) (hps : ps.length ≤ 1073741824)
 (hb:bs.length≤2000000) (hl:cols.length≤2000000) (hc:colOK cols):∃ c,xi1f bs parts k lf rt ts cs ps cols=some (c,(colsP bs cols k lf rt ts cs ps).2)∧((colsP bs cols k lf rt ts cs ps).2=true→c=(colsP bs cols k lf rt ts cs ps).1):=by
 have ca:=colOK_getD hc lf.toNat
 have cb:=colOK_getD hc rt.toNat
 have e1:=xi2d_eq ts (cols.getD lf.toNat 0) ht ca.2
 have e2:=xi23_eq cs (cols.getD lf.toNat 0) hcs
 have e3:=xi2o_eq ps (cols.getD lf.toNat 0) (cols.getD rt.toNat 0) hps
 cases k1:k == 1 with
 | true =>
   cases h1:decide (0≤lf) && decide (lf<(bs.length:Int)) with
   | false =>
     simp only [colsP,k1,h1,cond_true,cond_false]
     exact ⟨0,xi1f.eq _ _ _ _ _ _ _ _ _ (by simp only [xi1f.t,k1,xi3s_eq,within_len hb,h1,Option.bind_some,bang_f,cond_true]),fun h => by cases h⟩
   | true =>
     simp only [colsP,k1,h1,cond_true]
     simp only [Bool.and_eq_true,decide_eq_true_eq] at h1
     have g:lf.toNat<bs.length:=by omega
     exact ⟨bs.getD lf.toNat 0,xi1f.eq _ _ _ _ _ _ _ _ _ (by simp only [xi1f.t,k1,xi3s_eq,within_len hb,dec_t h1.1,dec_t h1.2,dec_t g,Bool.and_self,Option.bind_some,bang_t,cond_true,cond_false]),fun _ => rfl⟩
 | false =>
   simp only [colsP,k1,cond_false]
   cases h1:decide (0≤lf) && decide (lf<(cols.length:Int)) with
   | false =>
     simp only [Bool.false_and,cond_false]
     exact ⟨0,xi1f.eq _ _ _ _ _ _ _ _ _ (by simp only [xi1f.t,k1,xi3s_eq,within_len hl,h1,Option.bind_some,bang_f,cond_true,cond_false]),fun h => by cases h⟩
   | true =>
     cases h2:decide (0≤rt) && decide (rt<(cols.length:Int)) with
     | false =>
       simp only [Bool.and_false,cond_false]
       exact ⟨0,xi1f.eq _ _ _ _ _ _ _ _ _ (by simp only [xi1f.t,k1,xi3s_eq,within_len hl,h1,h2,Option.bind_some,bang_f,bang_t,cond_true,cond_false]),fun h => by cases h⟩
     | true =>
       simp only [Bool.and_self,cond_true]
       have h1':=h1
       have h2':=h2
       simp only [Bool.and_eq_true,decide_eq_true_eq] at h1' h2'
       have g1:lf.toNat<cols.length:=by omega
       have g2:rt.toNat<cols.length:=by omega
       cases hp:(k == 4 && !(pairsB (cols.getD lf.toNat 0) (cols.getD rt.toNat 0) ps)) with
       | true =>
         rw [Bool.and_eq_true,Bool.not_eq_true',beq_iff_eq] at hp
         obtain ⟨rfl,hp⟩:=hp
         refine ⟨0,xi1f.eq _ _ _ _ _ _ _ _ _ ?_, ?_⟩
         · simp only [xi1f.t, k1, xi3s_eq, within_len hl, dec_t h1'.1, dec_t h1'.2, dec_t h2'.1, dec_t h2'.2, Bool.and_self, dec_t g1, dec_t g2, e3, hp, Option.bind_some, bang_t, bang_f, cond_true, cond_false, colV]
           rfl
         · simp only [colV, hp]
           intro h; cases h
       | false =>
         refine ⟨_,xi1f.eq _ _ _ _ _ _ _ _ _ ?_,fun _ => rfl⟩
         simp only [xi1f.t,k1,xi3s_eq,within_len hl,dec_t h1'.1,dec_t h1'.2,dec_t h2'.1,dec_t h2'.2,Bool.and_self,dec_t g1,dec_t g2,e1,e2,e3,Option.bind_some,bang_t,cond_true,cond_false,colV]
         cases k2:k == 2
         · cases k3 : k == 3
           · cases k4 : k == 4
             · cases k5 : k == 5
               · cases k6:k == 6 <;> rfl
               · rfl
             · rw [k4, Bool.true_and, Bool.not_eq_false'] at hp
               obtain ⟨_,e4⟩:=unp_at cb hp
               have hu:=unpL_len (cols.getD rt.toNat 0).toNat ps
               have e5:=xi1i.eq (cols.getD lf.toNat 0) (cols.getD rt.toNat 0) ps (b:=cols.getD lf.toNat 0+((unpL (cols.getD rt.toNat 0).toNat ps).length:Int)) (by simp only [xi1i.t,e4,Option.bind_some]; rw [wrap_id (by omega) (by omega)])
               have e6:inB 0 6 (cols.getD lf.toNat 0+((unpL (cols.getD rt.toNat 0).toNat ps).length:Int))=decide (cols.getD lf.toNat 0+((unpL (cols.getD rt.toNat 0).toNat ps).length:Int)≤6):=bool_eq (by rw [inB_iff,decide_eq_true_eq]; omega)
               simp only [hp,bang_t,cond_true,cond_false,e5,xi2f_eq,e6,Option.bind_some]
           · rfl
         · rfl
theorem impl_step {cols : List Int} {i : Nat} {b : List Int × Bool} (hb : bs.length ≤ 2000000) (hi : i < parts.length) (hc : cols.length = i) (hco : colOK cols) (hp : prtOK (parts.getD i zP)) (hl : i ≤ 100000)
 (h:(match partC bs cols (parts.getD i zP) with | some c => xi2b.l5 bs parts (cols ++ [c]) parts (parts.length:Int) ((i+1:Nat):Int) | none => some ([],false))=some b) :
 xi2b.l5 bs parts cols parts (parts.length:Int) (i:Int)=some b:=by
 refine xi2b.eq5 _ _ _ _ _ _ ?_
 simp only [xi2b.t5,ix_lt,ix_nn,ix_nat,dec_t hi,cond_true]
 obtain ⟨p1,p2,p3⟩:=hp
 generalize parts.getD i zP=p at h p1 p2 p3 ⊢
 obtain ⟨k,lf,rt,ts,cs,ps⟩:=p
 simp only at p1 p2 p3 ⊢
 obtain ⟨c,e1,e2⟩:=impl_cols_eq (bs:=bs) (parts:=parts) (k:=k) (lf:=lf) (rt:=rt) p1 p2 p3 hb (by omega) hco
 have hpc:partC bs cols (k,lf,rt,ts,cs,ps)=bif usesB k rt ts cs ps && (colsP bs cols k lf rt ts cs ps).2 then some (colsP bs cols k lf rt ts cs ps).1 else none:=by
  simp only [partC,colsP]
  cases usesB k rt ts cs ps
  · rfl
  · cases k == 1
    · cases (decide (0≤lf) && decide (lf<(cols.length:Int))) && (decide (0≤rt) && decide (rt<(cols.length:Int))) <;> rfl
    · cases decide (0≤lf) && decide (lf<(bs.length:Int)) <;> rfl
 rw [hpc] at h
 simp only [e1,impl_uses_eq,Option.bind_some]
 have hs:cols.length+[c].length≤4294967296:=by simp only [List.length_cons,List.length_nil]; omega
 cases h1:(colsP bs cols k lf rt ts cs ps).2 with
 | false => rw [h1,Bool.and_false] at h; exact h
 | true =>
   cases h2:usesB k rt ts cs ps with
   | false => rw [h2] at h; exact h
   | true =>
     rw [h1,h2,← e2 h1] at h
     simp only [bang_t,cond_false,dec_t hs,cond_true,wrap_succ (show i<9223372036854775807 by omega)]
     exact h
theorem impl_chk_loop (hb : bs.length ≤ 2000000) (hbs : colOK bs) (hl : parts.length ≤ 12) (hp : ∀ p, p ∈ parts → prtOK p) : ∀ (n i : Nat) (cols : List Int), i + n = parts.length → cols.length = i → colOK cols →
 xi2b.l5 bs parts cols parts (parts.length:Int) (i:Int)=some (outC (chkF bs (parts.drop i) cols))
 | 0,i,cols,hi,_,_ => by
   have e:i=parts.length:=by omega
   subst e
   rw [List.drop_length]
   exact xi2b.eq5 _ _ _ _ _ _ (by simp only [xi2b.t5,ix_lt,Nat.lt_irrefl,decide_false,cond_false,chkF,outC])
 | n+1,i,cols,hi,hc,hco => by
   have g:i<parts.length:=by omega
   refine impl_step hb g hc hco (hp _ (getD_mem zP g)) (by omega) ?_
   rw [drop_getD zP g,chkF]
   cases e:partC bs cols (parts.getD i zP) with
   | none => rfl
   | some c => exact impl_chk_loop hb hbs hl hp n (i+1) (cols ++ [c]) (by omega) (by rw [List.length_append,List.length_singleton]; omega) (chk_inv hco (partC_ok hbs hco e))
theorem impl_check_eq (hb:bs.length≤2000000) (hp:∀ p,p∈parts→prtOK p):xi2b bs parts=some (outC (checkV bs parts)):=by
 refine xi2b.eq _ _ ?_
 have ea:=xi10_ok bs (inB 0 6) (by omega) (fun x _ => xi2f_eq x)
 simp only [xi2b.t,xi3s_eq,ea,Option.bind_some,checkV]
 cases h4:inB 1 4 (bs.length:Int) with
 | false => cases bs.all (inB 0 6) <;> rfl
 | true =>
   cases ha:bs.all (inB 0 6) with
   | false => rfl
   | true =>
     cases h12:inB 1 12 (parts.length:Int) with
     | false => rfl
     | true =>
       have h:=inB_iff.1 h12
       simp only [bang_t,cond_false,Bool.and_self,cond_true]
       have k:=impl_chk_loop hb (all_col ha) (by omega) hp parts.length 0 [] (by omega) rfl (fun x hx => by cases hx)
       rw [List.drop_zero] at k
       exact k
end
end GoV

/- Copies of views; what a check says of each part. -/
namespace GoV
open Go
def bndP (p:Prt):Prop:=p.2.2.2.1.length≤1073741824∧p.2.2.2.2.1.length≤1073741824∧p.2.2.2.2.2.length≤1073741824∧∀ x,x∈p.2.2.2.2.2→x.length≤1073741824
section
variable {bs:List Int} {parts:List Prt} (hb:bs.length≤1073741824) (hl:parts.length≤1073741824) (hp:∀ p,p∈parts→bndP p)
include hb hl hp
end
/-- What a check that goes through says of each part. -/
theorem chkF_at {bs : List Int} : ∀ (l : List Prt) (acc c : List Int), chkF bs l acc = some c → c.length = acc.length + l.length ∧ c.take acc.length = acc ∧
 ∀ i,i<l.length→partC bs (c.take (acc.length+i)) (l.getD i zP)=some (c.getD (acc.length+i) 0)
 | [],acc,c,h => by
   rw [chkF] at h
   obtain rfl:=Option.some.inj h
   exact ⟨rfl,List.take_length,fun i hi => absurd hi (by simp)⟩
 | p::r,acc,c,h => by
   rw [chkF] at h
   cases e:partC bs acc p with
   | none => rw [e] at h; cases h
   | some x =>
     rw [e] at h
     obtain ⟨h1,h2,h3⟩:=chkF_at r (acc ++ [x]) c h
     rw [List.length_append,List.length_singleton] at h1 h2 h3
     have h4:c.take acc.length=acc:=by
        have:=congrArg (List.take acc.length) h2
        rw [List.take_take,Nat.min_eq_left (by omega),List.take_left] at this
        exact this
     refine ⟨by rw [h1,List.length_cons]; omega,h4,fun i hi => ?_⟩
     cases i with
     | zero =>
       rw [Nat.add_zero,h4,List.getD_cons_zero,e]
       have:(c.take (acc.length+1)).getD acc.length 0=x:=by rw [h2]; simp
       rw [← this,getD_of_lt (by rw [List.length_take]; omega),getD_of_lt (by omega),List.getElem_take]
     | succ i =>
       rw [List.getD_cons_succ,show acc.length+(i+1)=acc.length+1+i by omega]
       exact h3 i (by simpa using hi)
theorem partC_left {bs cols:List Int} {p:Prt} {c:Int} (h:partC bs cols p=some c) (h1:(p.1 == 1)=false):(0≤p.2.1∧p.2.1<(cols.length:Int))∧0≤p.2.2.1∧p.2.2.1<(cols.length:Int):=by
 simp only [partC,h1,cond_false] at h
 cases hu:usesB p.1 p.2.2.1 p.2.2.2.1 p.2.2.2.2.1 p.2.2.2.2.2 with
 | false => rw [hu] at h; cases h
 | true =>
   rw [hu,cond_true] at h
   cases hr:(decide (0≤p.2.1) && decide (p.2.1<(cols.length:Int))) && (decide (0≤p.2.2.1) && decide (p.2.2.1<(cols.length:Int))) with
   | false => rw [hr] at h; cases h
   | true =>
     simp only [Bool.and_eq_true,decide_eq_true_eq] at hr
     exact hr
theorem checkV_some {bs cols:List Int} {parts:List Prt} (h:checkV bs parts=some cols):(colOK bs∧(1≤(bs.length:Int)∧(bs.length:Int)≤4)∧1≤(parts.length:Int)∧(parts.length:Int)≤12)∧chkF bs parts []=some cols:=by
 unfold checkV at h
 cases e:(bs.all (inB 0 6) && (inB 1 4 (bs.length:Int) && inB 1 12 (parts.length:Int))) with
 | false => rw [e] at h; cases h
 | true =>
   rw [e,cond_true] at h
   simp only [Bool.and_eq_true] at e
   exact ⟨⟨all_col e.1,inB_iff.1 e.2.1,inB_iff.1 e.2.2⟩,h⟩
abbrev prtTy:Ty:=.pair (.int .i64) (.pair (.int .i64) (.pair (.int .i64) (.pair (.sl (.pair (.int .i64) (.pair (.int .i64) (.int .i64)))) (.pair (.sl (.int .i64)) (.sl (.sl (.int .i64)))))))
theorem prt_sz (p:Prt):szT prtTy p=p.2.2.2.1.length+(p.2.2.2.2.1.length+szT (.sl (.sl (.int .i64))) p.2.2.2.2.2):=by
 show 0+(0+(0+(szT (.sl (.pair (.int .i64) (.pair (.int .i64) (.int .i64)))) p.2.2.2.1+(szT (.sl (.int .i64)) p.2.2.2.2.1+szT (.sl (.sl (.int .i64))) p.2.2.2.2.2))))=_
 rw [szT_sl_flat (t:=.pair (.int .i64) (.pair (.int .i64) (.int .i64))) p.2.2.2.1 rfl,szT_sl_flat (t:=.int .i64) p.2.2.2.2.1 rfl]
 omega
theorem prt_bnd {p:Prt} {B:Nat} (h:szT prtTy p≤B) (hB:B≤1073741824):bndP p:=by
 rw [prt_sz] at h
 have h2:=szT_len (t:=.sl (.int .i64)) (l:=p.2.2.2.2.2)
 refine ⟨by omega,by omega,by omega,fun x hx => ?_⟩
 have h3:=szT_mem (t:=.sl (.int .i64)) hx
 have h4:=szT_len (t:=.int .i64) (l:=x)
 omega
end GoV

/- Tables kept with other weights (printed by wip/tools/lawgen.py). -/
namespace GoV
open Go
theorem xi0s_ok (v0:Int) (v1:Zd) (f:WRow→Int) (hl:v1.length≤1073741824) (hr:∀ w,w∈v1→w.1.length≤1073741824) (hf:∀ w,w∈v1→xi18 (w.fst) (w.snd)=some (f w)):xi0s v0 v1=some (v0,keptL f v1):=by
 refine xi0s.eq v0 v1 ?_
 simp only [xi0s.t]
 refine push_loop v1 ([],0) (fun acc i => xi0s.l3 ((0:Int)) ([]) (v0) acc (v1) ((↑v1.length:Int)) (i:Int)) (keptG f) (keptG_len f) (fun acc => some (v0,acc)) ?_ ?_ _ rfl
 · intro acc b _ hb
   exact xi0s.eq3 _ _ _ _ _ _ _ (by simp only [xi0s.t3,ix_lt,Nat.lt_irrefl,decide_false,cond_false]; exact hb)
 · intro acc i b hi ha hb
   have hmem:=getD_mem (([],0):WRow) hi
   have hw:=hr _ hmem
   have hc:=hf _ hmem
   refine xi0s.eq3 _ _ _ _ _ _ _ ?_
   simp only [xi0s.t3,ix_lt,ix_nn,ix_nat,dec_t hi,cond_true,hc,Option.bind_some,wrap_succ (show i<9223372036854775807 by omega)]
   simp only [keptG] at hb
   by_cases h0:f (v1.getD i ([],0))=0
   · rw [if_pos h0, List.append_nil] at hb
     have:(f (v1.getD i ([],0)) != 0)=false:=by rw [h0]; exact bne_ref _
     simp only [this,cond_false]
     exact hb
   · rw [if_neg h0] at hb
     have h1:(f (v1.getD i ([],0)) != 0)=true:=bne_iff_ne.2 h0
     have h2:acc.length+[((v1.getD i ([],0)).1,f (v1.getD i ([],0)))].length≤4294967296:=by simp only [List.length_cons,List.length_nil]; omega
     simp only [h1,xi33_eq _ hw,Option.bind_some,dec_t h2,cond_true]
     exact hb
theorem xi0t_ok (v0:Int) (v1:Zd) (v2:Ze) (f:WRow→Int) (hl:v1.length≤1073741824) (hr:∀ w,w∈v1→w.1.length≤1073741824) (hf:∀ w,w∈v1→xi19 (w.fst) (w.snd) (v2)=some (f w)):xi0t v0 v1 v2=some (v0,keptL f v1):=by
 refine xi0t.eq v0 v1 v2 ?_
 simp only [xi0t.t]
 refine push_loop v1 ([],0) (fun acc i => xi0t.l3 (v2) ((0:Int)) ([]) (v0) acc (v1) ((↑v1.length:Int)) (i:Int)) (keptG f) (keptG_len f) (fun acc => some (v0,acc)) ?_ ?_ _ rfl
 · intro acc b _ hb
   exact xi0t.eq3 _ _ _ _ _ _ _ _ (by simp only [xi0t.t3,ix_lt,Nat.lt_irrefl,decide_false,cond_false]; exact hb)
 · intro acc i b hi ha hb
   have hmem:=getD_mem (([],0):WRow) hi
   have hw:=hr _ hmem
   have hc:=hf _ hmem
   refine xi0t.eq3 _ _ _ _ _ _ _ _ ?_
   simp only [xi0t.t3,ix_lt,ix_nn,ix_nat,dec_t hi,cond_true,hc,Option.bind_some,wrap_succ (show i<9223372036854775807 by omega)]
   simp only [keptG] at hb
   by_cases h0:f (v1.getD i ([],0))=0
   · rw [if_pos h0, List.append_nil] at hb
     have:(f (v1.getD i ([],0)) != 0)=false:=by rw [h0]; exact bne_ref _
     simp only [this,cond_false]
     exact hb
   · rw [if_neg h0] at hb
     have h1:(f (v1.getD i ([],0)) != 0)=true:=bne_iff_ne.2 h0
     have h2:acc.length+[((v1.getD i ([],0)).1,f (v1.getD i ([],0)))].length≤4294967296:=by simp only [List.length_cons,List.length_nil]; omega
     simp only [h1,xi33_eq _ hw,Option.bind_some,dec_t h2,cond_true]
     exact hb
end GoV

/- Rows once each. -/
namespace GoV
open Go
def oneP (n:Int):Int:=if n > 0 then 1 else 0
theorem xi4i_eq (n:Int):xi4i n=some (oneP n):=by
 refine xi4i.eq n ?_
 simp only [xi4i.t,oneP]
 by_cases h:n > 0
 · simp only [dec_t h,cond_true,if_pos h]
 · simp only [dec_f h,cond_false,if_neg h]
theorem xs29_eq (l:List WRow) (hl:l.length≤1073741824):xs29 l=some (keptL (fun w => oneP w.2) l):=by
 refine xs29.eq l ?_
 simp only [xs29.t]
 refine push_loop l ([],0) (fun acc i => xs29.l3 acc l (l.length:Int) (i:Int)) (keptG fun w => oneP w.2) (keptG_len _) some ?_ ?_ _ rfl
 · intro acc b _ hb
   exact xs29.eq3 _ _ _ _ (by simp only [xs29.t3,ix_lt,Nat.lt_irrefl,decide_false,cond_false]; exact hb)
 · intro acc i b hi ha hb
   refine xs29.eq3 _ _ _ _ ?_
   simp only [xs29.t3,ix_lt,ix_nn,ix_nat,dec_t hi,cond_true,wrap_succ (show i<9223372036854775807 by omega)]
   by_cases h0:(l.getD i ([],0)).2 > 0
   · rw [keptG_some (v := 1) (if_pos h0) (by omega)] at hb
     have h2:acc.length+[((l.getD i ([],0)).1,(1:Int))].length≤4294967296:=by simp only [List.length_cons,List.length_nil]; omega
     simp only [dec_t h0,dec_t h2,cond_true]
     exact hb
   · rw [keptG_zero (if_neg h0), List.append_nil] at hb
     simp only [dec_f h0,cond_false]
     exact hb
theorem xi18_eq (r:List Int) (n:Int):xi18 r n=some (oneP n):=xi18.eq r n (by simp only [xi18.t,xi4i_eq,Option.bind_some])
theorem xi1d_eq (c:Int) (l:List WRow) (hl:l.length≤1073741824) (hr:∀ w,w∈l→w.1.length≤1073741824):xi1d c l=some (c,keptL (fun w => oneP w.2) l):=by
 have:=xi0s_ok c l (fun w => oneP w.2) hl hr (fun w _ => xi18_eq w.1 w.2)
 exact xi1d.eq c l (by simp only [xi1d.t,this,Option.bind_some])
theorem goodT_distinct {c:Int} {l:List WRow} (h:goodT c l=true):goodT c (keptL (fun w => oneP w.2) l)=true:=goodT_kept h fun w _ => by
 simp only [oneP]
 split <;> omega
end GoV

/- Rows that pass tests: alike for the program and its specification. -/
namespace GoV
open Go
theorem xi1u_eq {c:Int} {x:Tst} {r:List Int} (h:testB c x=true) (hc:(r.length:Int)=c):xi1u x.1 x.2.1 x.2.2 r=some (trueB r x):=by
 obtain ⟨⟨h1,h2⟩,h3⟩:=testB_fit h
 refine xi1u.eq _ _ _ _ ?_
 have h4:x.2.1.toNat<r.length:=by omega
 simp only [xi1u.t,dec_t h1,dec_t h4,cond_true,trueB]
 cases e1:x.1 == 1
 · cases e2 : x.1 == 2
   · cases e3 : x.1 == 3
     · have g1 := beq_eq_false_iff_ne.1 e1
       have g2:=beq_eq_false_iff_ne.1 e2
       have g3:=beq_eq_false_iff_ne.1 e3
       have h5:0≤x.2.2:=by omega
       have h6:x.2.2.toNat<r.length:=by omega
       simp only [dec_t h5,dec_t h6,cond_true,cond_false]
     · rfl
   · rfl
 · rfl
theorem xs4a_eq {c:Int} {l:List Tst} {r:List Int} (hl:l.length≤1073741824) (h:∀ x,x∈l→testB c x=true) (hc:(r.length:Int)=c):xs4a l r=some (l.all (trueB r)):=by
 refine xs4a.eq l r ?_
 simp only [xs4a.t]
 have:=all_loop l (0,0,0) (fun i => xs4a.l2 r l (l.length:Int) (i:Int)) (trueB r) false true ?_ ?_ ?_
 · refine Eq.trans this ?_
   cases l.all (trueB r) <;> rfl
 · exact xs4a.eq2 _ _ _ _ (by simp only [xs4a.t2,ix_lt,Nat.lt_irrefl,decide_false,cond_false])
 · intro i hi hb
   obtain ⟨⟨h1,h2⟩,h3⟩:=testB_fit (h _ (getD_mem (0,0,0) hi))
   have h4:(l.getD i (0,0,0)).2.1.toNat<r.length:=by omega
   refine xs4a.eq2 _ _ _ _ ?_
   simp only [trueB] at hb
   simp only [xs4a.t2,ix_lt,ix_nn,ix_nat,dec_t hi,dec_t h1,dec_t h4,cond_true]
   cases e1:(l.getD i (0,0,0)).1 == 1
   · cases e2 : (l.getD i (0, 0, 0)).1 == 2
     · cases e3 : (l.getD i (0, 0, 0)).1 == 3
       · have g1 := beq_eq_false_iff_ne.1 e1
         have g2:=beq_eq_false_iff_ne.1 e2
         have g3:=beq_eq_false_iff_ne.1 e3
         have h5:0≤(l.getD i (0,0,0)).2.2:=by omega
         have h6:(l.getD i (0,0,0)).2.2.toNat<r.length:=by omega
         simp only [e1,e2,e3,cond_false] at hb
         simp only [dec_t h5,dec_t h6,hb,bang_f,cond_true,cond_false]
       · simp only [e1, e2, e3, cond_true, cond_false] at hb
         simp only [hb,bang_f,cond_true,cond_false]
     · simp only [e1, e2, cond_true, cond_false] at hb
       simp only [hb,bang_f,cond_true,cond_false]
   · simp only [e1, cond_true] at hb
     simp only [hb,bang_f,cond_true]
 · intro i b hi hb hs
   obtain ⟨⟨h1,h2⟩,h3⟩:=testB_fit (h _ (getD_mem (0,0,0) hi))
   have h4:(l.getD i (0,0,0)).2.1.toNat<r.length:=by omega
   refine xs4a.eq2 _ _ _ _ ?_
   simp only [trueB] at hb
   simp only [xs4a.t2,ix_lt,ix_nn,ix_nat,dec_t hi,dec_t h1,dec_t h4,cond_true,wrap_succ (show i<9223372036854775807 by omega)]
   cases e1:(l.getD i (0,0,0)).1 == 1
   · cases e2 : (l.getD i (0, 0, 0)).1 == 2
     · cases e3 : (l.getD i (0, 0, 0)).1 == 3
       · have g1 := beq_eq_false_iff_ne.1 e1
         have g2:=beq_eq_false_iff_ne.1 e2
         have g3:=beq_eq_false_iff_ne.1 e3
         have h5:0≤(l.getD i (0,0,0)).2.2:=by omega
         have h6:(l.getD i (0,0,0)).2.2.toNat<r.length:=by omega
         simp only [e1,e2,e3,cond_false] at hb
         simp only [dec_t h5,dec_t h6,hb,bang_t,cond_true,cond_false]
         exact hs
       · simp only [e1, e2, e3, cond_true, cond_false] at hb
         simp only [hb,bang_t,cond_true,cond_false]
         exact hs
     · simp only [e1, e2, cond_true, cond_false] at hb
       simp only [hb,bang_t,cond_true,cond_false]
       exact hs
   · simp only [e1, cond_true] at hb
     simp only [hb,bang_t,cond_true,cond_false]
     exact hs
def selF (ts:List Tst) (w:WRow):Int:=bif ts.all (trueB w.1) then w.2 else 0
theorem xs2z_eq {c:Int} (l:List WRow) (ts:List Tst) (hl:l.length≤1073741824) (ht:ts.length≤1073741824) (h:∀ x,x∈ts→testB c x=true) (hc:∀ w,w∈l→(w.1.length:Int)=c∧w.2≠0):xs2z l ts=some (keptL (selF ts) l):=by
 refine xs2z.eq l ts ?_
 simp only [xs2z.t]
 refine push_loop l ([],0) (fun acc i => xs2z.l3 ts acc l (l.length:Int) (i:Int)) (keptG (selF ts)) (keptG_len _) some ?_ ?_ _ rfl
 · intro acc b _ hb
   exact xs2z.eq3 _ _ _ _ _ (by simp only [xs2z.t3,ix_lt,Nat.lt_irrefl,decide_false,cond_false]; exact hb)
 · intro acc i b hi ha hb
   refine xs2z.eq3 _ _ _ _ _ ?_
   obtain ⟨g1,g2⟩:=hc _ (getD_mem ([],0) hi)
   simp only [xs2z.t3,ix_lt,ix_nn,ix_nat,dec_t hi,cond_true,wrap_succ (show i<9223372036854775807 by omega),xs4a_eq ht h g1,Option.bind_some]
   cases h0:ts.all (trueB (l.getD i ([],0)).1)
   · rw [keptG_zero (show selF ts (l.getD i ([], 0)) = 0 by rw [selF, h0]; rfl), List.append_nil] at hb
     simp only [cond_false]
     exact hb
   · rw [keptG_some (show selF ts (l.getD i ([], 0)) = (l.getD i ([], 0)).2 by rw [selF, h0]; rfl) g2] at hb
     have h2:acc.length+[((l.getD i ([],0)).1,(l.getD i ([],0)).2)].length≤4294967296:=by simp only [List.length_cons,List.length_nil]; omega
     simp only [dec_t h2,cond_true]
     exact hb
theorem xi1e_eq {c:Int} {l:List WRow} {ts:List Tst} (hg:goodT c l=true) (ht:testsB c ts=true):xi1e c l ts=some (c,keptL (selF ts) l)∧xs2z l ts=some (keptL (selF ts) l)∧goodT c (keptL (selF ts) l)=true:=by
 obtain ⟨hl,hr⟩:=goodT_rows hg
 obtain ⟨⟨_,h6⟩,_,hrows,_⟩:=goodT_iff.1 hg
 have ht2:=ht
 simp only [testsB,Bool.and_eq_true,decide_eq_true_eq] at ht2
 have hts:=List.all_eq_true.1 ht2.1
 have hc:∀ w,w∈l→(w.1.length:Int)=c∧w.2≠0:=fun w hw => by
  obtain ⟨_,g1,_,g2⟩:=rowB_iff.1 (hrows w hw)
  exact ⟨g1,g2⟩
 have e5:=xs2z_eq l ts (by omega) (by omega) hts hc
 have hf:∀ w,w∈l→xi19 w.1 w.2 ts=some (selF ts w):=by
  intro w hw
  have:=xi0l_ok ts w.1 w.2 (trueB w.1) (by omega) (fun x hx => xi14.eq _ _ _ _ _ (by simp only [xi14.t,xi1u_eq (hts x hx) (hc w hw).1,Option.bind_some]))
  refine xi19.eq _ _ _ ?_
  simp only [xi19.t,this,Option.bind_some,selF]
  cases ts.all (trueB w.1) <;> rfl
 have e6:=xi0t_ok c l ts (selF ts) (by omega) (fun w hw => by have:=(hr w hw).1; omega) hf
 refine ⟨xi1e.eq c l ts (by simp only [xi1e.t,e6,Option.bind_some]),e5,goodT_kept hg fun w hw => ?_⟩
 obtain ⟨_,_,g3,_⟩:=rowB_iff.1 (hrows w hw)
 simp only [selF]
 cases ts.all (trueB w.1) <;> simp <;> omega
end GoV

/- Tables joined: the program's answer is the specification's. -/
namespace GoV
open Go
/-! ## Loops that put in, or push, many rows for each element -/
theorem PutOK.mono {M M':Int} {N N':Nat} {l:List WRow} (h:PutOK M N l) (hM:M≤M') (hN:N≤N'):PutOK M' N' l :=
 ⟨Nat.le_trans h.len hN,h.row,fun w hw => by have:=h.wt w hw; omega⟩
theorem PutOK.puts {m : Int} (hm : 0 ≤ m) : ∀ (b : List WRow) {M : Int} {N : Nat} {l : List WRow}, 0 ≤ M → PutOK M N l → (∀ w, w ∈ b → w.1.length ≤ 1073741824 ∧ (-m ≤ w.2 ∧ w.2 ≤ m)) → PutOK (M + m * (b.length : Int)) (N + b.length) (putsL l b)
 | [],M,N,l,hM,h,_ => by simpa [putsL] using h
 | w::b,M,N,l,hM,h,hb => by
   obtain ⟨h1,h2⟩:=hb w (by simp)
   have k:=PutOK.puts hm b (by omega) (h.put h1 h2 hM hm) fun x hx => hb x (List.mem_cons_of_mem _ hx)
   have e:M+m+m * (b.length:Int)=M+m * ((w::b).length:Int):=by
     rw [List.length_cons,Int.natCast_succ,Int.mul_add,Int.mul_one]; omega
   rw [e] at k
   exact k.mono (Int.le_refl _) (by simp only [List.length_cons]; omega)
theorem putsL_append (l a b:List WRow):putsL l (a ++ b)=putsL (putsL l a) b:=by rw [putsL,List.foldl_append]; rfl
theorem putsK_loop {α β : Type} (l : List α) (z : α) (g : α → List WRow) (L : List WRow → Nat → Option β) (res : List WRow → Option β) {M m : Int} {N K : Nat} (hM : 0 ≤ M) (hm : 0 ≤ m)
 (hg:∀ x,x∈l→(g x).length≤K∧∀ w,w∈g x→w.1.length≤1073741824∧(-m≤w.2∧w.2≤m))
 (he:∀ acc b,PutOK (M+m * ((K * l.length:Nat):Int)) (N+K * l.length) acc→res acc=some b→L acc l.length=some b)
 (hs:∀ acc i b,i<l.length→PutOK (M+m * ((K * i:Nat):Int)) (N+K * i) acc→L (putsL acc (g (l.getD i z))) (i+1)=some b→L acc i=some b) :
 ∀ acc b,PutOK M N acc→res (putsL acc (l.flatMap g))=some b→L acc 0=some b:=by
 have key:∀ i,i≤l.length→∀ acc b,PutOK (M+m * ((K * i:Nat):Int)) (N+K * i) acc→res (putsL acc ((l.drop i).flatMap g))=some b→L acc i=some b:=by
  refine upto ?_ ?_
  · intro acc b ha hb
    rw [List.drop_length] at hb
    exact he acc b ha hb
  · intro i hi ih acc b ha hb
    rw [drop_getD z hi,List.flatMap_cons,putsL_append] at hb
    refine hs acc i b hi ha (ih _ b ?_ hb)
    obtain ⟨k1,k2⟩:=hg _ (getD_mem z hi)
    have h0:0≤m * ((K * i:Nat):Int):=Int.mul_nonneg hm (by omega)
    have k3:=PutOK.puts hm (g (l.getD i z)) (by omega) ha k2
    have h1:m * ((g (l.getD i z)).length:Int)≤m * (K:Int):=Int.mul_le_mul_of_nonneg_left (by omega) hm
    have e1:K * (i+1)=K * i+K:=Nat.mul_succ K i
    have e2:m * ((K * (i+1):Nat):Int)=m * ((K * i:Nat):Int)+m * (K:Int):=by rw [e1,Int.natCast_add,Int.mul_add]
    rw [e2]
    exact k3.mono (by omega) (by omega)
 intro acc b ha hb
 refine key 0 (Nat.zero_le _) acc b ?_ (by rw [List.drop_zero]; exact hb)
 simpa using ha
theorem pushK_loop {α β γ : Type} (l : List α) (z : α) (g : α → List γ) (L : List γ → Nat → Option β) (res : List γ → Option β) {N K : Nat}
 (hg:∀ x,x∈l→(g x).length≤K)
 (he:∀ acc b,acc.length≤N+K * l.length→res acc=some b→L acc l.length=some b)
 (hs:∀ acc i b,i<l.length→acc.length≤N+K * i→L (acc ++ g (l.getD i z)) (i+1)=some b→L acc i=some b) :
 ∀ acc b,acc.length≤N→res (acc ++ l.flatMap g)=some b→L acc 0=some b:=by
 have key:∀ i,i≤l.length→∀ acc b,acc.length≤N+K * i→res (acc ++ (l.drop i).flatMap g)=some b→L acc i=some b:=by
  refine upto ?_ ?_
  · intro acc b ha hb
    rw [List.drop_length,List.flatMap_nil,List.append_nil] at hb
    exact he acc b ha hb
  · intro i hi ih acc b ha hb
    rw [drop_getD z hi,List.flatMap_cons,← List.append_assoc] at hb
    refine hs acc i b hi ha (ih _ b ?_ hb)
    have k1:=hg _ (getD_mem z hi)
    have e1:K * (i+1)=K * i+K:=Nat.mul_succ K i
    rw [List.length_append]
    omega
 intro acc b ha hb
 exact key 0 (Nat.zero_le _) acc b (by omega) (by rw [List.drop_zero]; exact hb)
/-! ## The join -/
def joinW (ps:List (List Int)) (x y:WRow):List WRow:=bif ps.all (eqP x.1 y.1) then [(joinR x.1 y.1 ps,IntKind.i64.wrap (x.2 * y.2))] else []
def jnL (l u:List WRow) (ps:List (List Int)):List WRow:=l.flatMap fun x => u.flatMap (joinW ps x)
theorem joinW_len (ps:List (List Int)) (x y:WRow):(joinW ps x y).length≤1:=by
 unfold joinW
 cases ps.all (eqP x.1 y.1) <;> simp
theorem prod_abs {a b:Int} (ha:-1000000≤a∧a≤1000000) (hb:-1000000≤b∧b≤1000000):-1000000000000≤a * b∧a * b≤1000000000000:=by
 have key:∀ x y:Int,0≤x→x≤1000000→0≤y→y≤1000000→0≤x * y∧x * y≤1000000000000:=by
  intro x y h1 h2 h3 h4
  have:=Int.mul_le_mul h2 h4 h3 (by omega)
  exact ⟨Int.mul_nonneg h1 h3,by omega⟩
 by_cases h1:0≤a
 · by_cases h2 : 0 ≤ b
   · have:=key a b h1 ha.2 h2 hb.2; omega
   · have := key a (-b) h1 ha.2 (by omega) (by omega)
     rw [Int.mul_neg] at this; omega
 · by_cases h2 : 0 ≤ b
   · have := key (-a) b (by omega) (by omega) h2 hb.2
     rw [Int.neg_mul] at this; omega
   · have := key (-a) (-b) (by omega) (by omega) (by omega) (by omega)
     rw [Int.neg_mul_neg] at this; omega
/-- Rows of tables that fit, and pairs of their columns. -/
structure JoinOK (c d : Int) (l u : List WRow) (ps : List (List Int)) : Prop where
 c0:0≤c∧c≤6
 d0:0≤d∧d≤6
 ln:l.length≤60
 un:u.length≤60
 pn:ps.length≤6
 lr:∀ x,x∈l→(x.1.length:Int)=c∧(-1000000≤x.2∧x.2≤1000000)
 ur:∀ x,x∈u→(x.1.length:Int)=d∧(-1000000≤x.2∧x.2≤1000000)
 pr:∀ p,p∈ps→p.length=2∧(0≤p.getD 0 0∧p.getD 0 0<c)∧0≤p.getD 1 0∧p.getD 1 0<d
theorem JoinOK.of {c d:Int} {l u:List WRow} {ps:List (List Int)} (h1:goodT c l=true) (h2:goodT d u=true) (h3:pairsB c d ps=true):JoinOK c d l u ps:=by
 obtain ⟨a1,a2,a3,_⟩:=goodT_iff.1 h1
 obtain ⟨b1,b2,b3,_⟩:=goodT_iff.1 h2
 simp only [pairsB,Bool.and_eq_true,decide_eq_true_eq] at h3
 exact ⟨a1,b1,a2,b2,h3.2,fun x hx => by have:=rowB_iff.1 (a3 x hx); exact ⟨this.2.1,this.2.2.1⟩,fun x hx => by have:=rowB_iff.1 (b3 x hx); exact ⟨this.2.1,this.2.2.1⟩,fun p hp => pairB_iff.1 (List.all_eq_true.1 h3.1 p hp)⟩
section
variable {c d:Int} {l u:List WRow} {ps:List (List Int)} (H:JoinOK c d l u ps)
include H
theorem join_fit {x y:WRow} (hx:x∈l) (hy:y∈u):∀ p,p∈ps→p.length=2∧(0≤p.getD 0 0∧(p.getD 0 0).toNat<x.1.length)∧0≤p.getD 1 0∧(p.getD 1 0).toNat<y.1.length:=fun p hp => by
 have h1:=(H.lr x hx).1
 have h2:=(H.ur y hy).1
 obtain ⟨g0,⟨g1,g2⟩,g3,g4⟩:=H.pr p hp
 exact ⟨g0,⟨g1,by omega⟩,g3,by omega⟩
theorem join_rows {x y w:WRow} (hx:x∈l) (hy:y∈u) (hw:w∈joinW ps x y):(w.1.length:Int)=c+((unpL d.toNat ps).length:Int)∧(-1000000000000≤w.2∧w.2≤1000000000000):=by
 have h1:=H.lr x hx
 have h2:=H.ur y hy
 simp only [joinW] at hw
 cases hh:ps.all (eqP x.1 y.1) with
 | false => rw [hh] at hw; cases hw
 | true =>
   rw [hh,cond_true,List.mem_singleton] at hw
   subst hw
   have e:y.1.length=d.toNat:=by omega
   have k:=prod_abs h1.2 h2.2
   refine ⟨?_, ?_⟩
   · show ((joinR x.1 y.1 ps).length : Int) = _
     rw [joinR_len,e]; omega
   · show -1000000000000 ≤ IntKind.i64.wrap (x.2 * y.2) ∧ _
     rw [wrap_id (by omega) (by omega)]; exact k
theorem join_len:(jnL l u ps).length≤3600:=by
 have h1:∀ x,(u.flatMap (joinW ps x)).length≤60:=fun x => Nat.le_trans (flatMap_len (joinW_len ps x) u) H.un
 have key:∀ l:List WRow,(jnL l u ps).length≤60 * l.length:=by
  intro l
  induction l with
  | nil => simp [jnL]
  | cons x l ih =>
    have:=h1 x
    rw [jnL] at ih ⊢
    rw [List.flatMap_cons,List.length_append,List.length_cons]
    omega
 have:=key l
 have:=H.ln
 omega
theorem join_mem {w:WRow} (hw:w∈jnL l u ps):(w.1.length:Int)=c+((unpL d.toNat ps).length:Int)∧(-1000000000000≤w.2∧w.2≤1000000000000):=by
 obtain ⟨x,hx,h⟩:=List.mem_flatMap.1 hw
 obtain ⟨y,hy,h⟩:=List.mem_flatMap.1 h
 exact join_rows H hx hy h
theorem impl_joinedColumns_at:xi1i c d ps=some (c+((unpL d.toNat ps).length:Int)):=by
 have e:d=((d.toNat:Nat):Int):=by have:=H.d0; omega
 have h:=H.pn
 have hc:=H.c0
 have hd:=H.d0
 have hu:=unpL_len d.toNat ps
 have k:=xi2s_eq (ps:=ps) (by omega) (fun p hp => by have:=(H.pr p hp).1; omega) d.toNat (by omega)
 rw [← e] at k
 exact xi1i.eq c d ps (by simp only [xi1i.t,k,Option.bind_some]; rw [wrap_id (by omega) (by omega)])
theorem xs48_eq (hc:c+((unpL d.toNat ps).length:Int)≤6):xs48 l u ps=some (putsL [] (jnL l u ps)):=by
 have hln:=H.ln
 have hun:=H.un
 have hpn:=H.pn
 have inner:∀ (x:WRow) (i:Nat) (acc b:List WRow),x∈l→i<l.length→PutOK (0+1000000000000 * ((60 * i:Nat):Int)) (0+60 * i) acc→xs48.l3 u ps (putsL acc (u.flatMap (joinW ps x))) l (l.length:Int) ((i+1:Nat):Int)=some b→xs48.l6 u ps acc x.1 x.2 l (l.length:Int) (i:Int) u (u.length:Int) 0=some b:=by
  intro x i acc b hx hi ha hb
  refine putsK_loop u ([],0) (joinW ps x) (fun acc j => xs48.l6 u ps acc x.1 x.2 l (l.length:Int) (i:Int) u (u.length:Int) (j:Int)) (fun acc => xs48.l3 u ps acc l (l.length:Int) ((i+1:Nat):Int)) (M:=0+1000000000000 * ((60 * i:Nat):Int)) (m:=1000000000000) (N:=0+60 * i) (K:=1) (by omega) (by omega) ?_ ?_ ?_ acc b ha hb
  · intro y hy
    refine ⟨joinW_len ps x y,fun w hw => ?_⟩
    obtain ⟨h1,h2⟩:=join_rows H hx hy hw
    exact ⟨by omega,h2⟩
  · intro acc b _ hb
    exact xs48.eq6 _ _ _ _ _ _ _ _ _ _ _ (by simp only [xs48.t6,ix_lt,Nat.lt_irrefl,decide_false,cond_false,wrap_succ (show i<9223372036854775807 by omega)]; exact hb)
  · intro acc j b hj ha hb
    have hy:=getD_mem (([]:List Int),(0:Int)) hj
    have h1:=(H.lr x hx).1
    have h2:=(H.ur _ hy).1
    have hc0:=H.c0
    have hd0:=H.d0
    have e1:=xs45_eq (a:=x.1) (b:=(u.getD j ([],0)).1) (ps:=ps) (by omega) (by omega) (by omega) (join_fit H hx hy)
    refine xs48.eq6 _ _ _ _ _ _ _ _ _ _ _ ?_
    simp only [xs48.t6,ix_lt,ix_nn,ix_nat,dec_t hj,cond_true,e1,Option.bind_some,wrap_succ (show j<9223372036854775807 by omega)]
    cases hh:ps.all (eqP x.1 (u.getD j ([],0)).1) with
    | false =>
      simp only [joinW,hh,cond_false] at hb
      exact hb
    | true =>
      simp only [joinW,hh,cond_true] at hb
      have e2:(unpL (u.getD j ([],0)).1.length ps).length=(unpL d.toNat ps).length:=by rw [show (u.getD j ([],0)).1.length=d.toNat by omega]
      have e3:(joinR x.1 (u.getD j ([],0)).1 ps).length≤6:=by rw [joinR_len,e2]; omega
      have hk:=prod_abs (H.lr x hx).2 (H.ur _ hy).2
      have hw:IntKind.i64.wrap (x.2 * (u.getD j ([],0)).2)=x.2 * (u.getD j ([],0)).2:=wrap_id (by omega) (by omega)
      have hwr:=ha.wraps (m:=1000000000000) (n:=x.2 * (u.getD j ([],0)).2) hk (by omega)
      rw [hw] at hb
      simp only [cond_true,dec_t e3,hw,xs4f_eq (Nat.le_trans ha.len (by omega)) ha.row (Nat.le_trans e3 (by omega)) hwr,Option.bind_some]
      exact hb
 refine xs48.eq l u ps ?_
 simp only [xs48.t]
 refine putsK_loop l ([],0) (fun x => u.flatMap (joinW ps x)) (fun acc i => xs48.l3 u ps acc l (l.length:Int) (i:Int)) some (M:=0) (m:=1000000000000) (N:=0) (K:=60) (Int.le_refl _) (by omega) ?_ ?_ ?_ [] _ PutOK.nil rfl
 · intro x hx
   refine ⟨Nat.le_trans (flatMap_len (joinW_len ps x) u) hun,fun w hw => ?_⟩
   obtain ⟨y,hy,h⟩:=List.mem_flatMap.1 hw
   obtain ⟨h1,h2⟩:=join_rows H hx hy h
   exact ⟨by omega,h2⟩
 · intro acc b _ hb
   exact xs48.eq3 _ _ _ _ _ _ (by simp only [xs48.t3,ix_lt,Nat.lt_irrefl,decide_false,cond_false]; exact hb)
 · intro acc i b hi ha hb
   refine xs48.eq3 _ _ _ _ _ _ ?_
   simp only [xs48.t3,ix_lt,ix_nn,ix_nat,dec_t hi,cond_true]
   exact inner _ i acc b (getD_mem _ hi) hi ha hb
theorem xi21_eq:xi21 c l d u ps=some (c+((unpL d.toNat ps).length:Int),putsL [] (jnL l u ps)):=by
 have hln:=H.ln
 have hun:=H.un
 have hpn:=H.pn
 have hc0:=H.c0
 have hd0:=H.d0
 have hul:=unpL_len d.toNat ps
 have hjl:=join_len H
 have inner:∀ (x:WRow) (i:Nat) (acc:List WRow) (b:Int × List WRow),x∈l→i<l.length→acc.length≤0+60 * i→xi21.l3 ps c l d u 0 [] (acc ++ u.flatMap (joinW ps x)) l (l.length:Int) ((i+1:Nat):Int)=some b→xi21.l6 ps c l d u 0 [] acc x.1 x.2 l (l.length:Int) (i:Int) u (u.length:Int) 0=some b:=by
  intro x i acc b hx hi ha hb
  refine pushK_loop u ([],0) (joinW ps x) (fun acc j => xi21.l6 ps c l d u 0 [] acc x.1 x.2 l (l.length:Int) (i:Int) u (u.length:Int) (j:Int)) (fun acc => xi21.l3 ps c l d u 0 [] acc l (l.length:Int) ((i+1:Nat):Int)) (N:=0+60 * i) (K:=1) (fun y _ => joinW_len ps x y) ?_ ?_ acc b ha hb
  · intro acc b _ hb
    exact xi21.eq6 _ _ _ _ _ _ _ _ _ _ _ _ _ _ _ _ (by simp only [xi21.t6,ix_lt,Nat.lt_irrefl,decide_false,cond_false,wrap_succ (show i<9223372036854775807 by omega)]; exact hb)
  · intro acc j b hj ha hb
    have hy:=getD_mem (([]:List Int),(0:Int)) hj
    have h1:=(H.lr x hx).1
    have h2:=(H.ur _ hy).1
    have e1:=xi3q_eq (a:=x.1) (b:=(u.getD j ([],0)).1) (ps:=ps) (by omega) (by omega) (by omega) (join_fit H hx hy)
    refine xi21.eq6 _ _ _ _ _ _ _ _ _ _ _ _ _ _ _ _ ?_
    simp only [xi21.t6,ix_lt,ix_nn,ix_nat,dec_t hj,cond_true,e1,Option.bind_some,wrap_succ (show j<9223372036854775807 by omega)]
    cases hh:ps.all (eqP x.1 (u.getD j ([],0)).1) with
    | false =>
      simp only [joinW,hh,cond_false,List.append_nil] at hb
      exact hb
    | true =>
      simp only [joinW,hh,cond_true] at hb
      have h6:acc.length+[(joinR x.1 (u.getD j ([],0)).1 ps,IntKind.i64.wrap (x.2 * (u.getD j ([],0)).2))].length≤4294967296:=by simp only [List.length_cons,List.length_nil]; omega
      simp only [cond_true,dec_t h6]
      exact hb
 have e5:=impl_summed_one (c:=c+((unpL d.toNat ps).length:Int)) (M:=1000000000000) (b:=jnL l u ps) (by omega) (fun w hw => by have:=(join_mem H hw).1; omega) (by omega) (fun w hw => (join_mem H hw).2) (by omega)
 refine xi21.eq c l d u ps ?_
 simp only [xi21.t]
 refine pushK_loop l ([],0) (fun x => u.flatMap (joinW ps x)) (fun acc i => xi21.l3 ps c l d u 0 [] acc l (l.length:Int) (i:Int)) (fun acc => (xi1i c d ps).bind fun r1 => (xi3r r1 [acc]).bind fun r2 => some (r2.fst,r2.snd)) (N:=0) (K:=60) (fun x _ => Nat.le_trans (flatMap_len (joinW_len ps x) u) hun) ?_ ?_ [] _ (Nat.zero_le _) ?_
 · intro acc b _ hb
   exact xi21.eq3 _ _ _ _ _ _ _ _ _ _ _ (by simp only [xi21.t3,ix_lt,Nat.lt_irrefl,decide_false,cond_false]; exact hb)
 · intro acc i b hi ha hb
   refine xi21.eq3 _ _ _ _ _ _ _ _ _ _ _ ?_
   simp only [xi21.t3,ix_lt,ix_nn,ix_nat,dec_t hi,cond_true]
   exact inner _ i acc b (getD_mem _ hi) hi ha hb
 · have e6 : ([] : List WRow) ++ l.flatMap (fun x => u.flatMap (joinW ps x)) = jnL l u ps := rfl
   rw [e6,impl_joinedColumns_at H,Option.bind_some,e5]; rfl
end
end GoV

/- Tables with some columns: the program's answer is the specification's. -/
namespace GoV
open Go
def projW (cs:List Int) (w:WRow):WRow:=(pickR w.1 cs,w.2)
def projG (cs:List Int) (w:WRow):List WRow:=[(pickR w.1 cs,w.2)]
theorem projG_map (cs : List Int) : ∀ l : List WRow, l.flatMap (projG cs) = l.map (projW cs)
 | [] => rfl
 | w::l => by rw [List.flatMap_cons,projG_map cs l]; rfl
section
variable {c:Int} {l:List WRow} {cs:List Int} (hg:goodT c l=true) (hc:colsB c cs=true)
include hg hc
theorem proj_fit:l.length≤60∧cs.length≤6∧(∀ w,w∈l→(∀ k,k∈cs→0≤k∧k.toNat<w.1.length)∧(-1000000≤w.2∧w.2≤1000000)):=by
 obtain ⟨_,h1,h2,_⟩:=goodT_iff.1 hg
 simp only [colsB,Bool.and_eq_true,decide_eq_true_eq] at hc
 refine ⟨h1,hc.2,fun w hw => ?_⟩
 obtain ⟨_,h3,h4,_⟩:=rowB_iff.1 (h2 w hw)
 refine ⟨fun k hk => ?_,h4⟩
 have:=plB_iff.1 (List.all_eq_true.1 hc.1 k hk)
 omega
theorem xs2l_eq:xs2l l cs=some (putsL [] (l.map (projW cs))):=by
 obtain ⟨h1,h2,h3⟩:=proj_fit hg hc
 refine xs2l.eq l cs ?_
 simp only [xs2l.t]
 have e:putsL [] (l.map (projW cs))=l.foldl (fun acc w => putL acc (pickR w.1 cs) w.2) []:=by rw [putsL,List.foldl_map]; rfl
 rw [e]
 refine puts_loop l ([],0) (fun w => pickR w.1 cs) (fun w => w.2) (fun acc i => xs2l.l3 cs acc l (l.length:Int) (i:Int)) some (M:=0) (m:=1000000) (N:=0) (Int.le_refl _) (by omega) (fun w _ => by rw [pickR_len]; omega) (fun w hw => (h3 w hw).2) ?_ ?_ [] _ PutOK.nil rfl
 · intro acc b _ hb
   exact xs2l.eq3 _ _ _ _ _ (by simp only [xs2l.t3,ix_lt,Nat.lt_irrefl,decide_false,cond_false]; exact hb)
 · intro acc i b hi ha hb
   obtain ⟨h4,h5⟩:=h3 _ (getD_mem ([],0) hi)
   refine xs2l.eq3 _ _ _ _ _ ?_
   have hk:(pickR (l.getD i ([],0)).1 cs).length≤1073741824:=by rw [pickR_len]; omega
   simp only [xs2l.t3,ix_lt,ix_nn,ix_nat,dec_t hi,cond_true,xs46_eq (show cs.length≤1073741824 by omega) h4,xs4f_eq (Nat.le_trans ha.len (by omega)) ha.row hk (ha.wraps (m:=1000000) h5 (by omega)),Option.bind_some,wrap_succ (show i<9223372036854775807 by omega)]
   exact hb
theorem xi1b_eq:xi1b c l cs=some ((cs.length:Int),putsL [] (l.map (projW cs))):=by
 obtain ⟨h1,h2,h3⟩:=proj_fit hg hc
 have hm:∀ w,w∈l.map (projW cs)→w.1.length≤1073741824∧(-1000000≤w.2∧w.2≤1000000):=fun w hw => by
  obtain ⟨u,hu,rfl⟩:=List.mem_map.1 hw
  refine ⟨?_,(h3 u hu).2⟩
  simp only [projW,pickR_len]; omega
 have e5:=impl_summed_one (c:=(cs.length:Int)) (M:=1000000) (b:=l.map (projW cs)) (by rw [List.length_map]; omega) (fun w hw => (hm w hw).1) (by omega) (fun w hw => (hm w hw).2) (by rw [List.length_map]; omega)
 refine xi1b.eq c l cs ?_
 simp only [xi1b.t]
 refine push_loop l ([],0) (fun acc i => xi1b.l3 cs 0 [] acc l (l.length:Int) (i:Int)) (projG cs) (fun _ => Nat.le_refl _) (fun acc => (xi3r (cs.length:Int) [acc]).bind fun r1 => some (r1.fst,r1.snd)) ?_ ?_ _ ?_
 · intro acc b _ hb
   exact xi1b.eq3 _ _ _ _ _ _ _ (by simp only [xi1b.t3,ix_lt,Nat.lt_irrefl,decide_false,cond_false]; exact hb)
 · intro acc i b hi ha hb
   obtain ⟨h4,h5⟩:=h3 _ (getD_mem ([],0) hi)
   refine xi1b.eq3 _ _ _ _ _ _ _ ?_
   have h6:acc.length+[(pickR (l.getD i ([],0)).1 cs,(l.getD i ([],0)).2)].length≤4294967296:=by simp only [List.length_cons,List.length_nil]; omega
   simp only [xi1b.t3,ix_lt,ix_nn,ix_nat,dec_t hi,cond_true,xi20_eq (show cs.length≤1073741824 by omega) h4,Option.bind_some,dec_t h6,wrap_succ (show i<9223372036854775807 by omega)]
   exact hb
 · rw [projG_map,e5]; rfl
end
end GoV

/- Tables added, as the program does it. -/
namespace GoV
open Go
theorem goodT_put {c:Int} {l:List WRow} (h:goodT c l=true):PutOK 1000000 60 l∧sortedW l∧nzW l:=by
 obtain ⟨_,h1,h2,h3⟩:=goodT_iff.1 h
 obtain ⟨_,h4⟩:=goodT_rows h
 exact ⟨⟨h1,fun w hw => by have:=(h4 w hw).1; omega,fun w hw => (h4 w hw).2.1⟩,h3,fun w hw => (h4 w hw).2.2⟩
end GoV

/- Streams of tables. -/
namespace GoV
open Go
abbrev Tab:=Int × List WRow
def smallT (t:Tab):Prop:=t.2.length≤1073741824∧∀ w,w∈t.2→w.1.length≤1073741824
section
variable {c:Int} {l:List Tab} (hl:l.length≤1073741824) (hr:∀ t,t∈l→smallT t)
include hl hr
end
/-! ## A state that goes along a list -/
theorem scaleL_one {l:List WRow} (h:∀ w,w∈l→-1000000000≤w.2∧w.2≤1000000000):scaleL 1 l=l:=by
 induction l with
 | nil => rfl
 | cons w l ih =>
   have h1:=h w (by simp)
   have e:scaleG 1 w=[w]:=by
    simp only [scaleG]
    rw [if_neg (by omega),Int.one_mul,wrap_id (by omega) (by omega)]
   rw [scaleL,List.flatMap_cons,e]
   have:=ih fun x hx => h x (List.mem_cons_of_mem _ hx)
   rw [scaleL] at this
   rw [this]
   rfl
end GoV

/- Streams summed and taken apart. -/
namespace GoV
open Go
/-- What a running sum keeps to. -/
structure SumOK (M : Int) (N : Nat) (l : List WRow) : Prop where
 put:PutOK M N l
 six:∀ w,w∈l→w.1.length≤6
 srt:sortedW l
 nz:nzW l
theorem SumOK.good {c:Int} {l:List WRow} (h:goodT c l=true):SumOK 1000000 60 l:=by
 obtain ⟨p1,p2,p3⟩:=goodT_put h
 exact ⟨p1,fun w hw => ((goodT_rows h).2 w hw).1,p2,p3⟩
theorem SumOK.nil:SumOK 0 0 []:=⟨⟨Nat.le_refl _,fun _ h => (by cases h),fun _ h => (by cases h)⟩,fun _ h => (by cases h),.nil,fun _ h => (by cases h)⟩
theorem PutOK.mono' {M M':Int} {N N':Nat} {l:List WRow} (h:PutOK M N l) (hM:M≤M') (hN:N≤N'):PutOK M' N' l :=
 ⟨Nat.le_trans h.len hN,h.row,fun w hw => by have:=h.wt w hw; omega⟩
theorem SumOK.mono {M M':Int} {N N':Nat} {l:List WRow} (h:SumOK M N l) (hM:M≤M') (hN:N≤N'):SumOK M' N' l:=⟨h.put.mono' hM hN,h.six,h.srt,h.nz⟩
theorem PutOK.puts' {m : Int} (hm : 0 ≤ m) : ∀ (b : List WRow) {M : Int} {N : Nat} {l : List WRow}, 0 ≤ M → PutOK M N l → (∀ w, w ∈ b → w.1.length ≤ 1073741824 ∧ (-m ≤ w.2 ∧ w.2 ≤ m)) → PutOK (M + m * (b.length : Int)) (N + b.length) (putsL l b)
 | [],M,N,l,hM,h,_ => by simpa [putsL] using h
 | w::b,M,N,l,hM,h,hb => by
   obtain ⟨h1,h2⟩:=hb w (by simp)
   have k:=PutOK.puts' hm b (by omega) (h.put h1 h2 hM hm) fun x hx => hb x (List.mem_cons_of_mem _ hx)
   have e:M+m+m * (b.length:Int)=M+m * ((w::b).length:Int):=by
     rw [List.length_cons,Int.natCast_succ,Int.mul_add,Int.mul_one]; omega
   rw [e] at k
   exact k.mono' (Int.le_refl _) (by simp only [List.length_cons]; omega)
theorem SumOK.puts {M m:Int} {N n:Nat} {l b:List WRow} (h:SumOK M N l) (hM:0≤M) (hb:SumOK m n b) (hm:0≤m):SumOK (M+m * (n:Int)) (N+n) (putsL l b):=by
 obtain ⟨r1,r2,_,r4,_⟩:=putsL_ok b h.srt h.nz
 have h1:m * (b.length:Int)≤m * (n:Int):=Int.mul_le_mul_of_nonneg_left (by have:=hb.put.len; omega) hm
 exact ⟨(PutOK.puts' hm b hM h.put fun w hw => ⟨hb.put.row w hw,hb.put.wt w hw⟩).mono' (by omega) (by have:=hb.put.len; omega),fun w hw => (r4 w hw).elim (h.six w) fun ⟨u,hu,e⟩ => by rw [e]; exact hb.six u hu,r1,r2⟩
theorem SumOK.small {M:Int} {N:Nat} {l:List WRow} (h:SumOK M N l) (hN:N≤1073741824):l.length≤1073741824∧∀ w,w∈l→w.1.length≤1073741824:=⟨Nat.le_trans h.put.len hN,h.put.row⟩
theorem spec_l2Add_gen {l b:List WRow} {M m:Int} {N n:Nat} (hM:0≤M) (hm:0≤m) (h1:PutOK M N l) (h2:PutOK m n b) (hN:N+n≤1073741824) (hbig:M+m * (n:Int)+m≤9223372036854775807):xs4e l b=some (putsL l b):=by
 have hbl:=h2.len
 refine xs4e.eq l b ?_
 simp only [xs4e.t]
 refine puts_loop b ([],0) (fun w => w.1) (fun w => w.2) (fun acc i => xs4e.l3 acc b (b.length:Int) (i:Int)) some (M:=M) (m:=m) (N:=N) hM hm h2.row h2.wt ?_ ?_ l _ h1 rfl
 · intro acc c _ hc
   exact xs4e.eq3 _ _ _ _ (by simp only [xs4e.t3,ix_lt,Nat.lt_irrefl,decide_false,cond_false]; exact hc)
 · intro acc i c hi ha hc
   have hx:=getD_mem (([]:List Int),(0:Int)) hi
   have h3:m * (i:Int)≤m * (n:Int):=Int.mul_le_mul_of_nonneg_left (by omega) hm
   refine xs4e.eq3 _ _ _ _ ?_
   simp only [xs4e.t3,ix_lt,ix_nn,ix_nat,dec_t hi,cond_true,xs4f_eq (Nat.le_trans ha.len (by omega)) ha.row (h2.row _ hx) (ha.wraps (m:=m) (h2.wt _ hx) (by omega)),Option.bind_some,wrap_succ (show i<9223372036854775807 by omega)]
   exact hc
theorem impl_summed_two {c M m:Int} {N n:Nat} {a b:List WRow} (ha:SumOK M N a) (hb:SumOK m n b) (hM:0≤M) (hm:m≤M) (hN:N+n≤1073741824) (hbig:M * ((N+n:Nat):Int)≤9223372036854775807):xi3r c [a,b]=some (c,putsL a b):=by
 have hfl:[a,b].flatten=a ++ b:=by simp
 have h1:=ha.put.len
 have h2:=hb.put.len
 have hfn:[a,b].flatten.length≤N+n:=by rw [hfl,List.length_append]; omega
 have h3:M * ([a,b].flatten.length:Int)≤M * ((N+n:Nat):Int):=Int.mul_le_mul_of_nonneg_left (by omega) hM
 exact xi3r_eq (c:=c) (M:=M) (ls:=[a,b]) hfl (by simp) (by omega) (fun w hw => by
  rw [hfl] at hw
  exact (List.mem_append.1 hw).elim (ha.put.row w) (hb.put.row w)) hM (fun w hw => by
  rw [hfl] at hw
  exact (List.mem_append.1 hw).elim (ha.put.wt w) fun h => by have:=hb.put.wt w h; omega) (by omega) ha.srt ha.nz
end GoV

/- Views run: each part's table, alike for the program and its specification. -/
namespace GoV
open Go
abbrev zT:Tab:=((0:Int),[])
def fitT (cs:List Int) (ts:List Tab):Prop:=ts.length=cs.length∧∀ j,j<cs.length→(ts.getD j zT).1=cs.getD j 0∧goodT (cs.getD j 0) (ts.getD j zT).2=true
def rowsT (src acc:List Tab) (p:Prt):List WRow :=
 bif p.1 == 4 then putsL [] (jnL (acc.getD p.2.1.toNat zT).2 (acc.getD p.2.2.1.toNat zT).2 p.2.2.2.2.2) else
 bif p.1 == 7 then keptL (fun w => oneP w.2) (acc.getD p.2.1.toNat zT).2 else
 bif p.1 == 1 then (src.getD p.2.1.toNat zT).2 else
 bif p.1 == 2 then keptL (selF p.2.2.2.1) (acc.getD p.2.1.toNat zT).2 else
 bif p.1 == 3 then putsL [] ((acc.getD p.2.1.toNat zT).2.map (projW p.2.2.2.2.1)) else
 bif p.1 == 5 then putsL (acc.getD p.2.1.toNat zT).2 (acc.getD p.2.2.1.toNat zT).2 else
 putsL (acc.getD p.2.1.toNat zT).2 (scaleL (-1) (acc.getD p.2.2.1.toNat zT).2)
def smallR (l:List WRow):Prop:=l.length≤100000∧∀ w,w∈l→w.1.length≤100
theorem smallR_good {c:Int} {l:List WRow} (h:goodT c l=true):smallR l:=by
 obtain ⟨h1,h2⟩:=goodT_rows h
 exact ⟨by omega,fun w hw => by have:=(h2 w hw).1; omega⟩
theorem smallR_puts {a b:List WRow} (ha:sortedW a) (hn:nzW a) (h1:smallR a) (h2:smallR b) (hl:a.length+b.length≤100000):smallR (putsL a b):=by
 obtain ⟨_,_,_,r4,r5⟩:=putsL_ok b ha hn
 refine ⟨by omega,fun w hw => ?_⟩
 rcases r4 w hw with h | ⟨u,hu,e⟩
 · exact h1.2 w h
 · rw [e]; exact h2.2 u hu
/-- The kinds of part that a check lets through. -/
theorem partC_kind {bs cs : List Int} {p : Prt} {c : Int} (h : partC bs cs p = some c) :
 (p.1=1∧(0≤p.2.1∧p.2.1<(bs.length:Int))∧c=bs.getD p.2.1.toNat 0) ∨
 ((p.1 == 1) = false ∧ (0 ≤ p.2.1 ∧ p.2.1 < (cs.length : Int)) ∧ (0 ≤ p.2.2.1 ∧ p.2.2.1 < (cs.length : Int)) ∧
   ((p.1 = 2 ∧ testsB (cs.getD p.2.1.toNat 0) p.2.2.2.1 = true ∧ c = cs.getD p.2.1.toNat 0) ∨
    (p.1=3∧colsB (cs.getD p.2.1.toNat 0) p.2.2.2.2.1=true∧c=(p.2.2.2.2.1.length:Int)) ∨
    (p.1=4∧pairsB (cs.getD p.2.1.toNat 0) (cs.getD p.2.2.1.toNat 0) p.2.2.2.2.2=true∧c=cs.getD p.2.1.toNat 0+((unpL (cs.getD p.2.2.1.toNat 0).toNat p.2.2.2.2.2).length:Int)∧c≤6) ∨
    ((p.1=5∨p.1=6)∧cs.getD p.2.1.toNat 0=cs.getD p.2.2.1.toNat 0∧c=cs.getD p.2.1.toNat 0) ∨
    (p.1=7∧c=cs.getD p.2.1.toNat 0))):=by
 obtain ⟨k,lf,rt,ts,ps,qs⟩:=p
 cases h1:k == 1 with
 | true =>
   left
   simp only [partC,h1,cond_true] at h
   cases hu:usesB k rt ts ps qs with
   | false => rw [hu] at h; cases h
   | true =>
     rw [hu,cond_true] at h
     cases hr:decide (0≤lf) && decide (lf<(bs.length:Int)) with
     | false => rw [hr] at h; cases h
     | true =>
       rw [hr,cond_true] at h
       simp only [Bool.and_eq_true,decide_eq_true_eq] at hr
       exact ⟨beq_iff_eq.1 h1,hr,(Option.some.inj h).symm⟩
 | false =>
   right
   obtain ⟨a1,a2⟩:=partC_left h h1
   refine ⟨rfl,a1,a2, ?_⟩
   have a1:0≤lf∧lf<(cs.length:Int):=a1
   have a2:0≤rt∧rt<(cs.length:Int):=a2
   simp only [partC,h1,cond_false,dec_t a1.1,dec_t a1.2,dec_t a2.1,dec_t a2.2,Bool.and_self,cond_true] at h
   cases hu:usesB k rt ts ps qs with
   | false => rw [hu] at h; cases h
   | true =>
     rw [hu,cond_true] at h
     cases hv:(colV k (cs.getD lf.toNat 0) (cs.getD rt.toNat 0) ts ps qs).2 with
     | false => rw [hv] at h; cases h
     | true =>
       rw [hv,cond_true] at h
       have h:=Option.some.inj h
       revert hv h
       simp only [colV]
       cases k2:k == 2
       · cases k3 : k == 3
         · cases k4 : k == 4
           · cases k5 : k == 5
             · cases k6 : k == 6
               · intro hv h
                 exact .inr (.inr (.inr (.inr ⟨beq_iff_eq.1 hv,h.symm⟩)))
               · intro hv h
                 exact .inr (.inr (.inr (.inl ⟨.inr (beq_iff_eq.1 k6),beq_iff_eq.1 hv,h.symm⟩)))
             · intro hv h
               exact .inr (.inr (.inr (.inl ⟨.inl (beq_iff_eq.1 k5),beq_iff_eq.1 hv,h.symm⟩)))
           · cases hp : pairsB (cs.getD lf.toNat 0) (cs.getD rt.toNat 0) qs
             · intro hv; cases hv
             · intro hv h
               simp only [cond_true,cond_false] at hv h
               have h6:=of_decide_eq_true hv
               exact .inr (.inr (.inl ⟨beq_iff_eq.1 k4,rfl,h.symm,by rw [← h]; exact h6⟩))
         · intro hv h
           exact .inr (.inl ⟨beq_iff_eq.1 k3,hv,h.symm⟩)
       · intro hv h
         exact .inl ⟨beq_iff_eq.1 k2,hv,h.symm⟩
section
variable {bs cs:List Int} {src acc:List Tab} (hs:fitT bs src) (ha:fitT cs acc)
include ha
theorem fit_at {i:Int} (h0:0≤i) (h1:i<(cs.length:Int)):i.toNat<acc.length∧(acc.getD i.toNat zT).1=cs.getD i.toNat 0∧goodT (cs.getD i.toNat 0) (acc.getD i.toNat zT).2=true:=by
 have h2:i.toNat<cs.length:=by omega
 exact ⟨by rw [ha.1]; exact h2,ha.2 _ h2⟩
include hs
/-- A part that is linear. -/
theorem linear_ok {p : Prt} {c : Int} (h : partC bs cs p = some c) (h4 : (p.1 == 4) = false) (h7 : (p.1 == 7) = false) :
 xi1t p.1 p.2.1 p.2.2.1 p.2.2.2.1 p.2.2.2.2.1 p.2.2.2.2.2 src acc=some (c,rowsT src acc p) ∧
 xs2a p.1 p.2.1 p.2.2.1 p.2.2.2.1 p.2.2.2.2.1 p.2.2.2.2.2 src acc=some (rowsT src acc p,src,acc)∧smallR (rowsT src acc p):=by
 obtain ⟨k,lf,rt,ts,ps,qs⟩:=p
 simp only [rowsT] at *
 rw [h4,h7]
 simp only [cond_false]
 rcases partC_kind h with ⟨e1,hl,hc⟩ | ⟨n1,hl,hr,hk⟩
 · simp only at e1 hl hc
   obtain ⟨q1,q2,q3⟩:=fit_at hs hl.1 hl.2
   have hk:(k == 1)=true:=by rw [e1]; rfl
   have hw:∀ w,w∈(src.getD lf.toNat zT).2→-1000000000≤w.2∧w.2≤1000000000:=fun w hw => by have:=((goodT_rows q3).2 w hw).2.1; omega
   have hsm:=smallR_good q3
   have e:=xi1o_eq (src.getD lf.toNat zT).1 (src.getD lf.toNat zT).2 1 (by have:=hsm.1; omega) (fun w hw => by have:=hsm.2 w hw; omega)
   rw [scaleL_one hw,q2,← hc] at e
   rw [hk]
   have e':xi1o (src.getD lf.toNat ((0:Int),[])).1 (src.getD lf.toNat ((0:Int),[])).2 1=some (c,(src.getD lf.toNat zT).2):=by rw [← e,q2,← hc]
   exact ⟨xi1t.eq _ _ _ _ _ _ _ _ (by simp only [xi1t.t,hk,dec_t hl.1,dec_t q1,cond_true,e',Option.bind_some]),xs2a.eq _ _ _ _ _ _ _ _ (by simp only [xs2a.t,hk,dec_t hl.1,dec_t q1,cond_true]),hsm⟩
 · simp only at n1 hl hr hk h4 h7
   obtain ⟨q1,q2,q3⟩:=fit_at ha hl.1 hl.2
   obtain ⟨r1,r2,r3⟩:=fit_at ha hr.1 hr.2
   rw [n1]
   simp only [cond_false]
   have sa:=smallR_good q3
   have sb:=smallR_good r3
   rcases hk with ⟨e2,ht,hc⟩ | ⟨e3,ht,hc⟩ | ⟨e4,_⟩ | ⟨e5,he,hc⟩ | ⟨e7,_⟩
   · have hk : (k == 2) = true := by rw [e2]; rfl
     obtain ⟨i1,i2,i3⟩:=xi1e_eq q3 ht
     rw [← q2] at i1
     rw [hk]
     have i1':xi1e (acc.getD lf.toNat ((0:Int),[])).1 (acc.getD lf.toNat ((0:Int),[])).2 ts=some (c,keptL (selF ts) (acc.getD lf.toNat zT).2):=by rw [hc,← q2]; exact i1
     exact ⟨xi1t.eq _ _ _ _ _ _ _ _ (by simp only [xi1t.t,n1,hk,dec_t hl.1,dec_t q1,cond_true,cond_false,i1',Option.bind_some]),xs2a.eq _ _ _ _ _ _ _ _ (by
        simp only [xs2a.t,n1,hk,dec_t hl.1,dec_t q1,cond_true,cond_false,show xs2z (acc.getD lf.toNat ((0:Int),[])).2 ts=_ from i2,Option.bind_some]),smallR_good i3⟩
   · have k2 : (k == 2) = false := by rw [e3]; rfl
     have hk:(k == 3)=true:=by rw [e3]; rfl
     have i1:=xi1b_eq q3 ht
     have i2:=xs2l_eq q3 ht
     rw [← q2] at i1
     rw [k2,hk]
     have i1':xi1b (acc.getD lf.toNat ((0:Int),[])).1 (acc.getD lf.toNat ((0:Int),[])).2 ps=some (c,putsL [] ((acc.getD lf.toNat zT).2.map (projW ps))):=by rw [hc]; exact i1
     refine ⟨xi1t.eq _ _ _ _ _ _ _ _ (by simp only [xi1t.t,n1,k2,hk,dec_t hl.1,dec_t q1,cond_true,cond_false,i1',Option.bind_some]),xs2a.eq _ _ _ _ _ _ _ _ (by
        simp only [xs2a.t,n1,k2,hk,dec_t hl.1,dec_t q1,cond_true,cond_false,show xs2l (acc.getD lf.toNat ((0:Int),[])).2 ps=_ from i2,Option.bind_some]), ?_⟩
     obtain ⟨_,p6,_⟩:=proj_fit q3 ht
     have hq:=(goodT_rows q3).1
     exact smallR_puts .nil (fun w hw => by cases hw) ⟨by simp,fun w hw => by cases hw⟩ ⟨by rw [List.length_map]; omega,fun w hw => by
        obtain ⟨u,_,rfl⟩:=List.mem_map.1 hw
        show (pickR u.1 ps).length≤_
        rw [pickR_len]; omega⟩ (by rw [List.length_map]; simp only [List.length_nil]; omega)
   · rw [e4] at h4; cases h4
   · have k2 : (k == 2) = false := by rcases e5 with e | e <;> (rw [e]; rfl)
     have k3:(k == 3)=false:=by rcases e5 with e | e <;> (rw [e]; rfl)
     have okA:=SumOK.good q3
     have okB:=SumOK.good r3
     obtain ⟨la,_⟩:=goodT_rows q3
     obtain ⟨lb,wb⟩:=goodT_rows r3
     rw [k2,k3]
     simp only [cond_false]
     rcases e5 with e5 | e6
     · have hk : (k == 5) = true := by rw [e5]; rfl
       have i1:=impl_summed_two (c:=c) okA okB (by omega) (by omega) (by omega) (by omega)
       have i2:=spec_l2Add_gen (by omega) (by omega) okA.put okB.put (by omega) (by omega)
       have i1':xi3r (acc.getD lf.toNat ((0:Int),[])).1 [(acc.getD lf.toNat ((0:Int),[])).2,(acc.getD rt.toNat ((0:Int),[])).2]=some (c,putsL (acc.getD lf.toNat zT).2 (acc.getD rt.toNat zT).2):=by rw [show (acc.getD lf.toNat ((0:Int),[])).1=c from q2.trans hc.symm]; exact i1
       rw [hk]
       exact ⟨xi1t.eq _ _ _ _ _ _ _ _ (by simp only [xi1t.t,n1,k2,k3,hk,dec_t hl.1,dec_t q1,dec_t hr.1,dec_t r1,cond_true,cond_false,i1',Option.bind_some]),xs2a.eq _ _ _ _ _ _ _ _ (by
        simp only [xs2a.t,n1,k2,k3,hk,dec_t hl.1,dec_t q1,dec_t hr.1,dec_t r1,cond_true,cond_false,show xs4e (acc.getD lf.toNat ((0:Int),[])).2 (acc.getD rt.toNat ((0:Int),[])).2=_ from i2,Option.bind_some]),smallR_puts okA.srt okA.nz sa sb (by omega)⟩
     · have hk : (k == 5) = false := by rw [e6]; rfl
       have gS:goodT (cs.getD rt.toNat 0) (scaleL (-1) (acc.getD rt.toNat zT).2)=true:=by
        rw [scaleL_neg r3]
        exact goodT_kept r3 fun w hw => by have:=(wb w hw).2.1; omega
       have okS:SumOK 1000000 60 (scaleL (-1) (acc.getD rt.toNat zT).2):=SumOK.good gS
       have ss:smallR (scaleL (-1) (acc.getD rt.toNat zT).2):=⟨by have:=okS.put.len; omega,fun w hw => by have:=okS.six w hw; omega⟩
       have j1:=xi1o_eq (acc.getD rt.toNat zT).1 (acc.getD rt.toNat zT).2 (-1) (by omega) (fun w hw => by have:=(wb w hw).1; omega)
       have j2:=xs3m_eq (acc.getD rt.toNat zT).2 (-1) (by omega)
       have i1:=impl_summed_two (c:=c) okA okS (by omega) (by omega) (by omega) (by omega)
       have i2:=spec_l2Add_gen (by omega) (by omega) okA.put okS.put (by omega) (by omega)
       have i1':xi3r (acc.getD lf.toNat ((0:Int),[])).1 [(acc.getD lf.toNat ((0:Int),[])).2,scaleL (-1) (acc.getD rt.toNat zT).2]=some (c,putsL (acc.getD lf.toNat zT).2 (scaleL (-1) (acc.getD rt.toNat zT).2)):=by rw [show (acc.getD lf.toNat ((0:Int),[])).1=c from q2.trans hc.symm]; exact i1
       rw [hk]
       exact ⟨xi1t.eq _ _ _ _ _ _ _ _ (by simp only [xi1t.t,n1,k2,k3,hk,dec_t hl.1,dec_t q1,dec_t hr.1,dec_t r1,cond_true,cond_false,show xi1o (acc.getD rt.toNat ((0:Int),[])).1 (acc.getD rt.toNat ((0:Int),[])).2 (-1)=_ from j1,i1',Option.bind_some]),xs2a.eq _ _ _ _ _ _ _ _ (by
        simp only [xs2a.t,n1,k2,k3,hk,dec_t hl.1,dec_t q1,dec_t hr.1,dec_t r1,cond_true,cond_false,show xs3m (acc.getD rt.toNat ((0:Int),[])).2 (-1)=_ from j2,show xs4e (acc.getD lf.toNat ((0:Int),[])).2 (scaleL (-1) (acc.getD rt.toNat zT).2)=_ from i2,Option.bind_some]),smallR_puts okA.srt okA.nz sa ss (by have:=okS.put.len; omega)⟩
   · rw [e7] at h7; cases h7
end
end GoV

/- Views run: all parts, one after the other. -/
namespace GoV
open Go
section
variable {bs cs:List Int} {src acc:List Tab} (hs:fitT bs src) (ha:fitT cs acc)
include hs ha
theorem join_ok {p : Prt} {c : Int} (h : partC bs cs p = some c) (h4 : (p.1 == 4) = true) :
 (0≤p.2.1∧p.2.1.toNat<acc.length∧0≤p.2.2.1∧p.2.2.1.toNat<acc.length) ∧
 xi21 (acc.getD p.2.1.toNat zT).1 (acc.getD p.2.1.toNat zT).2 (acc.getD p.2.2.1.toNat zT).1 (acc.getD p.2.2.1.toNat zT).2 p.2.2.2.2.2=some (c,rowsT src acc p) ∧
 xs48 (acc.getD p.2.1.toNat zT).2 (acc.getD p.2.2.1.toNat zT).2 p.2.2.2.2.2=some (rowsT src acc p)∧smallR (rowsT src acc p):=by
 obtain ⟨k,lf,rt,ts,ps,qs⟩:=p
 have hk4:k=4:=beq_iff_eq.1 h4
 simp only [rowsT] at *
 rw [h4]
 simp only [cond_true]
 rcases partC_kind h with ⟨e1,_⟩ | ⟨n1,hl,hr,hk⟩
 · simp only at e1; omega
 · simp only at n1 hl hr hk
   obtain ⟨q1,q2,q3⟩:=fit_at ha hl.1 hl.2
   obtain ⟨r1,r2,r3⟩:=fit_at ha hr.1 hr.2
   rcases hk with ⟨e,_⟩ | ⟨e,_⟩ | ⟨_,hp,hc,h6⟩ | ⟨e,_⟩ | ⟨e,_⟩
   · omega
   · omega
   · have H := JoinOK.of q3 r3 hp
     have i1:=xi21_eq H
     have i2:=xs48_eq H (by omega)
     have hj:=join_len H
     refine ⟨⟨hl.1,q1,hr.1,r1⟩, ?_,i2, ?_⟩
     · rw [q2,r2,hc]; exact i1
     · exact smallR_puts .nil (fun w hw => by cases hw) ⟨by simp,fun w hw => by cases hw⟩ ⟨by omega,fun w hw => by have:=(join_mem H hw).1; omega⟩ (by simp only [List.length_nil]; omega)
   · omega
   · omega
theorem dist_ok {p : Prt} {c : Int} (h : partC bs cs p = some c) (h7 : (p.1 == 7) = true) :
 (0≤p.2.1∧p.2.1.toNat<acc.length) ∧
 xi1d (acc.getD p.2.1.toNat zT).1 (acc.getD p.2.1.toNat zT).2=some (c,rowsT src acc p) ∧
 xs29 (acc.getD p.2.1.toNat zT).2=some (rowsT src acc p)∧smallR (rowsT src acc p):=by
 obtain ⟨k,lf,rt,ts,ps,qs⟩:=p
 have hk7:k=7:=beq_iff_eq.1 h7
 have h4:(k == 4)=false:=by rw [hk7]; rfl
 simp only [rowsT] at *
 rw [h4,h7]
 simp only [cond_true,cond_false]
 rcases partC_kind h with ⟨e1,_⟩ | ⟨n1,hl,hr,hk⟩
 · simp only at e1; omega
 · simp only at n1 hl hr hk
   obtain ⟨q1,q2,q3⟩:=fit_at ha hl.1 hl.2
   have sa:=smallR_good q3
   rcases hk with ⟨e,_⟩ | ⟨e,_⟩ | ⟨e,_⟩ | ⟨e,_⟩ | ⟨_,hc⟩
   · omega
   · omega
   · omega
   · omega
   · have i1 := xi1d_eq (acc.getD lf.toNat zT).1 (acc.getD lf.toNat zT).2 (by have := sa.1; omega) (fun w hw => by have := sa.2 w hw; omega)
     have i2:=xs29_eq (acc.getD lf.toNat zT).2 (by have:=sa.1; omega)
     exact ⟨⟨hl.1,q1⟩,by rw [i1,q2,hc],i2,smallR_good (goodT_distinct q3)⟩
theorem do_ok {p:Prt} {c:Int} (h:partC bs cs p=some c):xi32 p.1 p.2.1 p.2.2.1 p.2.2.2.1 p.2.2.2.2.1 p.2.2.2.2.2 src acc=some (c,rowsT src acc p)∧smallR (rowsT src acc p):=by
 cases h4:p.1 == 4 with
 | true =>
   obtain ⟨⟨a1,a2,a3,a4⟩,a5,_,a7⟩:=join_ok hs ha h h4
   exact ⟨xi32.eq _ _ _ _ _ _ _ _ (by simp only [xi32.t,h4,dec_t a1,dec_t a2,dec_t a3,dec_t a4,cond_true,a5,Option.bind_some]),a7⟩
 | false =>
   cases h7:p.1 == 7 with
   | true =>
     obtain ⟨⟨a1,a2⟩,a5,_,a7⟩:=dist_ok hs ha h h7
     exact ⟨xi32.eq _ _ _ _ _ _ _ _ (by simp only [xi32.t,h4,h7,dec_t a1,dec_t a2,cond_true,cond_false,a5,Option.bind_some]),a7⟩
   | false =>
     obtain ⟨a5,_,a7⟩:=linear_ok hs ha h h4 h7
     exact ⟨xi32.eq _ _ _ _ _ _ _ _ (by simp only [xi32.t,h4,h7,cond_false,a5,Option.bind_some]),a7⟩
end
/-- All parts run. -/
def runF (src : List Tab) : List Prt → List Int → List Tab → Option (List Tab)
 | [],_,acc => some acc
 | p::r,cs,acc => bif goodT (cs.getD acc.length 0) (rowsT src acc p) then runF src r cs (acc ++ [(cs.getD acc.length 0,rowsT src acc p)]) else none
def outR (o:Option (List Tab)):List Tab × Bool:=match o with | some l => (l,true) | none => ([],false)
theorem fit_push {cs:List Int} {acc:List Tab} {i:Nat} (hi:i<cs.length) (h:fitT (cs.take i) acc) {rows:List WRow} (hg:goodT (cs.getD i 0) rows=true):fitT (cs.take (i+1)) (acc ++ [(cs.getD i 0,rows)]):=by
 obtain ⟨h1,h2⟩:=h
 rw [List.length_take] at h1 h2
 have hal:acc.length=i:=by omega
 refine ⟨by rw [List.length_append,List.length_singleton,List.length_take]; omega,fun j hj => ?_⟩
 rw [List.length_take] at hj
 have e:(cs.take (i+1)).getD j 0=cs.getD j 0:=by rw [getD_of_lt (by rw [List.length_take]; omega),List.getElem_take,getD_of_lt (by omega)]
 rw [e]
 by_cases c:j<i
 · have e2 : (acc ++ [(cs.getD i 0, rows)]).getD j zT = acc.getD j zT := by rw [getD_of_lt (by rw [List.length_append]; omega), List.getElem_append_left (by omega), getD_of_lt (by omega)]
   have e3:(cs.take i).getD j 0=cs.getD j 0:=by rw [getD_of_lt (by rw [List.length_take]; omega),List.getElem_take,getD_of_lt (by omega)]
   have:=h2 j (by omega)
   rw [e3] at this
   rw [e2]; exact this
 · have : j = i := by omega
   subst this
   have e2:(acc ++ [(cs.getD j 0,rows)]).getD j zT=(cs.getD j 0,rows):=by
    have:=getD_mid acc [] (cs.getD j 0,rows) zT
    rw [hal] at this
    exact this
   rw [e2]
   exact ⟨rfl,hg⟩
section
variable {bs cs:List Int} {src:List Tab} {parts:List Prt} (hs:fitT bs src) (hch:chkF bs parts []=some cs) (hn:parts.length≤12)
include hs hch hn
theorem part_at {i:Nat} (hi:i<parts.length):cs.length=parts.length∧partC bs (cs.take i) (parts.getD i zP)=some (cs.getD i 0):=by
 obtain ⟨c1,_,c3⟩:=chkF_at parts [] cs hch
 simp only [List.length_nil,Nat.zero_add] at c1 c3
 exact ⟨c1,c3 i hi⟩
theorem impl_run_loop : ∀ (n i : Nat) (acc : List Tab), i + n = parts.length → fitT (cs.take i) acc → xi3o.l6 src acc parts (parts.length : Int) (i : Int) = some (outR (runF src (parts.drop i) cs acc))
 | 0,i,acc,hi,hf => by
   have e:i=parts.length:=by omega
   subst e
   rw [List.drop_length]
   exact xi3o.eq6 _ _ _ _ _ (by simp only [xi3o.t6,ix_lt,Nat.lt_irrefl,decide_false,cond_false,runF,outR])
 | n+1,i,acc,hi,hf => by
   have g:i<parts.length:=by omega
   obtain ⟨c1,hp⟩:=part_at hs hch hn g
   have hal:acc.length=i:=by rw [hf.1,List.length_take]; omega
   obtain ⟨e1,e2⟩:=do_ok hs hf hp
   have e3:=xi2c_eq (c:=cs.getD i 0) (l:=rowsT src acc (parts.getD i zP)) (by have:=e2.1; omega) (fun w hw => by have:=e2.2 w hw; omega)
   have h2:∀ y:Tab,acc.length+[y].length≤4294967296:=fun y => by rw [List.length_singleton]; omega
   rw [drop_getD zP g,runF,hal]
   refine xi3o.eq6 _ _ _ _ _ ?_
   have e1':xi32 (parts.getD i ((0:Int),(0:Int),(0:Int),[],[],[])).1 (parts.getD i ((0:Int),(0:Int),(0:Int),[],[],[])).2.1 (parts.getD i ((0:Int),(0:Int),(0:Int),[],[],[])).2.2.1 (parts.getD i ((0:Int),(0:Int),(0:Int),[],[],[])).2.2.2.1 (parts.getD i ((0:Int),(0:Int),(0:Int),[],[],[])).2.2.2.2.1 (parts.getD i ((0:Int),(0:Int),(0:Int),[],[],[])).2.2.2.2.2 src acc=some (cs.getD i 0,rowsT src acc (parts.getD i zP)):=e1
   simp only [xi3o.t6,ix_lt,ix_nn,ix_nat,dec_t g,cond_true,e1',e3,Option.bind_some,dec_t (h2 _),wrap_succ (show i<9223372036854775807 by omega)]
   cases hg:goodT (cs.getD i 0) (rowsT src acc (parts.getD i zP)) with
   | false => rfl
   | true => exact impl_run_loop n (i+1) _ (by omega) (fit_push (by omega) hf hg)
theorem spec_all_loop : ∀ (n i : Nat) (acc : List Tab), i + n = parts.length → fitT (cs.take i) acc → xs4g.l4 src cs acc parts (parts.length : Int) (i : Int) = some (outR (runF src (parts.drop i) cs acc))
 | 0,i,acc,hi,hf => by
   have e:i=parts.length:=by omega
   subst e
   rw [List.drop_length]
   exact xs4g.eq4 _ _ _ _ _ _ (by simp only [xs4g.t4,ix_lt,Nat.lt_irrefl,decide_false,cond_false,runF,outR])
 | n+1,i,acc,hi,hf => by
   have g:i<parts.length:=by omega
   obtain ⟨c1,hp⟩:=part_at hs hch hn g
   have gc:i<cs.length:=by omega
   have hal:acc.length=i:=by rw [hf.1,List.length_take]; omega
   obtain ⟨_,e2⟩:=do_ok hs hf hp
   have e3:=xs47_eq (cs.getD i 0) (rowsT src acc (parts.getD i zP)) (by have:=e2.1; omega) (fun w hw => by have:=e2.2 w hw; omega)
   have h2:∀ y:Tab,acc.length+[y].length≤4294967296:=fun y => by rw [List.length_singleton]; omega
   have next:∀ b,(bif goodT (cs.getD i 0) (rowsT src acc (parts.getD i zP)) then xs4g.l4 src cs (acc ++ [(cs.getD i 0,rowsT src acc (parts.getD i zP))]) parts (parts.length:Int) ((i+1:Nat):Int) else some ([],false))=some b→xs4g.l4 src cs acc parts (parts.length:Int) (i:Int)=some b:=by
     intro b hb
     refine xs4g.eq4 _ _ _ _ _ _ ?_
     have hx:parts.getD i ((0:Int),(0:Int),(0:Int),[],[],[])=parts.getD i zP:=rfl
     simp only [xs4g.t4,ix_lt,ix_nn,ix_nat,dec_t g,dec_t gc,cond_true,hx,wrap_succ (show i<9223372036854775807 by omega)]
     generalize parts.getD i zP=p at hp e3 hb
     cases h4:p.1 == 4 with
     | true =>
       obtain ⟨⟨a1,a2,a3,a4⟩,_,a6,_⟩:=join_ok hs hf hp h4
       have a6':xs48 (acc.getD p.2.1.toNat ((0:Int),[])).2 (acc.getD p.2.2.1.toNat ((0:Int),[])).2 p.2.2.2.2.2=some (rowsT src acc p):=a6
       simp only [dec_t a1,dec_t a2,dec_t a3,dec_t a4,cond_true,a6',Option.bind_some,e3]
       cases hg:goodT (cs.getD i 0) (rowsT src acc p) with
       | false => rw [hg] at hb; exact hb
       | true => rw [hg] at hb; simp only [bang_t,cond_true,cond_false,dec_t (h2 _)] at hb ⊢; exact hb
     | false =>
       simp only [cond_false]
       cases h7:p.1 == 7 with
       | true =>
         obtain ⟨⟨a1,a2⟩,_,a6,_⟩:=dist_ok hs hf hp h7
         have a6':xs29 (acc.getD p.2.1.toNat ((0:Int),[])).2=some (rowsT src acc p):=a6
         simp only [dec_t a1,dec_t a2,cond_true,a6',Option.bind_some,e3]
         cases hg:goodT (cs.getD i 0) (rowsT src acc p) with
         | false => rw [hg] at hb; exact hb
         | true => rw [hg] at hb; simp only [bang_t,cond_true,cond_false,dec_t (h2 _)] at hb ⊢; exact hb
       | false =>
         obtain ⟨_,a6,_⟩:=linear_ok hs hf hp h4 h7
         simp only [cond_false,a6,Option.bind_some,e3]
         cases hg:goodT (cs.getD i 0) (rowsT src acc p) with
         | false => rw [hg] at hb; exact hb
         | true => rw [hg] at hb; simp only [bang_t,cond_true,cond_false,dec_t (h2 _)] at hb ⊢; exact hb
   refine next _ ?_
   rw [drop_getD zP g,runF,hal]
   cases hg:goodT (cs.getD i 0) (rowsT src acc (parts.getD i zP)) with
   | false => rfl
   | true => exact spec_all_loop n (i+1) _ (by omega) (fit_push gc hf hg)
end
theorem fit_nil (cs:List Int):fitT (cs.take 0) []:=⟨by simp,fun j hj => by simp at hj⟩
/-- Whether tables are as a view's sources. -/
def tabsB (bs:List Int) (ts:List Tab) (i:Nat):Bool:=goodT (ts.getD i zT).1 (ts.getD i zT).2 && ((ts.getD i zT).1 == bs.getD i 0)
def fitB (bs:List Int) (ts:List Tab):Bool:=((ts.length:Int) == (bs.length:Int)) && allR (tabsB bs ts) 0 ts.length
theorem fitB_fit {bs:List Int} {ts:List Tab} (h:fitB bs ts=true):fitT bs ts:=by
 simp only [fitB,Bool.and_eq_true,beq_iff_eq] at h
 obtain ⟨h1,h2⟩:=h
 have h1:ts.length=bs.length:=by omega
 refine ⟨h1,fun j hj => ?_⟩
 have:=allR_iff.1 h2 j (Nat.zero_le _) (by omega)
 simp only [tabsB,Bool.and_eq_true,beq_iff_eq] at this
 rw [← this.2]
 exact ⟨rfl,this.1⟩
end GoV

/- Views run: the checks ahead of it, and both answers. -/
namespace GoV
open Go
abbrev tabTy:Ty:=.pair (.int .i64) (.sl (.pair (.sl (.int .i64)) (.int .i64)))
def smlT (t:Tab):Prop:=t.2.length≤1048576∧∀ w,w∈t.2→w.1.length≤1048576
theorem tabs_len {l:List Tab} {n:Nat} (h:szT (.sl tabTy) l≤n) (hn:n≤1048576):l.length≤n∧∀ t,t∈l→smlT t:=by
 have h1:=szT_len (t:=tabTy) (l:=l)
 refine ⟨by omega,fun t ht => ?_⟩
 have h2:=szT_mem (t:=tabTy) ht
 obtain ⟨h3, h4⟩ := tab_len (c := t.1) (l := t.2) (n := n) (by have : szT tabTy t ≤ n := by omega
                                                               exact this)
 exact ⟨by omega,fun w hw => by have:=h4 w hw; omega⟩
section
variable {bs:List Int} {ts:List Tab} {parts:List Prt} (hl:ts.length≤1048576) (hb:bs.length≤1048576) (hr:∀ t,t∈ts→smlT t)
include hl hb hr
theorem spec_tables_eq:xs30 bs parts ts=some (fitB bs ts):=by
 refine xs30.eq _ _ _ ?_
 simp only [xs30.t,fitB,bne]
 cases hlen:((ts.length:Int) == (bs.length:Int)) with
 | false => rfl
 | true =>
   simp only [Bool.not_true,cond_false,Bool.true_and]
   have hlen:ts.length=bs.length:=by have:=beq_iff_eq.1 hlen; omega
   have key:∀ i,i≤ts.length→xs30.l4 bs parts ts (ts.length:Int) (i:Int)=some (allR (tabsB bs ts) i ts.length):=by
    refine upto ?_ ?_
    · rw [allR_end]
      exact xs30.eq4 _ _ _ _ _ (by simp only [xs30.t4,ix_lt,Nat.lt_irrefl,decide_false,cond_false])
    · intro i hi ih
      rw [allR_step _ hi]
      have hm:=hr _ (getD_mem zT hi)
      have e:=xs2h_eq (c:=(ts.getD i ((0:Int),[])).1) (l:=(ts.getD i ((0:Int),[])).2) (Nat.le_trans hm.1 (by omega)) (fun w hw => Nat.le_trans (hm.2 w hw) (by omega))
      have g2:i<bs.length:=by omega
      refine xs30.eq4 _ _ _ _ _ ?_
      simp only [xs30.t4,ix_lt,ix_nn,ix_nat,dec_t hi,dec_t g2,cond_true,e,Option.bind_some,tabsB,bne,wrap_succ (show i<9223372036854775807 by omega)]
      cases goodT (ts.getD i ((0:Int),[])).1 (ts.getD i ((0:Int),[])).2 with
      | false => rfl
      | true =>
        cases ((ts.getD i ((0:Int),[])).1 == bs.getD i 0) with
        | false => rfl
        | true => exact ih
   exact key 0 (Nat.zero_le _)
theorem impl_fitTo_eq:xi22 bs parts ts=some (fitB bs ts):=by
 refine xi22.eq _ _ _ ?_
 simp only [xi22.t,fitB,bne]
 cases hlen:((ts.length:Int) == (bs.length:Int)) with
 | false => rfl
 | true =>
   simp only [Bool.not_true,cond_false,Bool.true_and]
   have hlen:ts.length=bs.length:=by have:=beq_iff_eq.1 hlen; omega
   have key:∀ i,i≤ts.length→xi22.l4 bs parts ts (ts.length:Int) (i:Int)=some (allR (tabsB bs ts) i ts.length):=by
    refine upto ?_ ?_
    · rw [allR_end]
      exact xi22.eq4 _ _ _ _ _ (by simp only [xi22.t4,ix_lt,Nat.lt_irrefl,decide_false,cond_false])
    · intro i hi ih
      rw [allR_step _ hi]
      have hm:=hr _ (getD_mem zT hi)
      have e:=xi2c_eq (c:=(ts.getD i ((0:Int),[])).1) (l:=(ts.getD i ((0:Int),[])).2) (Nat.le_trans hm.1 (by omega)) (fun w hw => Nat.le_trans (hm.2 w hw) (by omega))
      have g2:i<bs.length:=by omega
      refine xi22.eq4 _ _ _ _ _ ?_
      simp only [xi22.t4,ix_lt,ix_nn,ix_nat,dec_t hi,dec_t g2,cond_true,e,Option.bind_some,tabsB,bne,wrap_succ (show i<9223372036854775807 by omega)]
      cases goodT (ts.getD i ((0:Int),[])).1 (ts.getD i ((0:Int),[])).2 with
      | false => rfl
      | true =>
        cases ((ts.getD i ((0:Int),[])).1 == bs.getD i 0) with
        | false => rfl
        | true => exact ih
   exact key 0 (Nat.zero_le _)
end
/-- What a run of all parts answers. -/
def allT (bs:List Int) (parts:List Prt) (ts:List Tab):Option (List Tab) :=
 match checkV bs parts with
 | some cs => bif fitB bs ts then runF ts parts cs [] else none
 | none => none
theorem runF_fit {cs : List Int} {src : List Tab} : ∀ (r : List Prt) (acc l : List Tab), acc.length + r.length = cs.length → fitT (cs.take acc.length) acc → runF src r cs acc = some l → fitT cs l
 | [],acc,l,hl,hf,h => by
   rw [runF] at h
   rw [← Option.some.inj h]
   rw [show acc.length=cs.length by simpa using hl,List.take_length] at hf
   exact hf
 | p::r,acc,l,hl,hf,h => by
   rw [runF] at h
   rw [List.length_cons] at hl
   cases hg:goodT (cs.getD acc.length 0) (rowsT src acc p) with
   | false => rw [hg] at h; cases h
   | true =>
     rw [hg,cond_true] at h
     refine runF_fit r _ l (by rw [List.length_append,List.length_singleton]; omega) ?_ h
     rw [List.length_append,List.length_singleton]
     exact fit_push (by omega) hf hg
theorem allT_fit {bs:List Int} {parts:List Prt} {ts l:List Tab} (h:allT bs parts ts=some l):∃ cs,checkV bs parts=some cs∧fitB bs ts=true∧runF ts parts cs []=some l∧cs.length=parts.length∧fitT cs l:=by
 unfold allT at h
 cases hc:checkV bs parts with
 | none => rw [hc] at h; cases h
 | some cs =>
   rw [hc] at h
   simp only at h
   cases hf:fitB bs ts with
   | false => rw [hf] at h; cases h
   | true =>
     rw [hf,cond_true] at h
     obtain ⟨c1,_⟩:=chkF_at parts [] cs (checkV_some hc).2
     simp only [List.length_nil,Nat.zero_add] at c1
     exact ⟨cs,rfl,rfl,h,c1,runF_fit parts [] l (by simp only [List.length_nil]; omega) (fit_nil cs) h⟩
section
variable {bs:List Int} {ts:List Tab} {parts:List Prt} (hl:ts.length≤1048576) (hb:bs.length≤1048576) (hr:∀ t,t∈ts→smlT t) (hp:∀ p,p∈parts→prtOK p)
include hl hb hr hp
theorem spec_runAll_eq:xs44 bs parts ts=some (outR (allT bs parts ts)):=by
 have e1:=spec_check_eq (bs:=bs) (parts:=parts) (by omega) hp
 have e2:=spec_tables_eq (parts:=parts) hl hb hr
 refine xs44.eq _ _ _ ?_
 unfold allT
 cases hc:checkV bs parts with
 | none => rw [hc] at e1; simp only [xs44.t,e1,outC,Option.bind_some,bang_f,cond_true,outR]
 | some cs =>
   rw [hc] at e1
   cases hf:fitB bs ts with
   | false => simp only [xs44.t,e1,e2,hf,outC,Option.bind_some,bang_f,bang_t,cond_true,cond_false,outR]
   | true =>
     obtain ⟨⟨_,_,n1,n2⟩,hch⟩:=checkV_some hc
     have k:=spec_all_loop (fitB_fit hf) hch (by omega) parts.length 0 [] (by omega) (fit_nil cs)
     rw [List.drop_zero] at k
     have e3:=xs4g.eq bs parts ts (b:=outR (runF ts parts cs [])) (by simp only [xs4g.t,e1,outC,Option.bind_some]; exact k)
     simp only [xs44.t,e1,e2,e3,hf,outC,Option.bind_some,bang_t,cond_true,cond_false]
theorem impl_runAll_eq:xi3o bs parts ts=some (outR (allT bs parts ts)):=by
 have e1:=impl_check_eq (bs:=bs) (parts:=parts) (by omega) hp
 have e2:=impl_fitTo_eq (parts:=parts) hl hb hr
 refine xi3o.eq _ _ _ ?_
 unfold allT
 cases hc:checkV bs parts with
 | none => rw [hc] at e1; simp only [xi3o.t,e1,outC,Option.bind_some,bang_f,cond_true,outR]
 | some cs =>
   rw [hc] at e1
   cases hf:fitB bs ts with
   | false => simp only [xi3o.t,e1,e2,hf,outC,Option.bind_some,bang_f,bang_t,cond_true,cond_false,outR]
   | true =>
     obtain ⟨⟨_,_,n1,n2⟩,hch⟩:=checkV_some hc
     have k:=impl_run_loop (fitB_fit hf) hch (by omega) parts.length 0 [] (by omega) (fit_nil cs)
     rw [List.drop_zero] at k
     simp only [xi3o.t,e1,e2,hf,outC,Option.bind_some,bang_t,cond_true,cond_false]
     exact k
end
end GoV

/- RunView: the program's answer is the specification's. -/
namespace GoV
open Go
theorem FnExactRunView_same (v0 : List Int) (v1 : List (Int × Int × Int × List (Int × Int × Int) × List Int × List (List Int))) (v2 : List (Int × List (List Int × Int)))
 (w0:WfT (.pair (.sl (.int .i64)) (.sl prtTy)) (v0,v1)) (hz0:szT (.pair (.sl (.int .i64)) (.sl prtTy)) (v0,v1)≤1048576)
 (w1:WfT (.sl tabTy) v2) (hz1:szT (.sl tabTy) v2≤1048576) :
 ∃ (a:Int) (b:List (List Int × Int)) (ok:Bool),xs3k v0 v1 v2=some (a,b,ok)∧xi34 v0 v1 v2=some (a,b,ok)∧szT (.pair (.int .i64) (.sl (.pair (.sl (.int .i64)) (.int .i64)))) (a,b)≤1073741824:=by
 have hz:szT (.sl (.int .i64)) v0+szT (.sl prtTy) v1≤1048576:=hz0
 have z1:=szT_len (t:=.int .i64) (l:=v0)
 have z3:∀ p,p∈v1→szT prtTy p≤1048576:=fun p h => by have:=szT_mem (t:=prtTy) h; omega
 have z4:∀ p,p∈v1→bndP p:=fun p h => prt_bnd (z3 p h) (by omega)
 have z5:∀ p,p∈v1→prtOK p:=fun p h => ⟨(z4 p h).1,(z4 p h).2.1,(z4 p h).2.2.1⟩
 obtain ⟨t1,t2⟩:=tabs_len hz1 (Nat.le_refl _)
 have e1:=spec_runAll_eq t1 (show v0.length≤1048576 by omega) t2 z5
 have e2:=impl_runAll_eq t1 (show v0.length≤1048576 by omega) t2 z5
 cases h:allT v0 v1 v2 with
 | none =>
   rw [h] at e1 e2
   exact ⟨0,[],false,xs3k.eq _ _ _ (by simp only [xs3k.t,e1,outR,Option.bind_some,bang_f,cond_true]),xi34.eq _ _ _ (by simp only [xi34.t,e2,outR,Option.bind_some,bang_f,cond_true]),by simp [szT]⟩
 | some l =>
   rw [h] at e1 e2
   obtain ⟨cs,h1,_,_,h4,h5⟩:=allT_fit h
   obtain ⟨⟨_,_,n1,n2⟩,_⟩:=checkV_some h1
   have hll:l.length=cs.length:=h5.1
   have hw:IntKind.i64.wrap ((l.length:Int) - 1)=((l.length - 1:Nat):Int):=by rw [wrap_id (by omega) (by omega)]; omega
   have g:l.length - 1<l.length:=by omega
   refine ⟨(l.getD (l.length - 1) zT).1,(l.getD (l.length - 1) zT).2,true,xs3k.eq _ _ _ (by simp only [xs3k.t,e1,outR,hw,ix_nn,ix_nat,dec_t g,Option.bind_some,bang_t,cond_true,cond_false]),xi34.eq _ _ _ (by simp only [xi34.t,e2,outR,hw,ix_nn,ix_nat,dec_t g,Option.bind_some,bang_t,cond_true,cond_false]), ?_⟩
   have:=goodT_size (h5.2 (l.length - 1) (by omega)).2
   show 0+szT (.sl (.pair (.sl (.int .i64)) (.int .i64))) (l.getD (l.length - 1) zT).2≤_
   omega
end GoV

/- FnExactRunView: the law out of its core. -/
namespace GoV
open Go
theorem FnExactRunView_true (v0:List Int) (v1:List (Int × Int × Int × List (Int × Int × Int) × List Int × List (List Int))) (v2:List (Int × List (List Int × Int))) (w0:WfT (.pair (.sl (.int .i64)) (.sl (.pair (.int .i64) (.pair (.int .i64) (.pair (.int .i64) (.pair (.sl (.pair (.int .i64) (.pair (.int .i64) (.int .i64)))) (.pair (.sl (.int .i64)) (.sl (.sl (.int .i64)))))))))) (v0,v1)) (w1:WfT (.sl (.pair (.int .i64) (.sl (.pair (.sl (.int .i64)) (.int .i64))))) v2):xl1g v0 v1 v2=some true:=by
 obtain ⟨left1,e1,a1,b1z⟩:=xl3z_ok (v0) (v1) ((1048576:Int)) w0 (by omega) (by omega)
 by_cases n1:left1<0
 · exact xl1g.eq v0 v1 v2 (by simp only [xl1g.t,e1,dec_t n1,cond_true,cond_false,Option.bind_some])
 have z1a:=b1z (by omega)
 obtain ⟨left2,e2,a2,b2z⟩:=xl2v_ok (v2) (left1) w1 (by omega) (by omega)
 by_cases n2:left2<0
 · exact xl1g.eq v0 v1 v2 (by simp only [xl1g.t,e1,dec_f n1,e2,dec_t n2,cond_true,cond_false,Option.bind_some])
 have z2a:=b2z (by omega)
 have hz0:szT (.pair (.sl (.int .i64)) (.sl (.pair (.int .i64) (.pair (.int .i64) (.pair (.int .i64) (.pair (.sl (.pair (.int .i64) (.pair (.int .i64) (.int .i64)))) (.pair (.sl (.int .i64)) (.sl (.sl (.int .i64)))))))))) (v0,v1)≤1048576:=by omega
 have hz1:szT (.sl (.pair (.int .i64) (.sl (.pair (.sl (.int .i64)) (.int .i64))))) v2≤1048576:=by omega
 obtain ⟨ga,gb,gc,hspec,himpl,hsm⟩:=FnExactRunView_same v0 v1 v2 w0 hz0 w1 hz1
 -- the answer is small
 have e3:=xl43_id (v0) (v1) (by omega)
 have e4:=xl2w_id (v2) (by omega)
 have e6:=xl43_id (v0) (v1) (by omega)
 have e7:=xl2w_id (v2) (by omega)
 have e9:=xl39_rf (ga) (gb) (by first | omega | (simp only [szT] at *; omega))
 have e10:=xl43_id (v0) (v1) (by omega)
 have e11:=xl3w_rf (v0) (v1) (by first | omega | (simp only [szT] at *; omega))
 have e12:=xl2w_id (v2) (by omega)
 have e13:=xl2t_rf (v2) (by first | omega | (simp only [szT] at *; omega))
 have q14:=cntT_le (T:=(.pair (.sl (.int .i64)) (.sl (.pair (.int .i64) (.pair (.int .i64) (.pair (.int .i64) (.pair (.sl (.pair (.int .i64) (.pair (.int .i64) (.int .i64)))) (.pair (.sl (.int .i64)) (.sl (.sl (.int .i64))))))))))) (v0,v1) rfl
 simp only [Ty.size] at q14
 have e14:=xl1r_ok (v0) (v1) ((1:Int)) (by omega) (by omega) (by omega)
 have p14:=mrT_cnt (.pair (.sl (.int .i64)) (.sl (.pair (.int .i64) (.pair (.int .i64) (.pair (.int .i64) (.pair (.sl (.pair (.int .i64) (.pair (.int .i64) (.int .i64)))) (.pair (.sl (.int .i64)) (.sl (.sl (.int .i64)))))))))) (v0,v1) (1:Int)
 have g14:¬ (mrT (.pair (.sl (.int .i64)) (.sl (.pair (.int .i64) (.pair (.int .i64) (.pair (.int .i64) (.pair (.sl (.pair (.int .i64) (.pair (.int .i64) (.int .i64)))) (.pair (.sl (.int .i64)) (.sl (.sl (.int .i64)))))))))) (v0,v1) (1:Int)).2<0:=by omega
 have q15:=cntT_le (T:=(.sl (.pair (.int .i64) (.sl (.pair (.sl (.int .i64)) (.int .i64)))))) v2 rfl
 simp only [Ty.size] at q15
 have e15:=xl1h_ok (v2) ((mrT (.pair (.sl (.int .i64)) (.sl (.pair (.int .i64) (.pair (.int .i64) (.pair (.int .i64) (.pair (.sl (.pair (.int .i64) (.pair (.int .i64) (.int .i64)))) (.pair (.sl (.int .i64)) (.sl (.sl (.int .i64)))))))))) (v0,v1) (1:Int)).2) (by omega) (by omega) (by omega)
 have p15:=mrL_cnt (t:=(.pair (.int .i64) (.sl (.pair (.sl (.int .i64)) (.int .i64))))) v2 (mrT (.pair (.sl (.int .i64)) (.sl (.pair (.int .i64) (.pair (.int .i64) (.pair (.int .i64) (.pair (.sl (.pair (.int .i64) (.pair (.int .i64) (.int .i64)))) (.pair (.sl (.int .i64)) (.sl (.sl (.int .i64)))))))))) (v0,v1) (1:Int)).2
 have g15:¬ (mrL (mrE (.pair (.int .i64) (.sl (.pair (.sl (.int .i64)) (.int .i64))))) v2 (mrT (.pair (.sl (.int .i64)) (.sl (.pair (.int .i64) (.pair (.int .i64) (.pair (.int .i64) (.pair (.sl (.pair (.int .i64) (.pair (.int .i64) (.int .i64)))) (.pair (.sl (.int .i64)) (.sl (.sl (.int .i64)))))))))) (v0,v1) (1:Int)).2).2<0:=by omega
 have e16:=xl39_rf (ga) (gb) (by first | omega | (simp only [szT] at *; omega))
 have q17:=cntT_le (T:=(.pair (.int .i64) (.sl (.pair (.sl (.int .i64)) (.int .i64))))) (ga,gb) rfl
 simp only [Ty.size] at q17
 have e17:=xl1m_ok (ga) (gb) ((1:Int)) (by omega) (by omega) (by omega)
 have p17:=mrT_cnt (.pair (.int .i64) (.sl (.pair (.sl (.int .i64)) (.int .i64)))) (ga,gb) (1:Int)
 have g17:¬ (mrT (.pair (.int .i64) (.sl (.pair (.sl (.int .i64)) (.int .i64)))) (ga,gb) (1:Int)).2<0:=by omega
 have e18:xl2g (ga) ((mrT (.pair (.int .i64) (.sl (.pair (.sl (.int .i64)) (.int .i64)))) (ga,gb) (1:Int)).1.2) ((1:Int))=some (mrT (.pair (.int .i64) (.sl (.pair (.sl (.int .i64)) (.int .i64)))) (ga,gb) (1:Int)).2:=xl2g_ok (ga) (gb) (1:Int) (by omega) (by omega) (by omega)
 have e19:=xl43_id (v0) (v1) (by omega)
 have e20:=xl2w_id (v2) (by omega)
 have e22:=xl39_rf (ga) (gb) (by first | omega | (simp only [szT] at *; omega))
 have e23:xl2g (ga) ((mrT (.pair (.int .i64) (.sl (.pair (.sl (.int .i64)) (.int .i64)))) (ga,gb) (1:Int)).1.2) ((1:Int))=some (mrT (.pair (.int .i64) (.sl (.pair (.sl (.int .i64)) (.int .i64)))) (ga,gb) (1:Int)).2:=xl2g_ok (ga) (gb) (1:Int) (by omega) (by omega) (by omega)
 refine xl1g.eq v0 v1 v2 ?_
 simp only [xl1g.t,e1,dec_f n1,e2,dec_f n2,e3,e4,e6,e7,e9,e10,e11,e12,e13,e14,dec_f g14,e15,dec_f g15,e16,e17,dec_f g17,e18,e19,e20,e22,e23,hspec,himpl,cond_true,cond_false,Option.bind_some,bne_ref,beq_ref,bang_t]
end GoV
