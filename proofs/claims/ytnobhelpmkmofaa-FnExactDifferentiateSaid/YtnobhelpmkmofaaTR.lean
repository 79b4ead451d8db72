/- A part of the proof of FnExactDifferentiate: an interpreter of the model over plain data, its soundness, and what it makes of the functions that the statement reaches. Conditions: none beyond what the given statement itself says. -/
import Derived.Test.YtnobhelpmkmofaaTQ
set_option linter.unusedVariables false
set_option linter.unusedSimpArgs false
set_option linter.unnecessarySimpa false
set_option linter.unusedSectionVars false
/- The library's stable sort of rows with weights. -/
namespace GoV
open Go
def Rows (d : List WRow) : Prop := ∀ w, w ∈ d → w.1.length ≤ 1073741824
theorem Rows.perm {d d' : List WRow} (h : Rows d) (hp : d'.Perm d) : Rows d' := fun w hw => h w (hp.mem_iff.1 hw)
open Classical in
/-- An answer that counts where the rows are no longer than they were. -/
noncomputable def gd {β : Type} (d : List WRow) (x : Option β) : Option β := if Rows d then x else none
theorem gd_some {β : Type} {d : List WRow} {x : Option β} {r : β} : gd d x = some r ↔ Rows d ∧ x = some r := by
  unfold gd
  split
  · rename_i h; exact ⟨fun e => ⟨h, e⟩, fun e => e.2⟩
  · rename_i h; exact ⟨fun e => (by cases e), fun e => absurd e.1 h⟩
theorem gd_swap {d : List WRow} {i j : Nat} (hi : i < d.length) (hj : j < d.length) (h : Rows (swapL ([], 0) d i j)) : Rows d := h.perm (swapL_perm hi hj).symm
theorem impl_summed_1_eq (a : List Int) (n : Int) (b : List Int) (m : Int) (ha : a.length ≤ 1073741824) (hb : b.length ≤ 1073741824) : impl_summed_1 a n b m = some (cmpL a b) := impl_summed_1.eq _ _ _ _ (by simp only [impl_summed_1.t, impl_compareRows_eq _ _ ha hb, Option.bind_some])
theorem gt_dec (i j : Nat) : decide ((i : Int) > (j : Int)) = decide (j < i) := ix_lt j i
theorem ins_ok {d : List WRow} {a b : Nat} (hb : b ≤ d.length) (hl : d.length ≤ 1073741824) (hr : Rows d) (ha : a ≤ 1073741824) :
    ∃ d', xs03 d (a : Int) (b : Int) = some d' ∧ Mv ([], 0) d d' a b ∧ SortS ([], 0) ltW d' a b := by
  refine Exists.elim (ins_outer (z := (([] : List Int), (0 : Int))) ltW_ord ltW_asym (a := a) (b := b) (N := d.length) hb
    (fun d i => gd d (xs03.l1 d (a : Int) (b : Int) (i : Int)))
    (fun i d j => gd d (xs03.l4 d (a : Int) (b : Int) (i : Int) (j : Int))) (fun d => gd d (some d)) ?_ ?_ ?_ ?_ ?_ _ (a + 1) d rfl (by omega) rfl (.one (by omega))) ?_
  · intro d i r h hx
    obtain ⟨g1, g2⟩ := gd_some.1 hx
    exact gd_some.2 ⟨g1, xs03.eq1 _ _ _ _ (by simp only [xs03.t1, ix_lt, dec_f (show ¬ i < b by omega), cond_false]; exact g2)⟩
  · intro d i r h1 h2 _ hx
    obtain ⟨g1, g2⟩ := gd_some.1 hx
    exact gd_some.2 ⟨g1, xs03.eq1 _ _ _ _ (by simp only [xs03.t1, ix_lt, dec_t h2, cond_true]; exact g2)⟩
  · intro d i r h1 hx
    obtain ⟨g1, g2⟩ := gd_some.1 hx
    exact gd_some.2 ⟨g1, xs03.eq4 _ _ _ _ _ (by simp only [xs03.t4, gt_dec, Nat.lt_irrefl, decide_false, cond_false, wrap_succ (show i < 9223372036854775807 by omega)]; exact g2)⟩
  · intro d1 i j r h1 h2 h3 h4 h5 hx
    obtain ⟨g1, g2⟩ := gd_some.1 hx
    have hj : j < d1.length := by omega
    have hj1 : j - 1 < d1.length := by omega
    have hc : decide (cmpL (d1.getD j ([], 0)).1 (d1.getD (j - 1) ([], 0)).1 < 0) = false := h5
    exact gd_some.2 ⟨g1, xs03.eq4 _ _ _ _ _ (by
      simp only [xs03.t4, gt_dec, dec_t h1, wrap_pred (show 0 < j by omega) (show j < 9223372036854775807 by omega), ix_nn, ix_nat, dec_t hj, dec_t hj1, cond_true, impl_summed_1_eq _ _ _ _ (g1 _ (getD_mem ([], 0) hj)) (g1 _ (getD_mem ([], 0) hj1)), Option.bind_some, hc, cond_false, wrap_succ (show i < 9223372036854775807 by omega)]
      exact g2)⟩
  · intro d1 i j r h1 h2 h3 h4 h5 hx
    obtain ⟨g1, g2⟩ := gd_some.1 hx
    have hj : j < d1.length := by omega
    have hj1 : j - 1 < d1.length := by omega
    have g1 := gd_swap hj hj1 g1
    have hc : decide (cmpL (d1.getD j ([], 0)).1 (d1.getD (j - 1) ([], 0)).1 < 0) = true := h5
    have hs : ∀ x : WRow, decide (j - 1 < (d1.set j x).length) = true := fun x => by rw [List.length_set]; exact dec_t hj1
    exact gd_some.2 ⟨g1, xs03.eq4 _ _ _ _ _ (by
      simp only [xs03.t4, gt_dec, dec_t h1, wrap_pred (show 0 < j by omega) (show j < 9223372036854775807 by omega), ix_nn, ix_nat, dec_t hj, dec_t hj1, cond_true, impl_summed_1_eq _ _ _ _ (g1 _ (getD_mem ([], 0) hj)) (g1 _ (getD_mem ([], 0) hj1)), Option.bind_some, hc, hs]
      exact g2)⟩
  · rintro d' ⟨h1, h2, h3⟩
    refine ⟨d', ?_, h1, h2⟩
    have := (gd_some.1 (h3 d' (gd_some.2 ⟨hr.perm h1.perm, rfl⟩))).2
    exact xs03.eq _ _ _ (by simp only [xs03.t, wrap_succ (show a < 9223372036854775807 by omega)]; exact this)
theorem w_add {i j : Nat} (h : i + j < 4611686018427387904) : IntKind.i64.wrap ((i : Int) + (j : Int)) = ((i + j : Nat) : Int) := by rw [wrap_id] <;> omega
theorem w_sub {i j : Nat} (h : j ≤ i) (h2 : i < 4611686018427387904) : IntKind.i64.wrap ((i : Int) - (j : Int)) = ((i - j : Nat) : Int) := by rw [wrap_id] <;> omega
theorem swapRange_ok {d : List WRow} {a b n : Nat} (h2 : b + n ≤ d.length) (h3 : a + n ≤ d.length) (hl : d.length ≤ 1073741824) :
    xs05 d (a : Int) (b : Int) (n : Int) = some (swapR ([], 0) n d a b) := by
  refine xs05.eq _ _ _ _ ?_
  simp only [xs05.t]
  refine swap_loop (z := (([] : List Int), (0 : Int))) (n := n) (a := a) (b := b) (N := d.length) (fun d i => xs05.l1 d (a : Int) (b : Int) (n : Int) (i : Int)) some ?_ ?_ n 0 d rfl rfl (Nat.zero_le _) _ rfl
  · intro d1 r _ hx
    exact xs05.eq1 _ _ _ _ _ (by simp only [xs05.t1, ix_lt, Nat.lt_irrefl, decide_false, cond_false]; exact hx)
  · intro d1 i r hi hd hx
    have ha : a + i < d1.length := by omega
    have hb : b + i < d1.length := by omega
    have hs : ∀ x : WRow, decide (b + i < (d1.set (a + i) x).length) = true := fun x => by rw [List.length_set]; exact dec_t hb
    exact xs05.eq1 _ _ _ _ _ (by
      simp only [xs05.t1, ix_lt, dec_t hi, cond_true, w_add (show a + i < 4611686018427387904 by omega), w_add (show b + i < 4611686018427387904 by omega), ix_nn, ix_nat, dec_t ha, dec_t hb, hs, wrap_succ (show i < 9223372036854775807 by omega)]
      exact hx)
theorem rotate_ok {d : List WRow} {a m b : Nat} (ha : a < m) (hb : m < b) (hbl : b ≤ d.length) (hl : d.length ≤ 1073741824) :
    ∃ d', xs08 d (a : Int) (m : Int) (b : Int) = some d' ∧ Mv ([], 0) d d' a b ∧ RotF (fun k => d.getD k ([], 0)) (fun k => d'.getD k ([], 0)) a m b := by
  refine Exists.elim (rot_loop (z := (([] : List Int), (0 : Int))) (m := m) (N := d.length) (fun d i j => xs08.l2 d (m : Int) (i : Int) (j : Int)) some ?_ ?_ ?_ _ (m - a) (b - m) d rfl (by omega) (by omega) (by omega) (by omega) rfl) ?_
  · intro d1 i r h1 h2 h3 h4 hx
    refine xs08.eq2 _ _ _ _ ?_
    have e := swapRange_ok (d := d1) (a := m - i) (b := m) (n := i) (by omega) (by omega) (by omega)
    simp only [xs08.t2, bne_ref, cond_false, w_sub (show i ≤ m by omega) (show m < 4611686018427387904 by omega), e, Option.bind_some]
    exact hx
  · intro d1 i j r h1 h2 h3 h4 h5 hx
    refine xs08.eq2 _ _ _ _ ?_
    have e := swapRange_ok (d := d1) (a := m - i) (b := m) (n := j) (by omega) (by omega) (by omega)
    simp only [xs08.t2, bneI, dec_f (show ¬ i = j by omega), bang_f, cond_true, gt_dec, dec_t h1, w_sub (show i ≤ m by omega) (show m < 4611686018427387904 by omega), e, Option.bind_some, w_sub (show j ≤ i by omega) (show i < 4611686018427387904 by omega)]
    exact hx
  · intro d1 i j r h1 h2 h3 h4 h5 hx
    refine xs08.eq2 _ _ _ _ ?_
    have e := swapRange_ok (d := d1) (a := m - i) (b := m + j - i) (n := i) (by omega) (by omega) (by omega)
    simp only [xs08.t2, bneI, dec_f (show ¬ i = j by omega), bang_f, cond_true, cond_false, gt_dec, dec_f (show ¬ j < i by omega), w_sub (show i ≤ m by omega) (show m < 4611686018427387904 by omega), w_add (show m + j < 4611686018427387904 by omega), w_sub (show i ≤ m + j by omega) (show m + j < 4611686018427387904 by omega), e, Option.bind_some, w_sub (show i ≤ j by omega) (show j < 4611686018427387904 by omega)]
    exact hx
  · rintro d' ⟨h1, h2, h3⟩
    rw [show m - (m - a) = a by omega, show m + (b - m) = b by omega] at h1 h2
    refine ⟨d', xs08.eq _ _ _ _ ?_, h1, h2⟩
    simp only [xs08.t, w_sub (show a ≤ m by omega) (show m < 4611686018427387904 by omega), w_sub (show m ≤ b by omega) (show b < 4611686018427387904 by omega)]
    exact h3 d' rfl
end GoV

/- The weight of a row: by binary search, and one by one. -/
namespace GoV
open Go
def weightP (l : List WRow) (r : List Int) : Int := match l.find? (fun w => cmpL w.1 r == 0) with | some w => w.2 | none => 0
/-- The middle of two numbers, as Go reckons it. -/
theorem mid_nat (i j : Nat) (h : i + j < 4611686018427387904) : IntKind.i64.wrap ((IntKind.u64.wrap (IntKind.i64.wrap ((i : Int) + (j : Int)))).fdiv ((2 : Int) ^ Min.min (Int.toNat (1 : Int)) IntKind.u64.bits)) = (((i + j) / 2 : Nat) : Int) := by
  have e1 : IntKind.i64.wrap ((i : Int) + (j : Int)) = ((i + j : Nat) : Int) := by rw [wrap_id] <;> omega
  have e2 : IntKind.u64.wrap ((i + j : Nat) : Int) = ((i + j : Nat) : Int) := by
    have : IntKind.u64.wrap ((i + j : Nat) : Int) = ((i + j : Nat) : Int) % 18446744073709551616 := by simp [IntKind.wrap, IntKind.bits, IntKind.signed]
    rw [this]
    omega
  have e3 : Min.min (Int.toNat (1 : Int)) IntKind.u64.bits = 1 := rfl
  rw [e1, e2, e3, Int.pow_one, Int.fdiv_eq_ediv_of_nonneg _ (by omega)]
  rw [wrap_id] <;> omega
section
variable {l : List WRow} {r : List Int} (hl : l.length ≤ 1073741824) (hr : ∀ w, w ∈ l → w.1.length ≤ 1073741824) (hx : r.length ≤ 1073741824) (hs : sortedW l)
include hl hr hx hs
end
end GoV

/- The library's stable sort of rows with weights: merging in place, and all of it. -/
namespace GoV
open Go
theorem RotF.none {f : Nat → WRow} {s m t : Nat} (h : s = m ∨ t = m) (h1 : s ≤ m) (h2 : m ≤ t) : RotF f f s m t := by
  intro k
  by_cases c1 : s ≤ k ∧ k < s + (t - m)
  · rw [if_pos c1]; congr 1; omega
  · rw [if_neg c1]
    by_cases c2 : s + (t - m) ≤ k ∧ k < t
    · rw [if_pos c2]; congr 1; omega
    · rw [if_neg c2]
theorem one_eq (i j : Nat) (h : j ≤ i) (h2 : i < 4611686018427387904) : (IntKind.i64.wrap ((i : Int) - (j : Int)) == (1 : Int)) = decide (i - j = 1) := by
  rw [w_sub h h2]
  by_cases e : i - j = 1
  · rw [e]; rfl
  · rw [dec_f e]
    exact beq_eq_false_iff_ne.2 (by omega)
abbrev zW : WRow := ([], 0)
/-- One element alone to the left. -/
theorem sym_left {d : List WRow} {a b : Nat} (hab : a + 1 < b) (hb : b ≤ d.length) (hl : d.length ≤ 1073741824) (hr : Rows d) (hs : SortS zW ltW d (a + 1) b) :
    ∃ d', xs07 d (a : Int) ((a + 1 : Nat) : Int) (b : Int) = some d' ∧ Mv zW d d' a b ∧ SortS zW ltW d' a b := by
  have hmono : ∀ h k, a + 1 ≤ k → k ≤ h → h < b → ltW (d.getD h zW) (d.getD a zW) = true → ltW (d.getD k zW) (d.getD a zW) = true := by
    intro h k h1 h2 h3 h4
    cases e : ltW (d.getD k zW) (d.getD a zW) with
    | true => rfl
    | false =>
      have := ltW_ord.tr _ _ _ e (hs.le ltW_ord h1 h2 h3)
      rw [this] at h4; cases h4
  refine Exists.elim (bs_loop (p := fun h => ltW (d.getD h zW) (d.getD a zW)) (lo := a + 1) (hi := b) hmono (fun i j => xs07.l3 d (a : Int) (i : Int) (j : Int)) (fun q => xs07.l9 d (q : Int) (a : Int)) ?_ ?_ ?_ _ (a + 1) b rfl (Nat.le_refl _) (by omega) (Nat.le_refl _) (fun k h1 h2 => by omega) (fun k h1 h2 => by omega)) ?_
  · intro i r h1 h2 hx
    exact xs07.eq3 _ _ _ _ (by simp only [xs07.t3, ix_lt, Nat.lt_irrefl, decide_false, cond_false]; exact hx)
  · intro i j r h1 h2 h3 h4 hx
    have hm := mid_nat i j (by omega)
    have hh : (i + j) / 2 < d.length := by omega
    have hal : a < d.length := by omega
    have hc : decide (cmpL (d.getD ((i + j) / 2) ([], 0)).1 (d.getD a ([], 0)).1 < 0) = true := h4
    refine xs07.eq3 _ _ _ _ ?_
    simp only [xs07.t3, ix_lt, dec_t h1, cond_true, hm, ix_nn, ix_nat, dec_t hh, dec_t hal, impl_summed_1_eq _ _ _ _ (hr _ (getD_mem ([], 0) hh)) (hr _ (getD_mem ([], 0) hal)), Option.bind_some, hc, wrap_succ (show (i + j) / 2 < 9223372036854775807 by omega)]
    exact hx
  · intro i j r h1 h2 h3 h4 hx
    have hm := mid_nat i j (by omega)
    have hh : (i + j) / 2 < d.length := by omega
    have hal : a < d.length := by omega
    have hc : decide (cmpL (d.getD ((i + j) / 2) ([], 0)).1 (d.getD a ([], 0)).1 < 0) = false := h4
    refine xs07.eq3 _ _ _ _ ?_
    simp only [xs07.t3, ix_lt, dec_t h1, cond_true, hm, ix_nn, ix_nat, dec_t hh, dec_t hal, impl_summed_1_eq _ _ _ _ (hr _ (getD_mem ([], 0) hh)) (hr _ (getD_mem ([], 0) hal)), Option.bind_some, hc, cond_false]
    exact hx
  · rintro q ⟨q1, q2, q3, q4, q5⟩
    refine Exists.elim (up_loop (z := zW) (e := q - 1) (N := d.length) (by omega) (fun d k => xs07.l9 d (q : Int) (k : Int)) some ?_ ?_ _ a d rfl (by omega) rfl) ?_
    · intro d1 r _ hx
      refine xs07.eq9 _ _ _ ?_
      simp only [xs07.t9, wrap_pred (show 0 < q by omega) (show q < 9223372036854775807 by omega), ix_lt, Nat.lt_irrefl, decide_false, cond_false]
      exact hx
    · intro d1 k r h1 h2 hx
      have hk : k < d1.length := by omega
      have hk1 : k + 1 < d1.length := by omega
      have hset : ∀ x : WRow, decide (k + 1 < (d1.set k x).length) = true := fun x => by rw [List.length_set]; exact dec_t hk1
      refine xs07.eq9 _ _ _ ?_
      simp only [xs07.t9, wrap_pred (show 0 < q by omega) (show q < 9223372036854775807 by omega), ix_lt, dec_t h1, cond_true, wrap_succ (show k < 9223372036854775807 by omega), ix_nn, ix_nat, dec_t hk, dec_t hk1, hset]
      exact hx
    · rintro d' ⟨k1, k2, k3⟩
      refine ⟨d', xs07.eq _ _ _ _ ?_, k1.mono (Nat.le_refl _) (by omega), ?_⟩
      · simp only [xs07.t, one_eq _ _ (show a ≤ a + 1 by omega) (show a + 1 < 4611686018427387904 by omega), dec_t (show a + 1 - a = 1 by omega), cond_true]
        exact q5 _ (k3 d' rfl)
      · refine sort_up (i := q) ltW_asym hs (by omega) q2 (fun k h1 h2 => q3 k (by omega) h2) (fun k h1 h2 => q4 k h1 h2) ?_
        intro k
        exact k2 k
/-- One element alone to the right. -/
theorem sym_right {d : List WRow} {a m : Nat} (ham : a + 1 < m) (hb : m + 1 ≤ d.length) (hl : d.length ≤ 1073741824) (hr : Rows d) (hs : SortS zW ltW d a m) :
    ∃ d', xs07 d (a : Int) (m : Int) ((m + 1 : Nat) : Int) = some d' ∧ Mv zW d d' a (m + 1) ∧ SortS zW ltW d' a (m + 1) := by
  have hmono : ∀ h k, a ≤ k → k ≤ h → h < m → (!ltW (d.getD m zW) (d.getD h zW)) = true → (!ltW (d.getD m zW) (d.getD k zW)) = true := by
    intro h k h1 h2 h3 h4
    have h4' : ltW (d.getD m zW) (d.getD h zW) = false := by simpa using h4
    have := ltW_ord.tr _ _ _ (hs.le ltW_ord h1 h2 h3) h4'
    rw [this]; rfl
  refine Exists.elim (bs_loop (p := fun h => !ltW (d.getD m zW) (d.getD h zW)) (lo := a) (hi := m) hmono (fun i j => xs07.l15 d (m : Int) (i : Int) (j : Int)) (fun q => xs07.l21 d (q : Int) (m : Int)) ?_ ?_ ?_ _ a m rfl (Nat.le_refl _) (by omega) (Nat.le_refl _) (fun k h1 h2 => by omega) (fun k h1 h2 => by omega)) ?_
  · intro i r h1 h2 hx
    exact xs07.eq15 _ _ _ _ (by simp only [xs07.t15, ix_lt, Nat.lt_irrefl, decide_false, cond_false]; exact hx)
  · intro i j r h1 h2 h3 h4 hx
    have hm := mid_nat i j (by omega)
    have hh : (i + j) / 2 < d.length := by omega
    have hal : m < d.length := by omega
    have hc : decide (cmpL (d.getD m ([], 0)).1 (d.getD ((i + j) / 2) ([], 0)).1 < 0) = false := by simpa [ltW] using h4
    refine xs07.eq15 _ _ _ _ ?_
    simp only [xs07.t15, ix_lt, dec_t h1, cond_true, hm, ix_nn, ix_nat, dec_t hh, dec_t hal, impl_summed_1_eq _ _ _ _ (hr _ (getD_mem ([], 0) hal)) (hr _ (getD_mem ([], 0) hh)), Option.bind_some, hc, bang_f, wrap_succ (show (i + j) / 2 < 9223372036854775807 by omega)]
    exact hx
  · intro i j r h1 h2 h3 h4 hx
    have hm := mid_nat i j (by omega)
    have hh : (i + j) / 2 < d.length := by omega
    have hal : m < d.length := by omega
    have hc : decide (cmpL (d.getD m ([], 0)).1 (d.getD ((i + j) / 2) ([], 0)).1 < 0) = true := by simpa [ltW] using h4
    refine xs07.eq15 _ _ _ _ ?_
    simp only [xs07.t15, ix_lt, dec_t h1, cond_true, cond_false, hm, ix_nn, ix_nat, dec_t hh, dec_t hal, impl_summed_1_eq _ _ _ _ (hr _ (getD_mem ([], 0) hal)) (hr _ (getD_mem ([], 0) hh)), Option.bind_some, hc, bang_t]
    exact hx
  · rintro q ⟨q1, q2, q3, q4, q5⟩
    refine Exists.elim (down_loop (z := zW) (e := q) (N := d.length) (fun d k => xs07.l21 d (q : Int) (k : Int)) some ?_ ?_ _ m d rfl q2 (by omega) rfl) ?_
    · intro d1 r _ hx
      refine xs07.eq21 _ _ _ ?_
      simp only [xs07.t21, gt_dec, Nat.lt_irrefl, decide_false, cond_false]
      exact hx
    · intro d1 k r h1 h1' h2 hx
      have hk : k < d1.length := by omega
      have hk1 : k - 1 < d1.length := by omega
      have hset : ∀ x : WRow, decide (k - 1 < (d1.set k x).length) = true := fun x => by rw [List.length_set]; exact dec_t hk1
      refine xs07.eq21 _ _ _ ?_
      simp only [xs07.t21, gt_dec, dec_t h1, cond_true, wrap_pred (show 0 < k by omega) (show k < 9223372036854775807 by omega), ix_nn, ix_nat, dec_t hk, dec_t hk1, hset]
      exact hx
    · rintro d' ⟨k1, k2, k3⟩
      refine ⟨d', xs07.eq _ _ _ _ ?_, k1.mono q1 (Nat.le_refl _), ?_⟩
      · simp only [xs07.t, one_eq _ _ (show a ≤ m by omega) (show m < 4611686018427387904 by omega), dec_f (show ¬ m - a = 1 by omega), cond_false, one_eq _ _ (show m ≤ m + 1 by omega) (show m + 1 < 4611686018427387904 by omega), dec_t (show m + 1 - m = 1 by omega), cond_true]
        exact q5 _ (k3 d' rfl)
      · refine sort_down (i := q) ltW_asym hs q1 q2 (fun k h1 h2 => by simpa using q3 k h1 h2) (fun k h1 h2 => by simpa using q4 k h1 h2) ?_
        intro k
        exact k2 k
end GoV

/- The library's stable sort of rows with weights: merging in place. -/
namespace GoV
open Go
theorem sym_ok : ∀ (n : Nat) (d : List WRow) (a m b : Nat), b - a = n → a < m → m < b → b ≤ d.length → d.length ≤ 1073741824 → Rows d → SortS zW ltW d a m → SortS zW ltW d m b →
    ∃ d', xs07 d (a : Int) (m : Int) (b : Int) = some d' ∧ Mv zW d d' a b ∧ SortS zW ltW d' a b := by
  intro n
  induction n using Nat.strongRecOn with
  | ind n ih =>
    intro d a m b hn ham hmb hb hl hr h1 h2
    by_cases e1 : m = a + 1
    · subst e1
      exact sym_left (by omega) hb hl hr h2
    by_cases e2 : b = m + 1
    · subst e2
      exact sym_right (by omega) hb hl hr h1
    obtain ⟨mid, hmid⟩ : ∃ mid, mid = (a + b) / 2 := ⟨_, rfl⟩
    obtain ⟨s0, hs0⟩ : ∃ s0, s0 = if m > mid then mid + m - b else a := ⟨_, rfl⟩
    obtain ⟨r0, hr0⟩ : ∃ r0, r0 = if m > mid then mid else m := ⟨_, rfl⟩
    have hbd : ∀ c, s0 ≤ c → c < r0 → (a ≤ c ∧ c < m) ∧ m ≤ mid + m - 1 - c ∧ mid + m - 1 - c < b := by
      intro c g1 g2
      split at hs0 <;> split at hr0 <;> omega
    have hsr : s0 ≤ r0 ∧ r0 < 1073741824 := by
      split at hs0 <;> split at hr0 <;> omega
    have hmono : ∀ h k, s0 ≤ k → k ≤ h → h < r0 → (!ltW (d.getD (mid + m - 1 - h) zW) (d.getD h zW)) = true → (!ltW (d.getD (mid + m - 1 - k) zW) (d.getD k zW)) = true := by
      intro h k g1 g2 g3 g4
      have g4' : ltW (d.getD (mid + m - 1 - h) zW) (d.getD h zW) = false := by simpa using g4
      obtain ⟨⟨k1, k2⟩, k3, k4⟩ := hbd k g1 (by omega)
      obtain ⟨⟨k5, k6⟩, k7, k8⟩ := hbd h (by omega) g3
      have := ltW_ord.tr _ _ _ (ltW_ord.tr _ _ _ (h1.le ltW_ord k1 g2 k6) g4') (h2.le ltW_ord k7 (show mid + m - 1 - h ≤ mid + m - 1 - k by omega) k4)
      rw [this]; rfl
    refine Exists.elim (bs_loop (p := fun c => !ltW (d.getD (mid + m - 1 - c) zW) (d.getD c zW)) (lo := s0) (hi := r0) hmono
      (fun i j => xs07.l33 d (a : Int) (m : Int) (b : Int) (mid : Int) ((mid + m : Nat) : Int) (i : Int) (j : Int) ((mid + m - 1 : Nat) : Int))
      (fun q => xs07.l33 d (a : Int) (m : Int) (b : Int) (mid : Int) ((mid + m : Nat) : Int) (q : Int) (q : Int) ((mid + m - 1 : Nat) : Int)) (fun i r _ _ h => h) ?_ ?_ _ s0 r0 rfl (Nat.le_refl _) hsr.1 (Nat.le_refl _) (fun k h1 h2 => by omega) (fun k h1 h2 => by omega)) ?_
    · intro i j r g1 g2 g3 g4 hx
      obtain ⟨⟨k1, k2⟩, k3, k4⟩ := hbd ((i + j) / 2) (by omega) (by omega)
      have hm := mid_nat i j (by omega)
      have hh : (i + j) / 2 < d.length := by omega
      have hal : mid + m - 1 - (i + j) / 2 < d.length := by omega
      have hc : decide (cmpL (d.getD (mid + m - 1 - (i + j) / 2) ([], 0)).1 (d.getD ((i + j) / 2) ([], 0)).1 < 0) = false := by simpa [ltW] using g4
      refine xs07.eq33 _ _ _ _ _ _ _ _ _ ?_
      simp only [xs07.t33, ix_lt, dec_t g1, cond_true, hm, w_sub (show (i + j) / 2 ≤ mid + m - 1 by omega) (show mid + m - 1 < 4611686018427387904 by omega), ix_nn, ix_nat, dec_t hh, dec_t hal, impl_summed_1_eq _ _ _ _ (hr _ (getD_mem ([], 0) hal)) (hr _ (getD_mem ([], 0) hh)), Option.bind_some, hc, bang_f, wrap_succ (show (i + j) / 2 < 9223372036854775807 by omega)]
      exact hx
    · intro i j r g1 g2 g3 g4 hx
      obtain ⟨⟨k1, k2⟩, k3, k4⟩ := hbd ((i + j) / 2) (by omega) (by omega)
      have hm := mid_nat i j (by omega)
      have hh : (i + j) / 2 < d.length := by omega
      have hal : mid + m - 1 - (i + j) / 2 < d.length := by omega
      have hc : decide (cmpL (d.getD (mid + m - 1 - (i + j) / 2) ([], 0)).1 (d.getD ((i + j) / 2) ([], 0)).1 < 0) = true := by simpa [ltW] using g4
      refine xs07.eq33 _ _ _ _ _ _ _ _ _ ?_
      simp only [xs07.t33, ix_lt, dec_t g1, cond_true, cond_false, hm, w_sub (show (i + j) / 2 ≤ mid + m - 1 by omega) (show mid + m - 1 < 4611686018427387904 by omega), ix_nn, ix_nat, dec_t hh, dec_t hal, impl_summed_1_eq _ _ _ _ (hr _ (getD_mem ([], 0) hal)) (hr _ (getD_mem ([], 0) hh)), Option.bind_some, hc, bang_t]
      exact hx
    · rintro s ⟨q1, q2, q3, q4, q5⟩
      obtain ⟨t, ht⟩ : ∃ t, t = mid + m - s := ⟨_, rfl⟩
      have hst : a ≤ s ∧ s ≤ m ∧ m ≤ t ∧ t ≤ b ∧ s ≤ mid ∧ mid ≤ t := by
        split at hs0 <;> split at hr0 <;> omega
      obtain ⟨b1, b2, b3, b4, b5, b6⟩ := hst
      -- the rotation
      obtain ⟨e, he1, he2, he3, he4⟩ : ∃ e, Mv zW d e a b ∧ RotF (fun k => d.getD k zW) (fun k => e.getD k zW) s m t ∧ (s < m ∧ m < t → xs08 d (s : Int) (m : Int) (t : Int) = some e) ∧ (¬ (s < m ∧ m < t) → e = d) := by
        by_cases c : s < m ∧ m < t
        · obtain ⟨e, k1, k2, k3⟩ := rotate_ok (d := d) c.1 c.2 (by omega) hl
          exact ⟨e, k2.mono b1 b4, k3, fun _ => k1, fun h => absurd c h⟩
        · exact ⟨d, .refl _ _ _, RotF.none (by omega) b2 b3, fun h => absurd h c, fun _ => rfl⟩
      obtain ⟨_, x1, x2, x3, x4, x5⟩ := sym_halves ltW_ord ltW_asym hmid ham hmb h1 h2 hs0 hr0 q1 q2 ht (fun c g1 g2 => by simpa using q3 c g1 g2) (fun c g1 g2 => by simpa using q4 c g1 g2) he2
      have hel : e.length = d.length := he1.len
      have her : Rows e := hr.perm he1.perm
      -- the left half
      obtain ⟨f, hf1, hf2, hf3, hf4⟩ : ∃ f, Mv zW e f a mid ∧ SortS zW ltW f a mid ∧ (a < s ∧ s < mid → xs07 e (a : Int) (s : Int) (mid : Int) = some f) ∧ (¬ (a < s ∧ s < mid) → f = e) := by
        by_cases c : a < s ∧ s < mid
        · obtain ⟨f, k1, k2, k3⟩ := ih (mid - a) (by omega) e a s mid rfl c.1 c.2 (by omega) (by omega) her x1 x2
          exact ⟨f, k2, k3, fun _ => k1, fun h => absurd c h⟩
        · refine ⟨e, .refl _ _ _, ?_, fun h => absurd h c, fun _ => rfl⟩
          by_cases c2 : a = s
          · rw [c2]; exact x2
          · have : s = mid := by omega
            rw [← this]; exact x1
      have hfl : f.length = e.length := hf1.len
      have hfr : Rows f := her.perm hf1.perm
      have hout : ∀ k, mid ≤ k → f.getD k zW = e.getD k zW := fun k hk => hf1.out k (.inr hk)
      have y3 : SortS zW ltW f mid t := x3.congr fun k g _ => hout k g
      have y4 : SortS zW ltW f t b := x4.congr fun k g _ => hout k (by omega)
      -- the right half
      obtain ⟨g, hg1, hg2, hg3, hg4⟩ : ∃ g, Mv zW f g mid b ∧ SortS zW ltW g mid b ∧ (mid < t ∧ t < b → xs07 f (mid : Int) (t : Int) (b : Int) = some g) ∧ (¬ (mid < t ∧ t < b) → g = f) := by
        by_cases c : mid < t ∧ t < b
        · obtain ⟨g, k1, k2, k3⟩ := ih (b - mid) (by omega) f mid t b rfl c.1 c.2 (by omega) (by omega) hfr y3 y4
          exact ⟨g, k2, k3, fun _ => k1, fun h => absurd c h⟩
        · refine ⟨f, .refl _ _ _, ?_, fun h => absurd h c, fun _ => rfl⟩
          by_cases c2 : mid = t
          · rw [c2]; exact y4
          · have : t = b := by omega
            rw [← this]; exact y3
      have hmidb : a < mid ∧ mid < b := by omega
      have hfg : Mv zW e g a b := (hf1.mono (Nat.le_refl _) (by omega)).trans (hg1.mono (by omega) (Nat.le_refl _))
      have hin : ∀ k, k < mid → g.getD k zW = f.getD k zW := fun k hk => hg1.out k (.inl hk)
      refine ⟨g, ?_, he1.trans hfg, ?_⟩
      · refine xs07.eq _ _ _ _ ?_
        have hm := mid_nat a b (by omega)
        rw [← hmid] at hm
        have hres : xs07.l33 d (a : Int) (m : Int) (b : Int) (mid : Int) ((mid + m : Nat) : Int) (s : Int) (s : Int) ((mid + m - 1 : Nat) : Int) = some g := by
          refine xs07.eq33 _ _ _ _ _ _ _ _ _ ?_
          have hsub : IntKind.i64.wrap (((mid + m : Nat) : Int) - (s : Int)) = (t : Int) := by rw [w_sub (by omega) (by omega), ht]
          simp only [xs07.t33, ix_lt, Nat.lt_irrefl, decide_false, cond_false, hsub]
          by_cases c1 : s < m ∧ m < t
          · have z1 := he3 c1
            simp only [dec_t c1.1, dec_t c1.2, cond_true, z1, Option.bind_some]
            by_cases c2 : a < s ∧ s < mid
            · have z2 := hf3 c2
              simp only [dec_t c2.1, dec_t c2.2, cond_true, z2, Option.bind_some]
              by_cases c3 : mid < t ∧ t < b
              · simp only [dec_t c3.1, dec_t c3.2, cond_true, hg3 c3, Option.bind_some]
              · rw [hg4 c3]
                by_cases c4 : mid < t
                · simp only [dec_t c4, dec_f (show ¬ t < b from fun h => c3 ⟨c4, h⟩), cond_true, cond_false]
                · simp only [dec_f c4, cond_false]
            · have z2 := hf4 c2
              subst z2
              by_cases c5 : a < s
              · simp only [dec_t c5, dec_f (show ¬ s < mid from fun h => c2 ⟨c5, h⟩), cond_true, cond_false]
                by_cases c3 : mid < t ∧ t < b
                · simp only [dec_t c3.1, dec_t c3.2, cond_true, hg3 c3, Option.bind_some]
                · rw [hg4 c3]
                  by_cases c4 : mid < t
                  · simp only [dec_t c4, dec_f (show ¬ t < b from fun h => c3 ⟨c4, h⟩), cond_true, cond_false]
                  · simp only [dec_f c4, cond_false]
              · simp only [dec_f c5, cond_false]
                by_cases c3 : mid < t ∧ t < b
                · simp only [dec_t c3.1, dec_t c3.2, cond_true, hg3 c3, Option.bind_some]
                · rw [hg4 c3]
                  by_cases c4 : mid < t
                  · simp only [dec_t c4, dec_f (show ¬ t < b from fun h => c3 ⟨c4, h⟩), cond_true, cond_false]
                  · simp only [dec_f c4, cond_false]
          · have z1 := he4 c1
            subst z1
            have hno : (decide (s < m) && decide (m < t)) = false := by
              by_cases c6 : s < m
              · rw [dec_f (show ¬ m < t from fun h => c1 ⟨c6, h⟩), Bool.and_false]
              · rw [dec_f c6, Bool.false_and]
            by_cases c6 : s < m
            · simp only [dec_t c6, dec_f (show ¬ m < t from fun h => c1 ⟨c6, h⟩), cond_true, cond_false]
              by_cases c2 : a < s ∧ s < mid
              · have z2 := hf3 c2
                simp only [dec_t c2.1, dec_t c2.2, cond_true, z2, Option.bind_some]
                by_cases c3 : mid < t ∧ t < b
                · simp only [dec_t c3.1, dec_t c3.2, cond_true, hg3 c3, Option.bind_some]
                · rw [hg4 c3]
                  by_cases c4 : mid < t
                  · simp only [dec_t c4, dec_f (show ¬ t < b from fun h => c3 ⟨c4, h⟩), cond_true, cond_false]
                  · simp only [dec_f c4, cond_false]
              · have z2 := hf4 c2
                subst z2
                by_cases c5 : a < s
                · simp only [dec_t c5, dec_f (show ¬ s < mid from fun h => c2 ⟨c5, h⟩), cond_true, cond_false]
                  by_cases c3 : mid < t ∧ t < b
                  · simp only [dec_t c3.1, dec_t c3.2, cond_true, hg3 c3, Option.bind_some]
                  · rw [hg4 c3]
                    by_cases c4 : mid < t
                    · simp only [dec_t c4, dec_f (show ¬ t < b from fun h => c3 ⟨c4, h⟩), cond_true, cond_false]
                    · simp only [dec_f c4, cond_false]
                · simp only [dec_f c5, cond_false]
                  by_cases c3 : mid < t ∧ t < b
                  · simp only [dec_t c3.1, dec_t c3.2, cond_true, hg3 c3, Option.bind_some]
                  · rw [hg4 c3]
                    by_cases c4 : mid < t
                    · simp only [dec_t c4, dec_f (show ¬ t < b from fun h => c3 ⟨c4, h⟩), cond_true, cond_false]
                    · simp only [dec_f c4, cond_false]
            · simp only [dec_f c6, cond_false]
              by_cases c2 : a < s ∧ s < mid
              · have z2 := hf3 c2
                simp only [dec_t c2.1, dec_t c2.2, cond_true, z2, Option.bind_some]
                by_cases c3 : mid < t ∧ t < b
                · simp only [dec_t c3.1, dec_t c3.2, cond_true, hg3 c3, Option.bind_some]
                · rw [hg4 c3]
                  by_cases c4 : mid < t
                  · simp only [dec_t c4, dec_f (show ¬ t < b from fun h => c3 ⟨c4, h⟩), cond_true, cond_false]
                  · simp only [dec_f c4, cond_false]
              · have z2 := hf4 c2
                subst z2
                by_cases c5 : a < s
                · simp only [dec_t c5, dec_f (show ¬ s < mid from fun h => c2 ⟨c5, h⟩), cond_true, cond_false]
                  by_cases c3 : mid < t ∧ t < b
                  · simp only [dec_t c3.1, dec_t c3.2, cond_true, hg3 c3, Option.bind_some]
                  · rw [hg4 c3]
                    by_cases c4 : mid < t
                    · simp only [dec_t c4, dec_f (show ¬ t < b from fun h => c3 ⟨c4, h⟩), cond_true, cond_false]
                    · simp only [dec_f c4, cond_false]
                · simp only [dec_f c5, cond_false]
                  by_cases c3 : mid < t ∧ t < b
                  · simp only [dec_t c3.1, dec_t c3.2, cond_true, hg3 c3, Option.bind_some]
                  · rw [hg4 c3]
                    by_cases c4 : mid < t
                    · simp only [dec_t c4, dec_f (show ¬ t < b from fun h => c3 ⟨c4, h⟩), cond_true, cond_false]
                    · simp only [dec_f c4, cond_false]
        have hq := q5 _ hres
        have hn : IntKind.i64.wrap ((mid : Int) + (m : Int)) = ((mid + m : Nat) : Int) := w_add (by omega)
        have hp : IntKind.i64.wrap (((mid + m : Nat) : Int) - (1 : Int)) = ((mid + m - 1 : Nat) : Int) := wrap_pred (by omega) (by omega)
        simp only [xs07.t, one_eq _ _ (show a ≤ m by omega) (show m < 4611686018427387904 by omega), dec_f (show ¬ m - a = 1 by omega), cond_false, one_eq _ _ (show m ≤ b by omega) (show b < 4611686018427387904 by omega), dec_f (show ¬ b - m = 1 by omega), hm, hn, hp, gt_dec]
        by_cases c : m > mid
        · rw [if_pos c] at hs0 hr0
          have hs : IntKind.i64.wrap (((mid + m : Nat) : Int) - (b : Int)) = (s0 : Int) := by rw [w_sub (by omega) (by omega), hs0]
          simp only [dec_t (show mid < m from c), cond_true, hs]
          rw [hr0] at hq
          exact hq
        · rw [if_neg c] at hs0 hr0
          simp only [dec_f (show ¬ mid < m from c), cond_false]
          rw [hs0, hr0] at hq
          exact hq
      · refine sym_join (mid := mid) hfg (fun k g1 g2 => ?_) (fun k g1 g2 => ?_) (hf2.congr fun k _ g2 => hin k g2) hg2 x5
        · obtain ⟨j, k1, k2, k3⟩ := hf1.from' k g1 g2
          exact ⟨j, k1, k2, by rw [hin k g2]; exact k3⟩
        · obtain ⟨j, k1, k2, k3⟩ := hg1.from' k g1 g2
          exact ⟨j, k1, k2, by rw [k3]; exact hout j k1⟩
end GoV

/- The library's stable sort of rows with weights: blocks sorted, then merged. -/
namespace GoV
open Go
/-- The first A blocks of s are sorted, each in itself. -/
def LoB (d : List WRow) (s A n : Nat) : Prop := ∀ q, q < A → q * s < n → SortS zW ltW d (q * s) (min (q * s + s) n)
/-- The blocks from the A-th on. -/
def HiB (d : List WRow) (s A n : Nat) : Prop := ∀ q, A ≤ q → q * s < n → SortS zW ltW d (q * s) (min (q * s + s) n)
theorem mul_le_of_lt {q A s : Nat} (h : q < A) : q * s + s ≤ A * s := by
  have := Nat.mul_le_mul_right s (show q + 1 ≤ A by omega)
  rwa [Nat.succ_mul] at this
theorem LoB.keep {d d' : List WRow} {s A n a b : Nat} (h : LoB d s A n) (hm : Mv zW d d' a b) (ha : A * s ≤ a) : LoB d' s A n := fun q h1 h2 =>
  (h q h1 h2).congr fun k _ g2 => hm.out k (.inl (by have := mul_le_of_lt (s := s) h1; omega))
theorem HiB.keep {d d' : List WRow} {s A n a b : Nat} (h : HiB d s A n) (hm : Mv zW d d' a b) (hb : b ≤ A * s) : HiB d' s A n := fun q h1 h2 =>
  (h q h1 h2).congr fun k g1 _ => hm.out k (.inr (by have := Nat.mul_le_mul_right s h1; omega))
theorem blocks_ok {n : Nat} {β : Type} (L : List WRow → Nat → Option β) (K : List WRow → Option β) (hn : n ≤ 1073741824)
    (hs : ∀ d d' A r, d.length = n → Rows d → A * 20 + 20 ≤ n → xs03 d ((A * 20 : Nat) : Int) ((A * 20 + 20 : Nat) : Int) = some d' → L d' (A + 1) = some r → L d A = some r)
    (he : ∀ d d' A r, d.length = n → Rows d → A * 20 ≤ n → n < A * 20 + 20 → xs03 d ((A * 20 : Nat) : Int) (n : Int) = some d' → K d' = some r → L d A = some r) :
    ∀ m A d, n - A * 20 = m → A * 20 ≤ n → d.length = n → Rows d → LoB d 20 A n → ∃ d' B, Mv zW d d' 0 n ∧ LoB d' 20 B n ∧ n < B * 20 ∧ ∀ r, K d' = some r → L d A = some r := by
  intro m
  induction m using Nat.strongRecOn with
  | ind m ih =>
    intro A d hm hA hd hr hlo
    by_cases c : A * 20 + 20 ≤ n
    · obtain ⟨d1, k1, k2, k3⟩ := ins_ok (d := d) (a := A * 20) (b := A * 20 + 20) (by omega) (by omega) hr (by omega)
      have hlo1 : LoB d1 20 (A + 1) n := by
        intro q h1 h2
        by_cases e : q < A
        · exact (hlo.keep k2 (Nat.le_refl _)) q e h2
        · obtain rfl : q = A := by omega
          rw [Nat.min_eq_left c]
          exact k3
      obtain ⟨d', B, g1, g2, g3, g4⟩ := ih (n - (A + 1) * 20) (by omega) (A + 1) d1 rfl (by omega) (k2.len.trans hd) (hr.perm k2.perm) hlo1
      exact ⟨d', B, (k2.mono (by omega) c).trans g1, g2, g3, fun r hr' => hs d d1 A r hd hr c k1 (g4 r hr')⟩
    · obtain ⟨d1, k1, k2, k3⟩ := ins_ok (d := d) (a := A * 20) (b := n) (by omega) (by omega) hr (by omega)
      refine ⟨d1, A + 1, k2.mono (by omega) (Nat.le_refl _), ?_, by omega, fun r hr' => he d d1 A r hd hr hA (by omega) k1 hr'⟩
      intro q h1 h2
      by_cases e : q < A
      · exact (hlo.keep k2 (Nat.le_refl _)) q e h2
      · obtain rfl : q = A := by omega
        rw [Nat.min_eq_right (by omega)]
        exact k3
theorem twice (A s : Nat) : 2 * A * s = A * (2 * s) := by rw [Nat.mul_comm 2 A, Nat.mul_assoc]
theorem twice1 (A s : Nat) : (2 * A + 1) * s = A * (2 * s) + s := by rw [Nat.succ_mul, twice]
theorem twice2 (A s : Nat) : 2 * (A + 1) * s = A * (2 * s) + 2 * s := by rw [twice, Nat.succ_mul]
theorem merges_ok {n s : Nat} {β : Type} (hs0 : 0 < s) (L : List WRow → Nat → Option β) (K : List WRow → Option β) (hn : n ≤ 1073741824)
    (hs : ∀ d d' A r, d.length = n → Rows d → A * (2 * s) + 2 * s ≤ n → xs07 d ((A * (2 * s) : Nat) : Int) ((A * (2 * s) + s : Nat) : Int) ((A * (2 * s) + 2 * s : Nat) : Int) = some d' → L d' (A + 1) = some r → L d A = some r)
    (he1 : ∀ d d' A r, d.length = n → Rows d → n < A * (2 * s) + 2 * s → A * (2 * s) + s < n → xs07 d ((A * (2 * s) : Nat) : Int) ((A * (2 * s) + s : Nat) : Int) (n : Int) = some d' → K d' = some r → L d A = some r)
    (he2 : ∀ d A r, d.length = n → Rows d → A * (2 * s) ≤ n → n ≤ A * (2 * s) + s → K d = some r → L d A = some r) :
    ∀ m A d, n - A * (2 * s) = m → A * (2 * s) ≤ n → d.length = n → Rows d → LoB d (2 * s) A n → HiB d s (2 * A) n → ∃ d', Mv zW d d' 0 n ∧ HiB d' (2 * s) 0 n ∧ ∀ r, K d' = some r → L d A = some r := by
  intro m
  induction m using Nat.strongRecOn with
  | ind m ih =>
    intro A d hm hA hd hr hlo hhi
    have hfin : ∀ d' : List WRow, LoB d' (2 * s) (A + 1) n → n ≤ A * (2 * s) + 2 * s → HiB d' (2 * s) 0 n := by
      intro d' h hle q _ h2
      refine h q ?_ h2
      rcases Nat.lt_or_ge q (A + 1) with g | g
      · exact g
      · have := Nat.mul_le_mul_right (2 * s) g
        rw [Nat.succ_mul] at this
        omega
    have h1 : A * (2 * s) < n → SortS zW ltW d (A * (2 * s)) (min (A * (2 * s) + s) n) := fun h => by
      have := hhi (2 * A) (Nat.le_refl _) (by rw [twice]; exact h)
      rwa [twice] at this
    have h2 : A * (2 * s) + s < n → SortS zW ltW d (A * (2 * s) + s) (min (A * (2 * s) + 2 * s) n) := fun h => by
      have := hhi (2 * A + 1) (by omega) (by rw [twice1]; exact h)
      rw [twice1] at this
      rwa [show A * (2 * s) + s + s = A * (2 * s) + 2 * s by omega] at this
    by_cases c : A * (2 * s) + 2 * s ≤ n
    · have g1 := h1 (by omega)
      have g2 := h2 (by omega)
      rw [Nat.min_eq_left (by omega)] at g1 g2
      obtain ⟨d1, k1, k2, k3⟩ := sym_ok _ d (A * (2 * s)) (A * (2 * s) + s) (A * (2 * s) + 2 * s) rfl (by omega) (by omega) (by omega) (by omega) hr g1 g2
      have hlo1 : LoB d1 (2 * s) (A + 1) n := by
        intro q h1 h2
        by_cases e : q < A
        · exact (hlo.keep k2 (Nat.le_refl _)) q e h2
        · obtain rfl : q = A := by omega
          rw [Nat.min_eq_left c]
          exact k3
      have hhi1 : HiB d1 s (2 * (A + 1)) n := HiB.keep (A := 2 * (A + 1)) (fun q h1 h2 => hhi q (by omega) h2) k2 (by rw [twice2]; exact Nat.le_refl _)
      obtain ⟨d', g3, g4, g5⟩ := ih (n - (A + 1) * (2 * s)) (by rw [Nat.succ_mul]; omega) (A + 1) d1 rfl (by rw [Nat.succ_mul]; exact c) (k2.len.trans hd) (hr.perm k2.perm) hlo1 hhi1
      exact ⟨d', (k2.mono (by omega) c).trans g3, g4, fun r hr' => hs d d1 A r hd hr c k1 (g5 r hr')⟩
    · by_cases c2 : A * (2 * s) + s < n
      · have g1 := h1 (by omega)
        have g2 := h2 c2
        rw [Nat.min_eq_left (by omega)] at g1
        rw [Nat.min_eq_right (by omega)] at g2
        obtain ⟨d1, k1, k2, k3⟩ := sym_ok _ d (A * (2 * s)) (A * (2 * s) + s) n rfl (by omega) (by omega) (by omega) (by omega) hr g1 g2
        refine ⟨d1, k2.mono (by omega) (Nat.le_refl _), hfin d1 ?_ (by omega), fun r hr' => he1 d d1 A r hd hr (by omega) c2 k1 hr'⟩
        intro q h1 h2
        by_cases e : q < A
        · exact (hlo.keep k2 (Nat.le_refl _)) q e h2
        · obtain rfl : q = A := by omega
          rw [Nat.min_eq_right (by omega)]
          exact k3
      · refine ⟨d, .refl _ _ _, hfin d ?_ (by omega), fun r hr' => he2 d A r hd hr hA (by omega) hr'⟩
        intro q g1 g2
        by_cases e : q < A
        · exact hlo q e g2
        · obtain rfl : q = A := by omega
          have := h1 g2
          rw [Nat.min_eq_right (by omega)] at this ⊢
          exact this
end GoV

/- The library's stable sort of rows with weights. -/
namespace GoV
open Go
theorem double_ok {n : Nat} (hn : n ≤ 1073741824) : ∀ (m s : Nat) (d : List WRow), n - s = m → 0 < s → s ≤ 2147483648 → d.length = n → Rows d → HiB d s 0 n →
    ∃ d', xs09.l7 d (n : Int) (s : Int) = some d' ∧ Mv zW d d' 0 n ∧ SortS zW ltW d' 0 n := by
  intro m
  induction m using Nat.strongRecOn with
  | ind m ih =>
    intro s d hm hs0 hs hd hr hB
    by_cases c : s < n
    · have hd2 : IntKind.i64.wrap ((2 : Int) * (s : Int)) = ((2 * s : Nat) : Int) := by rw [wrap_id] <;> omega
      have hd3 : IntKind.i64.wrap ((s : Int) * (2 : Int)) = ((2 * s : Nat) : Int) := by rw [wrap_id] <;> omega
      refine Exists.elim (merges_ok (n := n) (s := s) hs0 (fun d A => xs09.l9 d (n : Int) (s : Int) ((A * (2 * s) : Nat) : Int) ((A * (2 * s) + 2 * s : Nat) : Int)) (fun d => xs09.l7 d (n : Int) ((2 * s : Nat) : Int)) hn ?_ ?_ ?_ _ 0 d rfl (by omega) hd hr (fun q h => by omega) hB) ?_
      · intro d1 d2 A r h1 h2 h3 h4 hx
        refine xs09.eq9 _ _ _ _ _ ?_
        have hle : ((A * (2 * s) + 2 * s : Nat) : Int) ≤ (n : Int) := by omega
        simp only [xs09.t9, dec_t hle, cond_true, w_add (show A * (2 * s) + s < 4611686018427387904 by omega), h4, Option.bind_some, hd2, w_add (show A * (2 * s) + 2 * s + 2 * s < 4611686018427387904 by omega)]
        rw [Nat.succ_mul] at hx
        exact hx
      · intro d1 d2 A r h1 h2 h3 h3' h4 hx
        refine xs09.eq9 _ _ _ _ _ ?_
        have hle : ¬ ((A * (2 * s) + 2 * s : Nat) : Int) ≤ (n : Int) := by omega
        simp only [xs09.t9, dec_f hle, cond_false, w_add (show A * (2 * s) + s < 4611686018427387904 by omega), ix_lt, dec_t h3', cond_true, h4, Option.bind_some, hd3]
        exact hx
      · intro d1 A r h1 h2 h3 h3' hx
        refine xs09.eq9 _ _ _ _ _ ?_
        have hle : ¬ ((A * (2 * s) + 2 * s : Nat) : Int) ≤ (n : Int) := by omega
        simp only [xs09.t9, dec_f hle, cond_false, w_add (show A * (2 * s) + s < 4611686018427387904 by omega), ix_lt, dec_f (show ¬ A * (2 * s) + s < n by omega), hd3]
        exact hx
      · rintro d1 ⟨k1, k2, k3⟩
        obtain ⟨d', g1, g2, g3⟩ := ih (n - 2 * s) (by omega) (2 * s) d1 rfl (by omega) (by omega) (k1.len.trans hd) (hr.perm k1.perm) k2
        refine ⟨d', xs09.eq7 _ _ _ ?_, k1.trans g2, g3⟩
        have := k3 d' g1
        simp only [Nat.zero_mul, Nat.zero_add] at this
        simp only [xs09.t7, ix_lt, dec_t c, cond_true, hd2]
        exact this
    · refine ⟨d, xs09.eq7 _ _ _ ?_, .refl _ _ _, ?_⟩
      · simp only [xs09.t7, ix_lt, dec_f c, cond_false]
      · intro i j h1 h2 h3
        have := hB 0 (Nat.le_refl _) (by omega)
        rw [Nat.zero_mul, Nat.zero_add, Nat.min_eq_right (by omega)] at this
        exact this i j h1 h2 h3
theorem sort_ok {d : List WRow} (hl : d.length ≤ 1073741824) (hr : Rows d) :
    ∃ d', xs02 d = some d' ∧ d'.Perm d ∧ SortS zW ltW d' 0 d'.length := by
  refine Exists.elim (blocks_ok (n := d.length) (fun d1 A => xs09.l2 d1 (d.length : Int) 20 ((A * 20 : Nat) : Int) ((A * 20 + 20 : Nat) : Int)) (fun d1 => xs09.l7 d1 (d.length : Int) 20) hl ?_ ?_ _ 0 d rfl (by omega) rfl hr (fun q h => by omega)) ?_
  · intro d1 d2 A r h1 h2 h3 h4 hx
    refine xs09.eq2 _ _ _ _ _ ?_
    have hle : ((A * 20 + 20 : Nat) : Int) ≤ (d.length : Int) := by omega
    have hw : IntKind.i64.wrap (((A * 20 + 20 : Nat) : Int) + (20 : Int)) = (((A + 1) * 20 + 20 : Nat) : Int) := by rw [wrap_id] <;> omega
    have e : (A + 1) * 20 = A * 20 + 20 := by omega
    simp only [xs09.t2, dec_t hle, cond_true, h4, Option.bind_some, hw]
    rw [← e]
    exact hx
  · intro d1 d2 A r h1 h2 h3 h3' h4 hx
    refine xs09.eq2 _ _ _ _ _ ?_
    have hle : ¬ ((A * 20 + 20 : Nat) : Int) ≤ (d.length : Int) := by omega
    simp only [xs09.t2, dec_f hle, cond_false, h4, Option.bind_some]
    exact hx
  · rintro d1 ⟨B, k1, k2, k3, k4⟩
    have hB : HiB d1 20 0 d.length := fun q _ h2 => k2 q (by omega) h2
    obtain ⟨d', g1, g2, g3⟩ := double_ok hl _ 20 d1 rfl (by omega) (by omega) k1.len (hr.perm k1.perm) hB
    have hm := k1.trans g2
    refine ⟨d', xs02.eq _ ?_, hm.perm, by rw [hm.len]; exact g3⟩
    have h2 := k4 d' g1
    have h3 := xs09.eq d (d.length : Int) (b := d') (by simp only [xs09.t]; exact h2)
    simp only [xs02.t, h3, Option.bind_some]
end GoV

/- A table handed on if it is good. -/
namespace GoV
open Go
end GoV

/- Lists of rows summed: what the program's 'summed' gives. -/
namespace GoV
open Go
theorem impl_summed_eq {c M : Int} {ls : List (List WRow)} {a b : List WRow} (he : ls.flatten = a ++ b) (hn : ls.length ≤ 1073741824) (hl : ls.flatten.length ≤ 1073741824) (hr : Rows ls.flatten) (hM : 0 ≤ M) (hw : ∀ w, w ∈ ls.flatten → -M ≤ w.2 ∧ w.2 ≤ M) (hbig : M * (ls.flatten.length : Int) ≤ 9223372036854775807)
    (h1 : sortedW a) (h2 : nzW a) : impl_summed c ls = some (c, putsL a b) := by
  have e1 := slices_Concat_W_eq ls hl hn
  obtain ⟨d, e2, hp, hs⟩ := sort_ok (d := ls.flatten) hl hr
  have hlen : d.length = ls.flatten.length := hp.length_eq
  have e3 := (groups_ok (d := d) (c := c) (M := M) (by omega) (hr.perm hp) hM (fun w hw' => hw w (hp.mem_iff.1 hw')) (by rw [hlen]; exact hbig) 0 (Nat.zero_le _)).1 [] (by simp)
  rw [List.drop_zero, List.nil_append, group_puts (by rw [← he]; exact hp) hs h1 h2] at e3
  refine impl_summed.eq c ls ?_
  simp only [impl_summed.t, e1, e2, Option.bind_some]
  exact e3
end GoV

/- Tables that are good, with as many columns. -/
namespace GoV
open Go
def alikeB (c : Int) (a : List WRow) (d : Int) (b : List WRow) : Bool := goodT c a && (goodT d b && (c == d))
end GoV

/- Tables added, as the program does it. -/
namespace GoV
open Go
theorem goodT_put {c : Int} {l : List WRow} (h : goodT c l = true) : PutOK 1000000 60 l ∧ sortedW l ∧ nzW l := by
  obtain ⟨_, h1, h2, h3⟩ := goodT_iff.1 h
  obtain ⟨_, h4⟩ := goodT_rows h
  exact ⟨⟨h1, fun w hw => by have := (h4 w hw).1; omega, fun w hw => (h4 w hw).2.1⟩, h3, fun w hw => (h4 w hw).2.2⟩
theorem puts_small {c d : Int} {a b : List WRow} (g1 : goodT c a = true) (g2 : goodT d b = true) : (putsL a b).length ≤ 120 ∧ ∀ w, w ∈ putsL a b → w.1.length ≤ 6 := by
  obtain ⟨p1, p2, p3⟩ := goodT_put g1
  obtain ⟨h1, h2⟩ := goodT_rows g1
  obtain ⟨h3, h4⟩ := goodT_rows g2
  obtain ⟨_, _, _, r4, r5⟩ := putsL_ok b p2 p3
  refine ⟨by omega, fun w hw => ?_⟩
  rcases r4 w hw with h | ⟨u, hu, e⟩
  · exact (h2 w h).1
  · rw [e]; exact (h4 u hu).1
end GoV

/- Streams of tables. -/
namespace GoV
open Go
abbrev Tab := Int × List WRow
abbrev streamTy : Ty := .pair (.int .i64) (.sl (.pair (.int .i64) (.sl (.pair (.sl (.int .i64)) (.int .i64)))))
def tabOK (c : Int) (t : Tab) : Bool := goodT t.1 t.2 && (t.1 == c)
def goodSt (c : Int) (l : List Tab) : Bool := (inB 0 6 c && decide (l.length ≤ 12)) && l.all (tabOK c)
theorem tabOK_iff {c : Int} {t : Tab} : tabOK c t = true ↔ goodT c t.2 = true ∧ t.1 = c := by
  simp only [tabOK, Bool.and_eq_true, beq_iff_eq]
  constructor
  · rintro ⟨h, rfl⟩; exact ⟨h, rfl⟩
  · rintro ⟨h, rfl⟩; exact ⟨h, rfl⟩
theorem stream_len {c : Int} {l : List Tab} {n : Nat} (h : szT streamTy (c, l) ≤ n) : l.length ≤ n ∧ ∀ t, t ∈ l → t.2.length ≤ n ∧ ∀ w, w ∈ t.2 → w.1.length ≤ n := by
  have h0 : szT (.sl (.pair (.int .i64) (.sl (.pair (.sl (.int .i64)) (.int .i64))))) l ≤ n := by simp only [szT] at h ⊢; omega
  have h1 := szT_len (t := .pair (.int .i64) (.sl (.pair (.sl (.int .i64)) (.int .i64)))) (l := l)
  refine ⟨by omega, fun t ht => ?_⟩
  have h2 := szT_mem (t := .pair (.int .i64) (.sl (.pair (.sl (.int .i64)) (.int .i64)))) (l := l) ht
  exact tab_len (c := t.1) (l := t.2) (Nat.le_trans h2 h0)
def smallT (t : Tab) : Prop := t.2.length ≤ 1073741824 ∧ ∀ w, w ∈ t.2 → w.1.length ≤ 1073741824
theorem stream_small {c : Int} {l : List Tab} (h : szT streamTy (c, l) ≤ 1048576) : l.length ≤ 1073741824 ∧ ∀ t, t ∈ l → smallT t := by
  obtain ⟨h1, h2⟩ := stream_len h
  refine ⟨by omega, fun t ht => ?_⟩
  obtain ⟨h3, h4⟩ := h2 t ht
  exact ⟨by omega, fun w hw => by have := h4 w hw; omega⟩
theorem stream_size {c : Int} {ls : List (List WRow)} (h : ∀ r, r ∈ ls → goodT c r = true) (hl : ls.length ≤ 12) : szT streamTy (c, ls.map fun r => (c, r)) ≤ 1073741824 := by
  have key : ∀ ls : List (List WRow), (∀ r, r ∈ ls → goodT c r = true) → ((ls.map fun r => ((c, r) : Tab)).map (szT (.pair (.int .i64) (.sl (.pair (.sl (.int .i64)) (.int .i64)))))).sum ≤ 1000 * ls.length := by
    intro ls
    induction ls with
    | nil => intro _; simp
    | cons r ls ih =>
      intro h
      have h1 := goodT_size (h r (by simp))
      have h2 := ih fun x hx => h x (List.mem_cons_of_mem _ hx)
      have h3 : szT (.pair (.int .i64) (.sl (.pair (.sl (.int .i64)) (.int .i64)))) ((c, r) : Tab) = szT (.sl (.pair (.sl (.int .i64)) (.int .i64))) r := by
        show 0 + szT (.sl (.pair (.sl (.int .i64)) (.int .i64))) r = _
        omega
      simp only [List.map_cons, List.sum_cons, List.length_cons]
      rw [h3]
      omega
  have := key ls h
  show 0 + ((ls.map fun r => ((c, r) : Tab)).length + ((ls.map fun r => ((c, r) : Tab)).map (szT (.pair (.int .i64) (.sl (.pair (.sl (.int .i64)) (.int .i64)))))).sum) ≤ _
  rw [List.length_map]
  omega
theorem stream_none : szT streamTy ((0 : Int), ([] : List Tab)) ≤ 1073741824 := by simp [szT]
section
variable {c : Int} {l : List Tab} (hl : l.length ≤ 1073741824) (hr : ∀ t, t ∈ l → smallT t)
include hl hr
theorem spec_GoodStream_eq : spec_GoodStream c l = some (goodSt c l) := by
  refine spec_GoodStream.eq c l ?_
  simp only [spec_GoodStream.t]
  have := all_loop l ((0 : Int), []) (fun i => spec_GoodStream.l2 c l l (l.length : Int) (i : Int)) (tabOK c) false (inB 0 6 c && decide (l.length ≤ 12)) ?_ ?_ ?_
  · refine Eq.trans this ?_
    simp only [goodSt]
    cases l.all (tabOK c)
    · simp
    · simp
  · refine spec_GoodStream.eq2 _ _ _ _ _ ?_
    have e : decide ((l.length : Int) ≤ 12) = decide (l.length ≤ 12) := bool_eq (by simp only [decide_eq_true_eq]; omega)
    simp only [spec_GoodStream.t2, ix_lt, Nat.lt_irrefl, decide_false, cond_false, spec_l1In_eq, Option.bind_some, e]
    cases inB 0 6 c <;> rfl
  · intro i hi hb
    obtain ⟨g1, g2⟩ := hr _ (getD_mem ((0 : Int), ([] : List WRow)) hi)
    refine spec_GoodStream.eq2 _ _ _ _ _ ?_
    simp only [tabOK] at hb
    simp only [spec_GoodStream.t2, ix_lt, ix_nn, ix_nat, dec_t hi, cond_true, spec_GoodTable_eq g1 g2, Option.bind_some, bne]
    cases h1 : goodT (l.getD i ((0 : Int), [])).1 (l.getD i ((0 : Int), [])).2
    · rfl
    · rw [h1, Bool.true_and] at hb
      simp only [hb, bang_t, bang_f, cond_true, cond_false]
  · intro i b hi hb hs
    obtain ⟨g1, g2⟩ := hr _ (getD_mem ((0 : Int), ([] : List WRow)) hi)
    simp only [tabOK, Bool.and_eq_true] at hb
    refine spec_GoodStream.eq2 _ _ _ _ _ ?_
    simp only [spec_GoodStream.t2, ix_lt, ix_nn, ix_nat, dec_t hi, cond_true, spec_GoodTable_eq g1 g2, Option.bind_some, bne, hb.1, hb.2, bang_t, cond_false, wrap_succ (show i < 9223372036854775807 by omega)]
    exact hs
theorem impl_GoodStream_eq : impl_GoodStream c l = some (goodSt c l) := by
  refine impl_GoodStream.eq c l ?_
  have e : decide ((l.length : Int) ≤ 12) = decide (l.length ≤ 12) := bool_eq (by simp only [decide_eq_true_eq]; omega)
  have e2 := xi0d_ok l c l (tabOK c) (by omega) (fun t ht => by
    obtain ⟨g1, g2⟩ := hr t ht
    refine impl_GoodStream_1.eq _ _ _ _ ?_
    simp only [impl_GoodStream_1.t, impl_GoodTable_eq g1 g2, Option.bind_some, tabOK]
    cases goodT t.1 t.2 <;> rfl)
  simp only [impl_GoodStream.t, impl_isColumns_eq, e, e2, Option.bind_some, goodSt]
  cases inB 0 6 c
  · simp
  · by_cases h : l.length ≤ 12
    · simp only [dec_t h, cond_true, Bool.and_self, Bool.true_and]
    · simp only [dec_f h, cond_true, cond_false, Bool.and_false, Bool.false_and]
end
/-- A list pushed while all is well. -/
theorem push_all_loop {α β γ : Type} (l : List α) (z : α) (p : α → Bool) (g : α → γ) (L : List γ → Nat → Option β) (res : List γ → Option β) (bad : β) (he : ∀ acc b, acc.length ≤ l.length → res acc = some b → L acc l.length = some b)
    (hf : ∀ acc i, i < l.length → p (l.getD i z) = false → L acc i = some bad)
    (hs : ∀ acc i b, i < l.length → acc.length ≤ i → p (l.getD i z) = true → L (acc ++ [g (l.getD i z)]) (i + 1) = some b → L acc i = some b) :
    ∀ b, (bif l.all p then res (l.map g) else some bad) = some b → L [] 0 = some b := by
  have key : ∀ i, i ≤ l.length → ∀ acc b, acc.length ≤ i → (bif (l.drop i).all p then res (acc ++ (l.drop i).map g) else some bad) = some b → L acc i = some b := by
    refine upto ?_ ?_
    · intro acc b ha hb
      rw [List.drop_length, List.map_nil, List.append_nil] at hb
      exact he acc b ha hb
    · intro i hi ih acc b ha hb
      rw [drop_getD z hi, List.map_cons, List.all_cons, push_mid] at hb
      cases hq : p (l.getD i z) with
      | false =>
        rw [hq, Bool.false_and, cond_false] at hb
        rw [← hb]
        exact hf acc i hi hq
      | true =>
        rw [hq, Bool.true_and] at hb
        exact hs acc i b hi ha hq (ih _ b (by rw [List.length_append, List.length_singleton]; omega) hb)
  intro b hb
  exact key 0 (Nat.zero_le _) [] b (Nat.le_refl _) (by rw [List.drop_zero]; exact hb)
theorem spec_l4Stream_eq (c : Int) (ls : List (List WRow)) (hl : ls.length ≤ 1073741824) (hr : ∀ r, r ∈ ls → r.length ≤ 1073741824 ∧ ∀ w, w ∈ r → w.1.length ≤ 1073741824) :
    spec_l4Stream c ls = some (bif ls.all (goodT c) then (c, ls.map fun r => (c, r), true) else (0, [], false)) := by
  refine spec_l4Stream.eq c ls ?_
  simp only [spec_l4Stream.t]
  refine push_all_loop ls [] (goodT c) (fun r => (c, r)) (fun acc i => spec_l4Stream.l3 c 0 [] c acc ls (ls.length : Int) (i : Int)) (fun acc => some (c, acc, true)) (0, [], false) ?_ ?_ ?_ _ ?_
  · intro acc b _ hb
    exact spec_l4Stream.eq3 _ _ _ _ _ _ _ _ (by simp only [spec_l4Stream.t3, ix_lt, Nat.lt_irrefl, decide_false, cond_false]; exact hb)
  · intro acc i hi hq
    obtain ⟨g1, g2⟩ := hr _ (getD_mem [] hi)
    have e := spec_l2Tell_eq c (ls.getD i []) g1 g2
    rw [hq, cond_false] at e
    exact spec_l4Stream.eq3 _ _ _ _ _ _ _ _ (by simp only [spec_l4Stream.t3, ix_lt, ix_nn, ix_nat, dec_t hi, cond_true, e, Option.bind_some, bang_f])
  · intro acc i b hi ha hq hb
    obtain ⟨g1, g2⟩ := hr _ (getD_mem [] hi)
    have e := spec_l2Tell_eq c (ls.getD i []) g1 g2
    rw [hq, cond_true] at e
    have h2 : acc.length + [(c, ls.getD i [])].length ≤ 4294967296 := by simp only [List.length_cons, List.length_nil]; omega
    exact spec_l4Stream.eq3 _ _ _ _ _ _ _ _ (by simp only [spec_l4Stream.t3, ix_lt, ix_nn, ix_nat, dec_t hi, cond_true, e, Option.bind_some, bang_t, cond_false, dec_t h2, wrap_succ (show i < 9223372036854775807 by omega)]; exact hb)
  · cases ls.all (goodT c) <;> rfl
/-! ## A state that goes along a list -/
def scanL {α γ σ : Type} (f : σ → α → γ × σ) : σ → List α → List γ
  | _, [] => []
  | s, x :: r => (f s x).1 :: scanL f (f s x).2 r
theorem scanL_len {α γ σ : Type} (f : σ → α → γ × σ) : ∀ (l : List α) (s : σ), (scanL f s l).length = l.length
  | [], _ => rfl
  | x :: l, s => by simp only [scanL, List.length_cons, scanL_len f l]
theorem scanL_all {α γ σ : Type} (f : σ → α → γ × σ) (z : α) (l : List α) (I : Nat → σ → Prop) (P : γ → Prop) (h : ∀ i s, i < l.length → I i s → P (f s (l.getD i z)).1 ∧ I (i + 1) (f s (l.getD i z)).2) : ∀ s, I 0 s → ∀ x, x ∈ scanL f s l → P x := by
  have key : ∀ i, i ≤ l.length → ∀ s, I i s → ∀ x, x ∈ scanL f s (l.drop i) → P x := by
    refine upto ?_ ?_
    · intro s _ x hx
      rw [List.drop_length] at hx
      cases hx
    · intro i hi ih s hI x hx
      obtain ⟨h1, h2⟩ := h i s hi hI
      rw [drop_getD z hi] at hx
      rcases List.mem_cons.1 hx with rfl | hx
      · exact h1
      · exact ih _ h2 x hx
  intro s hI x hx
  exact key 0 (Nat.zero_le _) s hI x (by rw [List.drop_zero]; exact hx)
theorem scan_loop {α β γ γ' σ : Type} (f : σ → α → γ × σ) (z : α) (l : List α) (I : Nat → σ → Prop) (g : γ → γ') (L : List γ' → σ → Nat → Option β) (res : List γ' → Option β)
    (hI : ∀ i s, i < l.length → I i s → I (i + 1) (f s (l.getD i z)).2)
    (he : ∀ acc s b, acc.length ≤ l.length → res acc = some b → L acc s l.length = some b)
    (hs : ∀ acc s i b, i < l.length → acc.length ≤ i → I i s → L (acc ++ [g (f s (l.getD i z)).1]) (f s (l.getD i z)).2 (i + 1) = some b → L acc s i = some b) :
    ∀ s b, I 0 s → res ((scanL f s l).map g) = some b → L [] s 0 = some b := by
  have key : ∀ i, i ≤ l.length → ∀ acc s b, acc.length ≤ i → I i s → res (acc ++ (scanL f s (l.drop i)).map g) = some b → L acc s i = some b := by
    refine upto ?_ ?_
    · intro acc s b ha _ hb
      rw [List.drop_length, scanL, List.map_nil, List.append_nil] at hb
      exact he acc s b ha hb
    · intro i hi ih acc s b ha h hb
      rw [drop_getD z hi, scanL, List.map_cons, push_mid] at hb
      exact hs acc s i b hi ha h (ih _ _ b (by rw [List.length_append, List.length_singleton]; omega) (hI i s hi h) hb)
  intro s b h hb
  exact key 0 (Nat.zero_le _) [] s b (Nat.le_refl _) h (by rw [List.drop_zero]; exact hb)
theorem scaleL_one {l : List WRow} (h : ∀ w, w ∈ l → -1000000000 ≤ w.2 ∧ w.2 ≤ 1000000000) : scaleL 1 l = l := by
  induction l with
  | nil => rfl
  | cons w l ih =>
    have h1 := h w (by simp)
    have e : scaleG 1 w = [w] := by
      simp only [scaleG]
      rw [if_neg (by omega), Int.one_mul, wrap_id (by omega) (by omega)]
    rw [scaleL, List.flatMap_cons, e]
    have := ih fun x hx => h x (List.mem_cons_of_mem _ hx)
    rw [scaleL] at this
    rw [this]
    rfl
theorem all_map {c : Int} (ls : List (List WRow)) : (ls.map fun r => ((c, r) : Tab)).all (tabOK c) = ls.all (goodT c) := by
  induction ls with
  | nil => rfl
  | cons r ls ih =>
    rw [List.map_cons, List.all_cons, List.all_cons, ih]
    simp [tabOK]
theorem goodSt_map {c : Int} {ls : List (List WRow)} (hc : 0 ≤ c ∧ c ≤ 6) (hl : ls.length ≤ 12) : goodSt c (ls.map fun r => (c, r)) = ls.all (goodT c) := by
  have h1 : inB 0 6 c = true := inB_iff.2 hc
  have h2 : decide ((ls.map fun r => ((c, r) : Tab)).length ≤ 12) = true := dec_t (by rw [List.length_map]; exact hl)
  rw [goodSt, h1, h2, all_map]
  simp
end GoV

/- Streams summed and taken apart. -/
namespace GoV
open Go
/-- What a running sum keeps to. -/
structure SumOK (M : Int) (N : Nat) (l : List WRow) : Prop where
  put : PutOK M N l
  six : ∀ w, w ∈ l → w.1.length ≤ 6
  srt : sortedW l
  nz : nzW l
theorem SumOK.good {c : Int} {l : List WRow} (h : goodT c l = true) : SumOK 1000000 60 l := by
  obtain ⟨p1, p2, p3⟩ := goodT_put h
  exact ⟨p1, fun w hw => ((goodT_rows h).2 w hw).1, p2, p3⟩
theorem SumOK.nil : SumOK 0 0 [] := ⟨⟨Nat.le_refl _, fun _ h => (by cases h), fun _ h => (by cases h)⟩, fun _ h => (by cases h), .nil, fun _ h => (by cases h)⟩
theorem PutOK.mono' {M M' : Int} {N N' : Nat} {l : List WRow} (h : PutOK M N l) (hM : M ≤ M') (hN : N ≤ N') : PutOK M' N' l :=
  ⟨Nat.le_trans h.len hN, h.row, fun w hw => by have := h.wt w hw; omega⟩
theorem SumOK.mono {M M' : Int} {N N' : Nat} {l : List WRow} (h : SumOK M N l) (hM : M ≤ M') (hN : N ≤ N') : SumOK M' N' l := ⟨h.put.mono' hM hN, h.six, h.srt, h.nz⟩
theorem PutOK.puts' {m : Int} (hm : 0 ≤ m) : ∀ (b : List WRow) {M : Int} {N : Nat} {l : List WRow}, 0 ≤ M → PutOK M N l → (∀ w, w ∈ b → w.1.length ≤ 1073741824 ∧ (-m ≤ w.2 ∧ w.2 ≤ m)) → PutOK (M + m * (b.length : Int)) (N + b.length) (putsL l b)
  | [], M, N, l, hM, h, _ => by simpa [putsL] using h
  | w :: b, M, N, l, hM, h, hb => by
    obtain ⟨h1, h2⟩ := hb w (by simp)
    have k := PutOK.puts' hm b (by omega) (h.put h1 h2 hM hm) fun x hx => hb x (List.mem_cons_of_mem _ hx)
    have e : M + m + m * (b.length : Int) = M + m * ((w :: b).length : Int) := by
      rw [List.length_cons, Int.natCast_succ, Int.mul_add, Int.mul_one]; omega
    rw [e] at k
    exact k.mono' (Int.le_refl _) (by simp only [List.length_cons]; omega)
theorem SumOK.puts {M m : Int} {N n : Nat} {l b : List WRow} (h : SumOK M N l) (hM : 0 ≤ M) (hb : SumOK m n b) (hm : 0 ≤ m) : SumOK (M + m * (n : Int)) (N + n) (putsL l b) := by
  obtain ⟨r1, r2, _, r4, _⟩ := putsL_ok b h.srt h.nz
  have h1 : m * (b.length : Int) ≤ m * (n : Int) := Int.mul_le_mul_of_nonneg_left (by have := hb.put.len; omega) hm
  exact ⟨(PutOK.puts' hm b hM h.put fun w hw => ⟨hb.put.row w hw, hb.put.wt w hw⟩).mono' (by omega) (by have := hb.put.len; omega), fun w hw => (r4 w hw).elim (h.six w) fun ⟨u, hu, e⟩ => by rw [e]; exact hb.six u hu, r1, r2⟩
theorem SumOK.small {M : Int} {N : Nat} {l : List WRow} (h : SumOK M N l) (hN : N ≤ 1073741824) : l.length ≤ 1073741824 ∧ ∀ w, w ∈ l → w.1.length ≤ 1073741824 := ⟨Nat.le_trans h.put.len hN, h.put.row⟩
theorem spec_l2Add_gen {l b : List WRow} {M m : Int} {N n : Nat} (hM : 0 ≤ M) (hm : 0 ≤ m) (h1 : PutOK M N l) (h2 : PutOK m n b) (hN : N + n ≤ 1073741824) (hbig : M + m * (n : Int) + m ≤ 9223372036854775807) : spec_l2Add l b = some (putsL l b) := by
  have hbl := h2.len
  refine spec_l2Add.eq l b ?_
  simp only [spec_l2Add.t]
  refine puts_loop b ([], 0) (fun w => w.1) (fun w => w.2) (fun acc i => spec_l2Add.l3 acc b (b.length : Int) (i : Int)) some (M := M) (m := m) (N := N) hM hm h2.row h2.wt ?_ ?_ l _ h1 rfl
  · intro acc c _ hc
    exact spec_l2Add.eq3 _ _ _ _ (by simp only [spec_l2Add.t3, ix_lt, Nat.lt_irrefl, decide_false, cond_false]; exact hc)
  · intro acc i c hi ha hc
    have hx := getD_mem (([] : List Int), (0 : Int)) hi
    have h3 : m * (i : Int) ≤ m * (n : Int) := Int.mul_le_mul_of_nonneg_left (by omega) hm
    refine spec_l2Add.eq3 _ _ _ _ ?_
    simp only [spec_l2Add.t3, ix_lt, ix_nn, ix_nat, dec_t hi, cond_true, spec_l2Put_eq (Nat.le_trans ha.len (by omega)) ha.row (h2.row _ hx) (ha.wraps (m := m) (h2.wt _ hx) (by omega)), Option.bind_some, wrap_succ (show i < 9223372036854775807 by omega)]
    exact hc
theorem impl_summed_two {c M m : Int} {N n : Nat} {a b : List WRow} (ha : SumOK M N a) (hb : SumOK m n b) (hM : 0 ≤ M) (hm : m ≤ M) (hN : N + n ≤ 1073741824) (hbig : M * ((N + n : Nat) : Int) ≤ 9223372036854775807) : impl_summed c [a, b] = some (c, putsL a b) := by
  have hfl : [a, b].flatten = a ++ b := by simp
  have h1 := ha.put.len
  have h2 := hb.put.len
  have hfn : [a, b].flatten.length ≤ N + n := by rw [hfl, List.length_append]; omega
  have h3 : M * ([a, b].flatten.length : Int) ≤ M * ((N + n : Nat) : Int) := Int.mul_le_mul_of_nonneg_left (by omega) hM
  exact impl_summed_eq (c := c) (M := M) (ls := [a, b]) hfl (by simp) (by omega) (fun w hw => by
      rw [hfl] at hw
      exact (List.mem_append.1 hw).elim (ha.put.row w) (hb.put.row w)) hM (fun w hw => by
      rw [hfl] at hw
      exact (List.mem_append.1 hw).elim (ha.put.wt w) fun h => by have := hb.put.wt w h; omega) (by omega) ha.srt ha.nz
theorem impl_goodStreamOrNone_eq (c : Int) (l : List Tab) (hl : l.length ≤ 1073741824) (hr : ∀ t, t ∈ l → smallT t) : xi0g c l = some (bif goodSt c l then (c, l, true) else (0, [], false)) := by
  refine xi0g.eq c l ?_
  simp only [xi0g.t, impl_GoodStream_eq hl hr, Option.bind_some]
  cases goodSt c l <;> rfl
/-- Both ends of such a law. -/
theorem stream_end {c : Int} {ls : List (List WRow)} (hc : 0 ≤ c ∧ c ≤ 6) (hl : ls.length ≤ 12) (hr : ∀ r, r ∈ ls → r.length ≤ 1073741824 ∧ ∀ w, w ∈ r → w.1.length ≤ 1073741824) :
    ∃ (a : Int) (b : List Tab) (ok : Bool), spec_l4Stream c ls = some (a, b, ok) ∧ xi0g c (ls.map fun r => (c, r)) = some (a, b, ok) ∧ szT streamTy (a, b) ≤ 1073741824 := by
  have e1 := spec_l4Stream_eq c ls (by omega) hr
  have e2 := impl_goodStreamOrNone_eq c (ls.map fun r => (c, r)) (by rw [List.length_map]; omega) (fun t ht => by
    obtain ⟨r, h, rfl⟩ := List.mem_map.1 ht
    exact hr r h)
  rw [goodSt_map hc hl] at e2
  cases hg : ls.all (goodT c) with
  | false =>
    rw [hg] at e1 e2
    exact ⟨0, [], false, e1, e2, stream_none⟩
  | true =>
    rw [hg] at e1 e2
    exact ⟨c, _, true, e1, e2, stream_size (fun r h => List.all_eq_true.1 hg r h) hl⟩
end GoV

/- Differentiate: the program's answer is the specification's. -/
namespace GoV
open Go
def difF (last : List WRow) (t : Tab) : List WRow × List WRow := (putsL t.2 (scaleL (-1) last), t.2)
theorem SumOK.neg {c : Int} {l : List WRow} (h : goodT c l = true) : SumOK 1000000 60 (scaleL (-1) l) := by
  rw [scaleL_neg h]
  obtain ⟨_, h2⟩ := goodT_rows h
  exact SumOK.good (goodT_kept h fun w hw => by have := (h2 w hw).2.1; omega)
theorem FnExactDifferentiate_same (v0 : Int) (v1 : List (Int × List (List Int × Int))) (w0 : WfT (.pair (.int .i64) (.sl (.pair (.int .i64) (.sl (.pair (.sl (.int .i64)) (.int .i64)))))) (v0, v1)) (hz0 : szT (.pair (.int .i64) (.sl (.pair (.int .i64) (.sl (.pair (.sl (.int .i64)) (.int .i64)))))) (v0, v1) ≤ 1048576) :
    ∃ (a : Int) (b : List (Int × List (List Int × Int))) (ok : Bool), spec_Differentiate v0 v1 = some (a, b, ok) ∧ impl_Differentiate v0 v1 = some (a, b, ok) ∧ szT (.pair (.int .i64) (.sl (.pair (.int .i64) (.sl (.pair (.sl (.int .i64)) (.int .i64)))))) (a, b) ≤ 1073741824 := by
  obtain ⟨hl, hr⟩ := stream_small hz0
  have e1 := spec_GoodStream_eq (c := v0) hl hr
  have e2 := impl_GoodStream_eq (c := v0) hl hr
  cases hg : goodSt v0 v1 with
  | false => exact ⟨0, [], false, spec_Differentiate.eq _ _ (by simp only [spec_Differentiate.t, e1, hg, Option.bind_some, bang_f, cond_true]), impl_Differentiate.eq _ _ (by simp only [impl_Differentiate.t, e2, hg, Option.bind_some, bang_f, cond_true]), stream_none⟩
  | true =>
    have hgg := hg
    simp only [goodSt, Bool.and_eq_true, decide_eq_true_eq, inB_iff] at hg
    obtain ⟨⟨hc, h12⟩, hall⟩ := hg
    have hgt : ∀ t, t ∈ v1 → goodT v0 t.2 = true ∧ t.1 = v0 := fun t ht => tabOK_iff.1 (List.all_eq_true.1 hall t ht)
    have hstep : ∀ i (s : List WRow), i < v1.length → goodT v0 s = true → goodT v0 (v1.getD i ((0 : Int), [])).2 = true := fun i s hi hs => (hgt _ (getD_mem ((0 : Int), []) hi)).1
    have hsm := scanL_all difF ((0 : Int), []) v1 (fun i s => goodT v0 s = true) (fun r => r.length ≤ 1073741824 ∧ ∀ w, w ∈ r → w.1.length ≤ 1073741824) (fun i s hi hs => ⟨((SumOK.good (hstep i s hi hs)).puts (by omega) (SumOK.neg hs) (by omega)).small (by omega), hstep i s hi hs⟩) [] (goodT_nil hc)
    have hlen := scanL_len difF v1 []
    obtain ⟨a, b, ok, k1, k2, k3⟩ := stream_end (c := v0) (ls := scanL difF [] v1) hc (by omega) hsm
    refine ⟨a, b, ok, spec_Differentiate.eq _ _ ?_, impl_Differentiate.eq _ _ ?_, k3⟩
    · simp only [spec_Differentiate.t, e1, hgg, Option.bind_some, bang_t, cond_false]
      refine scan_loop difF ((0 : Int), []) v1 (fun i s => goodT v0 s = true) (fun r => r) (fun acc s i => spec_Differentiate.l6 v0 v1 0 [] acc s v1 (v1.length : Int) (i : Int)) (fun acc => (spec_l4Stream v0 acc).bind fun r1 => some (r1.fst, r1.snd.fst, r1.snd.snd)) hstep ?_ ?_ [] _ (goodT_nil hc) ?_
      · intro acc s b _ hb
        exact spec_Differentiate.eq6 _ _ _ _ _ _ _ _ _ (by simp only [spec_Differentiate.t6, ix_lt, Nat.lt_irrefl, decide_false, cond_false]; exact hb)
      · intro acc s i b hi ha hs hb
        obtain ⟨g1, g2⟩ := (SumOK.good hs).small (by omega)
        have e3 := spec_l2Scale_eq s (-1) g1
        have e4 := spec_l2Add_gen (by omega) (by omega) (SumOK.good (hstep i s hi hs)).put (SumOK.neg hs).put (by omega) (by omega)
        have h2 : acc.length + [putsL (v1.getD i ((0 : Int), [])).2 (scaleL (-1) s)].length ≤ 4294967296 := by simp only [List.length_cons, List.length_nil]; omega
        refine spec_Differentiate.eq6 _ _ _ _ _ _ _ _ _ ?_
        simp only [spec_Differentiate.t6, ix_lt, ix_nn, ix_nat, dec_t hi, cond_true, e3, e4, Option.bind_some, dec_t h2, wrap_succ (show i < 9223372036854775807 by omega)]
        exact hb
      · rw [List.map_id', k1]; rfl
    · simp only [impl_Differentiate.t, e2, hgg, Option.bind_some, bang_t, cond_false]
      refine scan_loop difF ((0 : Int), []) v1 (fun i s => goodT v0 s = true) (fun r => ((v0, r) : Tab)) (fun acc s i => impl_Differentiate.l5 v0 v1 0 [] v0 acc v0 s v1 (v1.length : Int) (i : Int)) (fun acc => (xi0g v0 acc).bind fun r3 => some (r3.fst, r3.snd.fst, r3.snd.snd)) hstep ?_ ?_ [] _ (goodT_nil hc) (by rw [k2]; rfl)
      · intro acc s b _ hb
        exact impl_Differentiate.eq5 _ _ _ _ _ _ _ _ _ _ _ (by simp only [impl_Differentiate.t5, ix_lt, Nat.lt_irrefl, decide_false, cond_false]; exact hb)
      · intro acc s i b hi ha hs hb
        obtain ⟨g1, g2⟩ := (SumOK.good hs).small (by omega)
        have e3 := impl_Table_scaled_eq v0 s (-1) g1 g2
        have e4 := impl_summed_two (c := v0) (SumOK.good (hstep i s hi hs)) (SumOK.neg hs) (by omega) (by omega) (by omega) (by omega)
        have e5 := (hgt _ (getD_mem ((0 : Int), []) hi)).2
        have h2 : acc.length + [(v0, putsL (v1.getD i ((0 : Int), [])).2 (scaleL (-1) s))].length ≤ 4294967296 := by simp only [List.length_cons, List.length_nil]; omega
        refine impl_Differentiate.eq5 _ _ _ _ _ _ _ _ _ _ _ ?_
        simp only [impl_Differentiate.t5, ix_lt, ix_nn, ix_nat, dec_t hi, cond_true, e3, e4, Option.bind_some, dec_t h2, e5, wrap_succ (show i < 9223372036854775807 by omega)]
        exact hb
end GoV

/- FnExactDifferentiate: the law out of its core. -/
namespace GoV
open Go
theorem FnExactDifferentiate_true (v0 : Int) (v1 : List (Int × List (List Int × Int))) (w0 : WfT (.pair (.int .i64) (.sl (.pair (.int .i64) (.sl (.pair (.sl (.int .i64)) (.int .i64)))))) (v0, v1)) : xl0h v0 v1 = some true := by
  obtain ⟨left1, e1, a1, b1z⟩ := laws_szStream_ok (v0) (v1) ((1048576 : Int)) w0 (by omega) (by omega)
  by_cases n1 : left1 < 0
  · exact xl0h.eq v0 v1 (by simp only [xl0h.t, e1, dec_t n1, cond_true, cond_false, Option.bind_some])
  have z1a := b1z (by omega)
  have hz0 : szT (.pair (.int .i64) (.sl (.pair (.int .i64) (.sl (.pair (.sl (.int .i64)) (.int .i64)))))) (v0, v1) ≤ 1048576 := by omega
  obtain ⟨ga, gb, gc, hspec, himpl, hsm⟩ := FnExactDifferentiate_same v0 v1 w0 hz0
  -- the answer is small
  have e2 := laws_toStream_id (v0) (v1) (by omega)
  have e4 := laws_toStream_id (v0) (v1) (by omega)
  have e6 := laws_eqStream_rf (ga) (gb) (by first | omega | (simp only [szT] at *; omega))
  have e7 := laws_toStream_id (v0) (v1) (by omega)
  have e8 := laws_eqStream_rf (v0) (v1) (by first | omega | (simp only [szT] at *; omega))
  have q9 := cntT_le (T := (.pair (.int .i64) (.sl (.pair (.int .i64) (.sl (.pair (.sl (.int .i64)) (.int .i64))))))) (v0, v1) rfl
  simp only [Ty.size] at q9
  have e9 := xl0l_ok (v0) (v1) ((1 : Int)) (by omega) (by omega) (by omega)
  have p9 := mrT_cnt (.pair (.int .i64) (.sl (.pair (.int .i64) (.sl (.pair (.sl (.int .i64)) (.int .i64)))))) (v0, v1) (1 : Int)
  have g9 : ¬ (mrT (.pair (.int .i64) (.sl (.pair (.int .i64) (.sl (.pair (.sl (.int .i64)) (.int .i64)))))) (v0, v1) (1 : Int)).2 < 0 := by omega
  have e10 := laws_eqStream_rf (ga) (gb) (by first | omega | (simp only [szT] at *; omega))
  have q11 := cntT_le (T := (.pair (.int .i64) (.sl (.pair (.int .i64) (.sl (.pair (.sl (.int .i64)) (.int .i64))))))) (ga, gb) rfl
  simp only [Ty.size] at q11
  have e11 := xl0l_ok (ga) (gb) ((1 : Int)) (by omega) (by omega) (by omega)
  have p11 := mrT_cnt (.pair (.int .i64) (.sl (.pair (.int .i64) (.sl (.pair (.sl (.int .i64)) (.int .i64)))))) (ga, gb) (1 : Int)
  have g11 : ¬ (mrT (.pair (.int .i64) (.sl (.pair (.int .i64) (.sl (.pair (.sl (.int .i64)) (.int .i64)))))) (ga, gb) (1 : Int)).2 < 0 := by omega
  have e12 : laws_heldStream (ga) ((mrT (.pair (.int .i64) (.sl (.pair (.int .i64) (.sl (.pair (.sl (.int .i64)) (.int .i64)))))) (ga, gb) (1 : Int)).1.2) ((1 : Int)) = some (mrT (.pair (.int .i64) (.sl (.pair (.int .i64) (.sl (.pair (.sl (.int .i64)) (.int .i64)))))) (ga, gb) (1 : Int)).2 := laws_heldStream_ok (ga) (gb) (1 : Int) (by omega) (by omega) (by omega)
  have e13 := laws_toStream_id (v0) (v1) (by omega)
  have e15 := laws_eqStream_rf (ga) (gb) (by first | omega | (simp only [szT] at *; omega))
  have e16 : laws_heldStream (ga) ((mrT (.pair (.int .i64) (.sl (.pair (.int .i64) (.sl (.pair (.sl (.int .i64)) (.int .i64)))))) (ga, gb) (1 : Int)).1.2) ((1 : Int)) = some (mrT (.pair (.int .i64) (.sl (.pair (.int .i64) (.sl (.pair (.sl (.int .i64)) (.int .i64)))))) (ga, gb) (1 : Int)).2 := laws_heldStream_ok (ga) (gb) (1 : Int) (by omega) (by omega) (by omega)
  refine xl0h.eq v0 v1 ?_
  simp only [xl0h.t, e1, dec_f n1, e2, e4, e6, e7, e8, e9, dec_f g9, e10, e11, dec_f g11, e12, e13, e15, e16, hspec, himpl, cond_true, cond_false, Option.bind_some, bne_ref, beq_ref, bang_t]
end GoV
