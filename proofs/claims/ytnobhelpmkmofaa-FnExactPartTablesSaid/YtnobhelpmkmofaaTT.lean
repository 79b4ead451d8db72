/- A part of the proof of FnExactPartTables: an interpreter of the model over plain data, its soundness, and what it makes of the functions that the statement reaches. Conditions: none beyond what the given statement itself says. -/
import Derived.Test.YtnobhelpmkmofaaTS
set_option linter.unusedVariables false
set_option linter.unusedSimpArgs false
set_option linter.unnecessarySimpa false
set_option linter.unusedSectionVars false
/- The library's stable sort of rows with weights. -/
namespace GoV
open Go
def Rows (d : List WRow) : Prop := ∀ w, w ∈ d → w.1.length ≤ 1073741824
theorem Rows.perm {d d' : List WRow} (h : Rows d) (hp : d'.Perm d) : Rows d' := fun w hw => h w (hp.mem_iff.1 hw)
open Classical in
/-- An answer that counts where the rows are no longer than they were. -/
noncomputable def gd {β : Type} (d : List WRow) (x : Option β) : Option β := if Rows d then x else none
theorem gd_some {β : Type} {d : List WRow} {x : Option β} {r : β} : gd d x = some r ↔ Rows d ∧ x = some r := by
  unfold gd
  split
  · rename_i h; exact ⟨fun e => ⟨h, e⟩, fun e => e.2⟩
  · rename_i h; exact ⟨fun e => (by cases e), fun e => absurd e.1 h⟩
theorem gd_swap {d : List WRow} {i j : Nat} (hi : i < d.length) (hj : j < d.length) (h : Rows (swapL ([], 0) d i j)) : Rows d := h.perm (swapL_perm hi hj).symm
theorem impl_summed_1_eq (a : List Int) (n : Int) (b : List Int) (m : Int) (ha : a.length ≤ 1073741824) (hb : b.length ≤ 1073741824) : impl_summed_1 a n b m = some (cmpL a b) := impl_summed_1.eq _ _ _ _ (by simp only [impl_summed_1.t, impl_compareRows_eq _ _ ha hb, Option.bind_some])
theorem gt_dec (i j : Nat) : decide ((i : Int) > (j : Int)) = decide (j < i) := ix_lt j i
theorem ins_ok {d : List WRow} {a b : Nat} (hb : b ≤ d.length) (hl : d.length ≤ 1073741824) (hr : Rows d) (ha : a ≤ 1073741824) :
    ∃ d', xs03 d (a : Int) (b : Int) = some d' ∧ Mv ([], 0) d d' a b ∧ SortS ([], 0) ltW d' a b := by
  refine Exists.elim (ins_outer (z := (([] : List Int), (0 : Int))) ltW_ord ltW_asym (a := a) (b := b) (N := d.length) hb
    (fun d i => gd d (xs03.l1 d (a : Int) (b : Int) (i : Int)))
    (fun i d j => gd d (xs03.l4 d (a : Int) (b : Int) (i : Int) (j : Int))) (fun d => gd d (some d)) ?_ ?_ ?_ ?_ ?_ _ (a + 1) d rfl (by omega) rfl (.one (by omega))) ?_
  · intro d i r h hx
    obtain ⟨g1, g2⟩ := gd_some.1 hx
    exact gd_some.2 ⟨g1, xs03.eq1 _ _ _ _ (by simp only [xs03.t1, ix_lt, dec_f (show ¬ i < b by omega), cond_false]; exact g2)⟩
  · intro d i r h1 h2 _ hx
    obtain ⟨g1, g2⟩ := gd_some.1 hx
    exact gd_some.2 ⟨g1, xs03.eq1 _ _ _ _ (by simp only [xs03.t1, ix_lt, dec_t h2, cond_true]; exact g2)⟩
  · intro d i r h1 hx
    obtain ⟨g1, g2⟩ := gd_some.1 hx
    exact gd_some.2 ⟨g1, xs03.eq4 _ _ _ _ _ (by simp only [xs03.t4, gt_dec, Nat.lt_irrefl, decide_false, cond_false, wrap_succ (show i < 9223372036854775807 by omega)]; exact g2)⟩
  · intro d1 i j r h1 h2 h3 h4 h5 hx
    obtain ⟨g1, g2⟩ := gd_some.1 hx
    have hj : j < d1.length := by omega
    have hj1 : j - 1 < d1.length := by omega
    have hc : decide (cmpL (d1.getD j ([], 0)).1 (d1.getD (j - 1) ([], 0)).1 < 0) = false := h5
    exact gd_some.2 ⟨g1, xs03.eq4 _ _ _ _ _ (by
      simp only [xs03.t4, gt_dec, dec_t h1, wrap_pred (show 0 < j by omega) (show j < 9223372036854775807 by omega), ix_nn, ix_nat, dec_t hj, dec_t hj1, cond_true, impl_summed_1_eq _ _ _ _ (g1 _ (getD_mem ([], 0) hj)) (g1 _ (getD_mem ([], 0) hj1)), Option.bind_some, hc, cond_false, wrap_succ (show i < 9223372036854775807 by omega)]
      exact g2)⟩
  · intro d1 i j r h1 h2 h3 h4 h5 hx
    obtain ⟨g1, g2⟩ := gd_some.1 hx
    have hj : j < d1.length := by omega
    have hj1 : j - 1 < d1.length := by omega
    have g1 := gd_swap hj hj1 g1
    have hc : decide (cmpL (d1.getD j ([], 0)).1 (d1.getD (j - 1) ([], 0)).1 < 0) = true := h5
    have hs : ∀ x : WRow, decide (j - 1 < (d1.set j x).length) = true := fun x => by rw [List.length_set]; exact dec_t hj1
    exact gd_some.2 ⟨g1, xs03.eq4 _ _ _ _ _ (by
      simp only [xs03.t4, gt_dec, dec_t h1, wrap_pred (show 0 < j by omega) (show j < 9223372036854775807 by omega), ix_nn, ix_nat, dec_t hj, dec_t hj1, cond_true, impl_summed_1_eq _ _ _ _ (g1 _ (getD_mem ([], 0) hj)) (g1 _ (getD_mem ([], 0) hj1)), Option.bind_some, hc, hs]
      exact g2)⟩
  · rintro d' ⟨h1, h2, h3⟩
    refine ⟨d', ?_, h1, h2⟩
    have := (gd_some.1 (h3 d' (gd_some.2 ⟨hr.perm h1.perm, rfl⟩))).2
    exact xs03.eq _ _ _ (by simp only [xs03.t, wrap_succ (show a < 9223372036854775807 by omega)]; exact this)
theorem w_add {i j : Nat} (h : i + j < 4611686018427387904) : IntKind.i64.wrap ((i : Int) + (j : Int)) = ((i + j : Nat) : Int) := by rw [wrap_id] <;> omega
theorem w_sub {i j : Nat} (h : j ≤ i) (h2 : i < 4611686018427387904) : IntKind.i64.wrap ((i : Int) - (j : Int)) = ((i - j : Nat) : Int) := by rw [wrap_id] <;> omega
theorem swapRange_ok {d : List WRow} {a b n : Nat} (h2 : b + n ≤ d.length) (h3 : a + n ≤ d.length) (hl : d.length ≤ 1073741824) :
    xs05 d (a : Int) (b : Int) (n : Int) = some (swapR ([], 0) n d a b) := by
  refine xs05.eq _ _ _ _ ?_
  simp only [xs05.t]
  refine swap_loop (z := (([] : List Int), (0 : Int))) (n := n) (a := a) (b := b) (N := d.length) (fun d i => xs05.l1 d (a : Int) (b : Int) (n : Int) (i : Int)) some ?_ ?_ n 0 d rfl rfl (Nat.zero_le _) _ rfl
  · intro d1 r _ hx
    exact xs05.eq1 _ _ _ _ _ (by simp only [xs05.t1, ix_lt, Nat.lt_irrefl, decide_false, cond_false]; exact hx)
  · intro d1 i r hi hd hx
    have ha : a + i < d1.length := by omega
    have hb : b + i < d1.length := by omega
    have hs : ∀ x : WRow, decide (b + i < (d1.set (a + i) x).length) = true := fun x => by rw [List.length_set]; exact dec_t hb
    exact xs05.eq1 _ _ _ _ _ (by
      simp only [xs05.t1, ix_lt, dec_t hi, cond_true, w_add (show a + i < 4611686018427387904 by omega), w_add (show b + i < 4611686018427387904 by omega), ix_nn, ix_nat, dec_t ha, dec_t hb, hs, wrap_succ (show i < 9223372036854775807 by omega)]
      exact hx)
theorem rotate_ok {d : List WRow} {a m b : Nat} (ha : a < m) (hb : m < b) (hbl : b ≤ d.length) (hl : d.length ≤ 1073741824) :
    ∃ d', xs08 d (a : Int) (m : Int) (b : Int) = some d' ∧ Mv ([], 0) d d' a b ∧ RotF (fun k => d.getD k ([], 0)) (fun k => d'.getD k ([], 0)) a m b := by
  refine Exists.elim (rot_loop (z := (([] : List Int), (0 : Int))) (m := m) (N := d.length) (fun d i j => xs08.l2 d (m : Int) (i : Int) (j : Int)) some ?_ ?_ ?_ _ (m - a) (b - m) d rfl (by omega) (by omega) (by omega) (by omega) rfl) ?_
  · intro d1 i r h1 h2 h3 h4 hx
    refine xs08.eq2 _ _ _ _ ?_
    have e := swapRange_ok (d := d1) (a := m - i) (b := m) (n := i) (by omega) (by omega) (by omega)
    simp only [xs08.t2, bne_ref, cond_false, w_sub (show i ≤ m by omega) (show m < 4611686018427387904 by omega), e, Option.bind_some]
    exact hx
  · intro d1 i j r h1 h2 h3 h4 h5 hx
    refine xs08.eq2 _ _ _ _ ?_
    have e := swapRange_ok (d := d1) (a := m - i) (b := m) (n := j) (by omega) (by omega) (by omega)
    simp only [xs08.t2, bneI, dec_f (show ¬ i = j by omega), bang_f, cond_true, gt_dec, dec_t h1, w_sub (show i ≤ m by omega) (show m < 4611686018427387904 by omega), e, Option.bind_some, w_sub (show j ≤ i by omega) (show i < 4611686018427387904 by omega)]
    exact hx
  · intro d1 i j r h1 h2 h3 h4 h5 hx
    refine xs08.eq2 _ _ _ _ ?_
    have e := swapRange_ok (d := d1) (a := m - i) (b := m + j - i) (n := i) (by omega) (by omega) (by omega)
    simp only [xs08.t2, bneI, dec_f (show ¬ i = j by omega), bang_f, cond_true, cond_false, gt_dec, dec_f (show ¬ j < i by omega), w_sub (show i ≤ m by omega) (show m < 4611686018427387904 by omega), w_add (show m + j < 4611686018427387904 by omega), w_sub (show i ≤ m + j by omega) (show m + j < 4611686018427387904 by omega), e, Option.bind_some, w_sub (show i ≤ j by omega) (show j < 4611686018427387904 by omega)]
    exact hx
  · rintro d' ⟨h1, h2, h3⟩
    rw [show m - (m - a) = a by omega, show m + (b - m) = b by omega] at h1 h2
    refine ⟨d', xs08.eq _ _ _ _ ?_, h1, h2⟩
    simp only [xs08.t, w_sub (show a ≤ m by omega) (show m < 4611686018427387904 by omega), w_sub (show m ≤ b by omega) (show b < 4611686018427387904 by omega)]
    exact h3 d' rfl
end GoV

/- The weight of a row: by binary search, and one by one. -/
namespace GoV
open Go
def weightP (l : List WRow) (r : List Int) : Int := match l.find? (fun w => cmpL w.1 r == 0) with | some w => w.2 | none => 0
/-- The middle of two numbers, as Go reckons it. -/
theorem mid_nat (i j : Nat) (h : i + j < 4611686018427387904) : IntKind.i64.wrap ((IntKind.u64.wrap (IntKind.i64.wrap ((i : Int) + (j : Int)))).fdiv ((2 : Int) ^ Min.min (Int.toNat (1 : Int)) IntKind.u64.bits)) = (((i + j) / 2 : Nat) : Int) := by
  have e1 : IntKind.i64.wrap ((i : Int) + (j : Int)) = ((i + j : Nat) : Int) := by rw [wrap_id] <;> omega
  have e2 : IntKind.u64.wrap ((i + j : Nat) : Int) = ((i + j : Nat) : Int) := by
    have : IntKind.u64.wrap ((i + j : Nat) : Int) = ((i + j : Nat) : Int) % 18446744073709551616 := by simp [IntKind.wrap, IntKind.bits, IntKind.signed]
    rw [this]
    omega
  have e3 : Min.min (Int.toNat (1 : Int)) IntKind.u64.bits = 1 := rfl
  rw [e1, e2, e3, Int.pow_one, Int.fdiv_eq_ediv_of_nonneg _ (by omega)]
  rw [wrap_id] <;> omega
section
variable {l : List WRow} {r : List Int} (hl : l.length ≤ 1073741824) (hr : ∀ w, w ∈ l → w.1.length ≤ 1073741824) (hx : r.length ≤ 1073741824) (hs : sortedW l)
include hl hr hx hs
end
end GoV

/- The library's stable sort of rows with weights: merging in place, and all of it. -/
namespace GoV
open Go
theorem RotF.none {f : Nat → WRow} {s m t : Nat} (h : s = m ∨ t = m) (h1 : s ≤ m) (h2 : m ≤ t) : RotF f f s m t := by
  intro k
  by_cases c1 : s ≤ k ∧ k < s + (t - m)
  · rw [if_pos c1]; congr 1; omega
  · rw [if_neg c1]
    by_cases c2 : s + (t - m) ≤ k ∧ k < t
    · rw [if_pos c2]; congr 1; omega
    · rw [if_neg c2]
theorem one_eq (i j : Nat) (h : j ≤ i) (h2 : i < 4611686018427387904) : (IntKind.i64.wrap ((i : Int) - (j : Int)) == (1 : Int)) = decide (i - j = 1) := by
  rw [w_sub h h2]
  by_cases e : i - j = 1
  · rw [e]; rfl
  · rw [dec_f e]
    exact beq_eq_false_iff_ne.2 (by omega)
abbrev zW : WRow := ([], 0)
/-- One element alone to the left. -/
theorem sym_left {d : List WRow} {a b : Nat} (hab : a + 1 < b) (hb : b ≤ d.length) (hl : d.length ≤ 1073741824) (hr : Rows d) (hs : SortS zW ltW d (a + 1) b) :
    ∃ d', xs07 d (a : Int) ((a + 1 : Nat) : Int) (b : Int) = some d' ∧ Mv zW d d' a b ∧ SortS zW ltW d' a b := by
  have hmono : ∀ h k, a + 1 ≤ k → k ≤ h → h < b → ltW (d.getD h zW) (d.getD a zW) = true → ltW (d.getD k zW) (d.getD a zW) = true := by
    intro h k h1 h2 h3 h4
    cases e : ltW (d.getD k zW) (d.getD a zW) with
    | true => rfl
    | false =>
      have := ltW_ord.tr _ _ _ e (hs.le ltW_ord h1 h2 h3)
      rw [this] at h4; cases h4
  refine Exists.elim (bs_loop (p := fun h => ltW (d.getD h zW) (d.getD a zW)) (lo := a + 1) (hi := b) hmono (fun i j => xs07.l3 d (a : Int) (i : Int) (j : Int)) (fun q => xs07.l9 d (q : Int) (a : Int)) ?_ ?_ ?_ _ (a + 1) b rfl (Nat.le_refl _) (by omega) (Nat.le_refl _) (fun k h1 h2 => by omega) (fun k h1 h2 => by omega)) ?_
  · intro i r h1 h2 hx
    exact xs07.eq3 _ _ _ _ (by simp only [xs07.t3, ix_lt, Nat.lt_irrefl, decide_false, cond_false]; exact hx)
  · intro i j r h1 h2 h3 h4 hx
    have hm := mid_nat i j (by omega)
    have hh : (i + j) / 2 < d.length := by omega
    have hal : a < d.length := by omega
    have hc : decide (cmpL (d.getD ((i + j) / 2) ([], 0)).1 (d.getD a ([], 0)).1 < 0) = true := h4
    refine xs07.eq3 _ _ _ _ ?_
    simp only [xs07.t3, ix_lt, dec_t h1, cond_true, hm, ix_nn, ix_nat, dec_t hh, dec_t hal, impl_summed_1_eq _ _ _ _ (hr _ (getD_mem ([], 0) hh)) (hr _ (getD_mem ([], 0) hal)), Option.bind_some, hc, wrap_succ (show (i + j) / 2 < 9223372036854775807 by omega)]
    exact hx
  · intro i j r h1 h2 h3 h4 hx
    have hm := mid_nat i j (by omega)
    have hh : (i + j) / 2 < d.length := by omega
    have hal : a < d.length := by omega
    have hc : decide (cmpL (d.getD ((i + j) / 2) ([], 0)).1 (d.getD a ([], 0)).1 < 0) = false := h4
    refine xs07.eq3 _ _ _ _ ?_
    simp only [xs07.t3, ix_lt, dec_t h1, cond_true, hm, ix_nn, ix_nat, dec_t hh, dec_t hal, impl_summed_1_eq _ _ _ _ (hr _ (getD_mem ([], 0) hh)) (hr _ (getD_mem ([], 0) hal)), Option.bind_some, hc, cond_false]
    exact hx
  · rintro q ⟨q1, q2, q3, q4, q5⟩
    refine Exists.elim (up_loop (z := zW) (e := q - 1) (N := d.length) (by omega) (fun d k => xs07.l9 d (q : Int) (k : Int)) some ?_ ?_ _ a d rfl (by omega) rfl) ?_
    · intro d1 r _ hx
      refine xs07.eq9 _ _ _ ?_
      simp only [xs07.t9, wrap_pred (show 0 < q by omega) (show q < 9223372036854775807 by omega), ix_lt, Nat.lt_irrefl, decide_false, cond_false]
      exact hx
    · intro d1 k r h1 h2 hx
      have hk : k < d1.length := by omega
      have hk1 : k + 1 < d1.length := by omega
      have hset : ∀ x : WRow, decide (k + 1 < (d1.set k x).length) = true := fun x => by rw [List.length_set]; exact dec_t hk1
      refine xs07.eq9 _ _ _ ?_
      simp only [xs07.t9, wrap_pred (show 0 < q by omega) (show q < 9223372036854775807 by omega), ix_lt, dec_t h1, cond_true, wrap_succ (show k < 9223372036854775807 by omega), ix_nn, ix_nat, dec_t hk, dec_t hk1, hset]
      exact hx
    · rintro d' ⟨k1, k2, k3⟩
      refine ⟨d', xs07.eq _ _ _ _ ?_, k1.mono (Nat.le_refl _) (by omega), ?_⟩
      · simp only [xs07.t, one_eq _ _ (show a ≤ a + 1 by omega) (show a + 1 < 4611686018427387904 by omega), dec_t (show a + 1 - a = 1 by omega), cond_true]
        exact q5 _ (k3 d' rfl)
      · refine sort_up (i := q) ltW_asym hs (by omega) q2 (fun k h1 h2 => q3 k (by omega) h2) (fun k h1 h2 => q4 k h1 h2) ?_
        intro k
        exact k2 k
/-- One element alone to the right. -/
theorem sym_right {d : List WRow} {a m : Nat} (ham : a + 1 < m) (hb : m + 1 ≤ d.length) (hl : d.length ≤ 1073741824) (hr : Rows d) (hs : SortS zW ltW d a m) :
    ∃ d', xs07 d (a : Int) (m : Int) ((m + 1 : Nat) : Int) = some d' ∧ Mv zW d d' a (m + 1) ∧ SortS zW ltW d' a (m + 1) := by
  have hmono : ∀ h k, a ≤ k → k ≤ h → h < m → (!ltW (d.getD m zW) (d.getD h zW)) = true → (!ltW (d.getD m zW) (d.getD k zW)) = true := by
    intro h k h1 h2 h3 h4
    have h4' : ltW (d.getD m zW) (d.getD h zW) = false := by simpa using h4
    have := ltW_ord.tr _ _ _ (hs.le ltW_ord h1 h2 h3) h4'
    rw [this]; rfl
  refine Exists.elim (bs_loop (p := fun h => !ltW (d.getD m zW) (d.getD h zW)) (lo := a) (hi := m) hmono (fun i j => xs07.l15 d (m : Int) (i : Int) (j : Int)) (fun q => xs07.l21 d (q : Int) (m : Int)) ?_ ?_ ?_ _ a m rfl (Nat.le_refl _) (by omega) (Nat.le_refl _) (fun k h1 h2 => by omega) (fun k h1 h2 => by omega)) ?_
  · intro i r h1 h2 hx
    exact xs07.eq15 _ _ _ _ (by simp only [xs07.t15, ix_lt, Nat.lt_irrefl, decide_false, cond_false]; exact hx)
  · intro i j r h1 h2 h3 h4 hx
    have hm := mid_nat i j (by omega)
    have hh : (i + j) / 2 < d.length := by omega
    have hal : m < d.length := by omega
    have hc : decide (cmpL (d.getD m ([], 0)).1 (d.getD ((i + j) / 2) ([], 0)).1 < 0) = false := by simpa [ltW] using h4
    refine xs07.eq15 _ _ _ _ ?_
    simp only [xs07.t15, ix_lt, dec_t h1, cond_true, hm, ix_nn, ix_nat, dec_t hh, dec_t hal, impl_summed_1_eq _ _ _ _ (hr _ (getD_mem ([], 0) hal)) (hr _ (getD_mem ([], 0) hh)), Option.bind_some, hc, bang_f, wrap_succ (show (i + j) / 2 < 9223372036854775807 by omega)]
    exact hx
  · intro i j r h1 h2 h3 h4 hx
    have hm := mid_nat i j (by omega)
    have hh : (i + j) / 2 < d.length := by omega
    have hal : m < d.length := by omega
    have hc : decide (cmpL (d.getD m ([], 0)).1 (d.getD ((i + j) / 2) ([], 0)).1 < 0) = true := by simpa [ltW] using h4
    refine xs07.eq15 _ _ _ _ ?_
    simp only [xs07.t15, ix_lt, dec_t h1, cond_true, cond_false, hm, ix_nn, ix_nat, dec_t hh, dec_t hal, impl_summed_1_eq _ _ _ _ (hr _ (getD_mem ([], 0) hal)) (hr _ (getD_mem ([], 0) hh)), Option.bind_some, hc, bang_t]
    exact hx
  · rintro q ⟨q1, q2, q3, q4, q5⟩
    refine Exists.elim (down_loop (z := zW) (e := q) (N := d.length) (fun d k => xs07.l21 d (q : Int) (k : Int)) some ?_ ?_ _ m d rfl q2 (by omega) rfl) ?_
    · intro d1 r _ hx
      refine xs07.eq21 _ _ _ ?_
      simp only [xs07.t21, gt_dec, Nat.lt_irrefl, decide_false, cond_false]
      exact hx
    · intro d1 k r h1 h1' h2 hx
      have hk : k < d1.length := by omega
      have hk1 : k - 1 < d1.length := by omega
      have hset : ∀ x : WRow, decide (k - 1 < (d1.set k x).length) = true := fun x => by rw [List.length_set]; exact dec_t hk1
      refine xs07.eq21 _ _ _ ?_
      simp only [xs07.t21, gt_dec, dec_t h1, cond_true, wrap_pred (show 0 < k by omega) (show k < 9223372036854775807 by omega), ix_nn, ix_nat, dec_t hk, dec_t hk1, hset]
      exact hx
    · rintro d' ⟨k1, k2, k3⟩
      refine ⟨d', xs07.eq _ _ _ _ ?_, k1.mono q1 (Nat.le_refl _), ?_⟩
      · simp only [xs07.t, one_eq _ _ (show a ≤ m by omega) (show m < 4611686018427387904 by omega), dec_f (show ¬ m - a = 1 by omega), cond_false, one_eq _ _ (show m ≤ m + 1 by omega) (show m + 1 < 4611686018427387904 by omega), dec_t (show m + 1 - m = 1 by omega), cond_true]
        exact q5 _ (k3 d' rfl)
      · refine sort_down (i := q) ltW_asym hs q1 q2 (fun k h1 h2 => by simpa using q3 k h1 h2) (fun k h1 h2 => by simpa using q4 k h1 h2) ?_
        intro k
        exact k2 k
end GoV

/- The library's stable sort of rows with weights: merging in place. -/
namespace GoV
open Go
theorem sym_ok : ∀ (n : Nat) (d : List WRow) (a m b : Nat), b - a = n → a < m → m < b → b ≤ d.length → d.length ≤ 1073741824 → Rows d → SortS zW ltW d a m → SortS zW ltW d m b →
    ∃ d', xs07 d (a : Int) (m : Int) (b : Int) = some d' ∧ Mv zW d d' a b ∧ SortS zW ltW d' a b := by
  intro n
  induction n using Nat.strongRecOn with
  | ind n ih =>
    intro d a m b hn ham hmb hb hl hr h1 h2
    by_cases e1 : m = a + 1
    · subst e1
      exact sym_left (by omega) hb hl hr h2
    by_cases e2 : b = m + 1
    · subst e2
      exact sym_right (by omega) hb hl hr h1
    obtain ⟨mid, hmid⟩ : ∃ mid, mid = (a + b) / 2 := ⟨_, rfl⟩
    obtain ⟨s0, hs0⟩ : ∃ s0, s0 = if m > mid then mid + m - b else a := ⟨_, rfl⟩
    obtain ⟨r0, hr0⟩ : ∃ r0, r0 = if m > mid then mid else m := ⟨_, rfl⟩
    have hbd : ∀ c, s0 ≤ c → c < r0 → (a ≤ c ∧ c < m) ∧ m ≤ mid + m - 1 - c ∧ mid + m - 1 - c < b := by
      intro c g1 g2
      split at hs0 <;> split at hr0 <;> omega
    have hsr : s0 ≤ r0 ∧ r0 < 1073741824 := by
      split at hs0 <;> split at hr0 <;> omega
    have hmono : ∀ h k, s0 ≤ k → k ≤ h → h < r0 → (!ltW (d.getD (mid + m - 1 - h) zW) (d.getD h zW)) = true → (!ltW (d.getD (mid + m - 1 - k) zW) (d.getD k zW)) = true := by
      intro h k g1 g2 g3 g4
      have g4' : ltW (d.getD (mid + m - 1 - h) zW) (d.getD h zW) = false := by simpa using g4
      obtain ⟨⟨k1, k2⟩, k3, k4⟩ := hbd k g1 (by omega)
      obtain ⟨⟨k5, k6⟩, k7, k8⟩ := hbd h (by omega) g3
      have := ltW_ord.tr _ _ _ (ltW_ord.tr _ _ _ (h1.le ltW_ord k1 g2 k6) g4') (h2.le ltW_ord k7 (show mid + m - 1 - h ≤ mid + m - 1 - k by omega) k4)
      rw [this]; rfl
    refine Exists.elim (bs_loop (p := fun c => !ltW (d.getD (mid + m - 1 - c) zW) (d.getD c zW)) (lo := s0) (hi := r0) hmono
      (fun i j => xs07.l33 d (a : Int) (m : Int) (b : Int) (mid : Int) ((mid + m : Nat) : Int) (i : Int) (j : Int) ((mid + m - 1 : Nat) : Int))
      (fun q => xs07.l33 d (a : Int) (m : Int) (b : Int) (mid : Int) ((mid + m : Nat) : Int) (q : Int) (q : Int) ((mid + m - 1 : Nat) : Int)) (fun i r _ _ h => h) ?_ ?_ _ s0 r0 rfl (Nat.le_refl _) hsr.1 (Nat.le_refl _) (fun k h1 h2 => by omega) (fun k h1 h2 => by omega)) ?_
    · intro i j r g1 g2 g3 g4 hx
      obtain ⟨⟨k1, k2⟩, k3, k4⟩ := hbd ((i + j) / 2) (by omega) (by omega)
      have hm := mid_nat i j (by omega)
      have hh : (i + j) / 2 < d.length := by omega
      have hal : mid + m - 1 - (i + j) / 2 < d.length := by omega
      have hc : decide (cmpL (d.getD (mid + m - 1 - (i + j) / 2) ([], 0)).1 (d.getD ((i + j) / 2) ([], 0)).1 < 0) = false := by simpa [ltW] using g4
      refine xs07.eq33 _ _ _ _ _ _ _ _ _ ?_
      simp only [xs07.t33, ix_lt, dec_t g1, cond_true, hm, w_sub (show (i + j) / 2 ≤ mid + m - 1 by omega) (show mid + m - 1 < 4611686018427387904 by omega), ix_nn, ix_nat, dec_t hh, dec_t hal, impl_summed_1_eq _ _ _ _ (hr _ (getD_mem ([], 0) hal)) (hr _ (getD_mem ([], 0) hh)), Option.bind_some, hc, bang_f, wrap_succ (show (i + j) / 2 < 9223372036854775807 by omega)]
      exact hx
    · intro i j r g1 g2 g3 g4 hx
      obtain ⟨⟨k1, k2⟩, k3, k4⟩ := hbd ((i + j) / 2) (by omega) (by omega)
      have hm := mid_nat i j (by omega)
      have hh : (i + j) / 2 < d.length := by omega
      have hal : mid + m - 1 - (i + j) / 2 < d.length := by omega
      have hc : decide (cmpL (d.getD (mid + m - 1 - (i + j) / 2) ([], 0)).1 (d.getD ((i + j) / 2) ([], 0)).1 < 0) = true := by simpa [ltW] using g4
      refine xs07.eq33 _ _ _ _ _ _ _ _ _ ?_
      simp only [xs07.t33, ix_lt, dec_t g1, cond_true, cond_false, hm, w_sub (show (i + j) / 2 ≤ mid + m - 1 by omega) (show mid + m - 1 < 4611686018427387904 by omega), ix_nn, ix_nat, dec_t hh, dec_t hal, impl_summed_1_eq _ _ _ _ (hr _ (getD_mem ([], 0) hal)) (hr _ (getD_mem ([], 0) hh)), Option.bind_some, hc, bang_t]
      exact hx
    · rintro s ⟨q1, q2, q3, q4, q5⟩
      obtain ⟨t, ht⟩ : ∃ t, t = mid + m - s := ⟨_, rfl⟩
      have hst : a ≤ s ∧ s ≤ m ∧ m ≤ t ∧ t ≤ b ∧ s ≤ mid ∧ mid ≤ t := by
        split at hs0 <;> split at hr0 <;> omega
      obtain ⟨b1, b2, b3, b4, b5, b6⟩ := hst
      -- the rotation
      obtain ⟨e, he1, he2, he3, he4⟩ : ∃ e, Mv zW d e a b ∧ RotF (fun k => d.getD k zW) (fun k => e.getD k zW) s m t ∧ (s < m ∧ m < t → xs08 d (s : Int) (m : Int) (t : Int) = some e) ∧ (¬ (s < m ∧ m < t) → e = d) := by
        by_cases c : s < m ∧ m < t
        · obtain ⟨e, k1, k2, k3⟩ := rotate_ok (d := d) c.1 c.2 (by omega) hl
          exact ⟨e, k2.mono b1 b4, k3, fun _ => k1, fun h => absurd c h⟩
        · exact ⟨d, .refl _ _ _, RotF.none (by omega) b2 b3, fun h => absurd h c, fun _ => rfl⟩
      obtain ⟨_, x1, x2, x3, x4, x5⟩ := sym_halves ltW_ord ltW_asym hmid ham hmb h1 h2 hs0 hr0 q1 q2 ht (fun c g1 g2 => by simpa using q3 c g1 g2) (fun c g1 g2 => by simpa using q4 c g1 g2) he2
      have hel : e.length = d.length := he1.len
      have her : Rows e := hr.perm he1.perm
      -- the left half
      obtain ⟨f, hf1, hf2, hf3, hf4⟩ : ∃ f, Mv zW e f a mid ∧ SortS zW ltW f a mid ∧ (a < s ∧ s < mid → xs07 e (a : Int) (s : Int) (mid : Int) = some f) ∧ (¬ (a < s ∧ s < mid) → f = e) := by
        by_cases c : a < s ∧ s < mid
        · obtain ⟨f, k1, k2, k3⟩ := ih (mid - a) (by omega) e a s mid rfl c.1 c.2 (by omega) (by omega) her x1 x2
          exact ⟨f, k2, k3, fun _ => k1, fun h => absurd c h⟩
        · refine ⟨e, .refl _ _ _, ?_, fun h => absurd h c, fun _ => rfl⟩
          by_cases c2 : a = s
          · rw [c2]; exact x2
          · have : s = mid := by omega
            rw [← this]; exact x1
      have hfl : f.length = e.length := hf1.len
      have hfr : Rows f := her.perm hf1.perm
      have hout : ∀ k, mid ≤ k → f.getD k zW = e.getD k zW := fun k hk => hf1.out k (.inr hk)
      have y3 : SortS zW ltW f mid t := x3.congr fun k g _ => hout k g
      have y4 : SortS zW ltW f t b := x4.congr fun k g _ => hout k (by omega)
      -- the right half
      obtain ⟨g, hg1, hg2, hg3, hg4⟩ : ∃ g, Mv zW f g mid b ∧ SortS zW ltW g mid b ∧ (mid < t ∧ t < b → xs07 f (mid : Int) (t : Int) (b : Int) = some g) ∧ (¬ (mid < t ∧ t < b) → g = f) := by
        by_cases c : mid < t ∧ t < b
        · obtain ⟨g, k1, k2, k3⟩ := ih (b - mid) (by omega) f mid t b rfl c.1 c.2 (by omega) (by omega) hfr y3 y4
          exact ⟨g, k2, k3, fun _ => k1, fun h => absurd c h⟩
        · refine ⟨f, .refl _ _ _, ?_, fun h => absurd h c, fun _ => rfl⟩
          by_cases c2 : mid = t
          · rw [c2]; exact y4
          · have : t = b := by omega
            rw [← this]; exact y3
      have hmidb : a < mid ∧ mid < b := by omega
      have hfg : Mv zW e g a b := (hf1.mono (Nat.le_refl _) (by omega)).trans (hg1.mono (by omega) (Nat.le_refl _))
      have hin : ∀ k, k < mid → g.getD k zW = f.getD k zW := fun k hk => hg1.out k (.inl hk)
      refine ⟨g, ?_, he1.trans hfg, ?_⟩
      · refine xs07.eq _ _ _ _ ?_
        have hm := mid_nat a b (by omega)
        rw [← hmid] at hm
        have hres : xs07.l33 d (a : Int) (m : Int) (b : Int) (mid : Int) ((mid + m : Nat) : Int) (s : Int) (s : Int) ((mid + m - 1 : Nat) : Int) = some g := by
          refine xs07.eq33 _ _ _ _ _ _ _ _ _ ?_
          have hsub : IntKind.i64.wrap (((mid + m : Nat) : Int) - (s : Int)) = (t : Int) := by rw [w_sub (by omega) (by omega), ht]
          simp only [xs07.t33, ix_lt, Nat.lt_irrefl, decide_false, cond_false, hsub]
          by_cases c1 : s < m ∧ m < t
          · have z1 := he3 c1
            simp only [dec_t c1.1, dec_t c1.2, cond_true, z1, Option.bind_some]
            by_cases c2 : a < s ∧ s < mid
            · have z2 := hf3 c2
              simp only [dec_t c2.1, dec_t c2.2, cond_true, z2, Option.bind_some]
              by_cases c3 : mid < t ∧ t < b
              · simp only [dec_t c3.1, dec_t c3.2, cond_true, hg3 c3, Option.bind_some]
              · rw [hg4 c3]
                by_cases c4 : mid < t
                · simp only [dec_t c4, dec_f (show ¬ t < b from fun h => c3 ⟨c4, h⟩), cond_true, cond_false]
                · simp only [dec_f c4, cond_false]
            · have z2 := hf4 c2
              subst z2
              by_cases c5 : a < s
              · simp only [dec_t c5, dec_f (show ¬ s < mid from fun h => c2 ⟨c5, h⟩), cond_true, cond_false]
                by_cases c3 : mid < t ∧ t < b
                · simp only [dec_t c3.1, dec_t c3.2, cond_true, hg3 c3, Option.bind_some]
                · rw [hg4 c3]
                  by_cases c4 : mid < t
                  · simp only [dec_t c4, dec_f (show ¬ t < b from fun h => c3 ⟨c4, h⟩), cond_true, cond_false]
                  · simp only [dec_f c4, cond_false]
              · simp only [dec_f c5, cond_false]
                by_cases c3 : mid < t ∧ t < b
                · simp only [dec_t c3.1, dec_t c3.2, cond_true, hg3 c3, Option.bind_some]
                · rw [hg4 c3]
                  by_cases c4 : mid < t
                  · simp only [dec_t c4, dec_f (show ¬ t < b from fun h => c3 ⟨c4, h⟩), cond_true, cond_false]
                  · simp only [dec_f c4, cond_false]
          · have z1 := he4 c1
            subst z1
            have hno : (decide (s < m) && decide (m < t)) = false := by
              by_cases c6 : s < m
              · rw [dec_f (show ¬ m < t from fun h => c1 ⟨c6, h⟩), Bool.and_false]
              · rw [dec_f c6, Bool.false_and]
            by_cases c6 : s < m
            · simp only [dec_t c6, dec_f (show ¬ m < t from fun h => c1 ⟨c6, h⟩), cond_true, cond_false]
              by_cases c2 : a < s ∧ s < mid
              · have z2 := hf3 c2
                simp only [dec_t c2.1, dec_t c2.2, cond_true, z2, Option.bind_some]
                by_cases c3 : mid < t ∧ t < b
                · simp only [dec_t c3.1, dec_t c3.2, cond_true, hg3 c3, Option.bind_some]
                · rw [hg4 c3]
                  by_cases c4 : mid < t
                  · simp only [dec_t c4, dec_f (show ¬ t < b from fun h => c3 ⟨c4, h⟩), cond_true, cond_false]
                  · simp only [dec_f c4, cond_false]
              · have z2 := hf4 c2
                subst z2
                by_cases c5 : a < s
                · simp only [dec_t c5, dec_f (show ¬ s < mid from fun h => c2 ⟨c5, h⟩), cond_true, cond_false]
                  by_cases c3 : mid < t ∧ t < b
                  · simp only [dec_t c3.1, dec_t c3.2, cond_true, hg3 c3, Option.bind_some]
                  · rw [hg4 c3]
                    by_cases c4 : mid < t
                    · simp only [dec_t c4, dec_f (show ¬ t < b from fun h => c3 ⟨c4, h⟩), cond_true, cond_false]
                    · simp only [dec_f c4, cond_false]
                · simp only [dec_f c5, cond_false]
                  by_cases c3 : mid < t ∧ t < b
                  · simp only [dec_t c3.1, dec_t c3.2, cond_true, hg3 c3, Option.bind_some]
                  · rw [hg4 c3]
                    by_cases c4 : mid < t
                    · simp only [dec_t c4, dec_f (show ¬ t < b from fun h => c3 ⟨c4, h⟩), cond_true, cond_false]
                    · simp only [dec_f c4, cond_false]
            · simp only [dec_f c6, cond_false]
              by_cases c2 : a < s ∧ s < mid
              · have z2 := hf3 c2
                simp only [dec_t c2.1, dec_t c2.2, cond_true, z2, Option.bind_some]
                by_cases c3 : mid < t ∧ t < b
                · simp only [dec_t c3.1, dec_t c3.2, cond_true, hg3 c3, Option.bind_some]
                · rw [hg4 c3]
                  by_cases c4 : mid < t
                  · simp only [dec_t c4, dec_f (show ¬ t < b from fun h => c3 ⟨c4, h⟩), cond_true, cond_false]
                  · simp only [dec_f c4, cond_false]
              · have z2 := hf4 c2
                subst z2
                by_cases c5 : a < s
                · simp only [dec_t c5, dec_f (show ¬ s < mid from fun h => c2 ⟨c5, h⟩), cond_true, cond_false]
                  by_cases c3 : mid < t ∧ t < b
                  · simp only [dec_t c3.1, dec_t c3.2, cond_true, hg3 c3, Option.bind_some]
                  · rw [hg4 c3]
                    by_cases c4 : mid < t
                    · simp only [dec_t c4, dec_f (show ¬ t < b from fun h => c3 ⟨c4, h⟩), cond_true, cond_false]
                    · simp only [dec_f c4, cond_false]
                · simp only [dec_f c5, cond_false]
                  by_cases c3 : mid < t ∧ t < b
                  · simp only [dec_t c3.1, dec_t c3.2, cond_true, hg3 c3, Option.bind_some]
                  · rw [hg4 c3]
                    by_cases c4 : mid < t
                    · simp only [dec_t c4, dec_f (show ¬ t < b from fun h => c3 ⟨c4, h⟩), cond_true, cond_false]
                    · simp only [dec_f c4, cond_false]
        have hq := q5 _ hres
        have hn : IntKind.i64.wrap ((mid : Int) + (m : Int)) = ((mid + m : Nat) : Int) := w_add (by omega)
        have hp : IntKind.i64.wrap (((mid + m : Nat) : Int) - (1 : Int)) = ((mid + m - 1 : Nat) : Int) := wrap_pred (by omega) (by omega)
        simp only [xs07.t, one_eq _ _ (show a ≤ m by omega) (show m < 4611686018427387904 by omega), dec_f (show ¬ m - a = 1 by omega), cond_false, one_eq _ _ (show m ≤ b by omega) (show b < 4611686018427387904 by omega), dec_f (show ¬ b - m = 1 by omega), hm, hn, hp, gt_dec]
        by_cases c : m > mid
        · rw [if_pos c] at hs0 hr0
          have hs : IntKind.i64.wrap (((mid + m : Nat) : Int) - (b : Int)) = (s0 : Int) := by rw [w_sub (by omega) (by omega), hs0]
          simp only [dec_t (show mid < m from c), cond_true, hs]
          rw [hr0] at hq
          exact hq
        · rw [if_neg c] at hs0 hr0
          simp only [dec_f (show ¬ mid < m from c), cond_false]
          rw [hs0, hr0] at hq
          exact hq
      · refine sym_join (mid := mid) hfg (fun k g1 g2 => ?_) (fun k g1 g2 => ?_) (hf2.congr fun k _ g2 => hin k g2) hg2 x5
        · obtain ⟨j, k1, k2, k3⟩ := hf1.from' k g1 g2
          exact ⟨j, k1, k2, by rw [hin k g2]; exact k3⟩
        · obtain ⟨j, k1, k2, k3⟩ := hg1.from' k g1 g2
          exact ⟨j, k1, k2, by rw [k3]; exact hout j k1⟩
end GoV

/- The library's stable sort of rows with weights: blocks sorted, then merged. -/
namespace GoV
open Go
/-- The first A blocks of s are sorted, each in itself. -/
def LoB (d : List WRow) (s A n : Nat) : Prop := ∀ q, q < A → q * s < n → SortS zW ltW d (q * s) (min (q * s + s) n)
/-- The blocks from the A-th on. -/
def HiB (d : List WRow) (s A n : Nat) : Prop := ∀ q, A ≤ q → q * s < n → SortS zW ltW d (q * s) (min (q * s + s) n)
theorem mul_le_of_lt {q A s : Nat} (h : q < A) : q * s + s ≤ A * s := by
  have := Nat.mul_le_mul_right s (show q + 1 ≤ A by omega)
  rwa [Nat.succ_mul] at this
theorem LoB.keep {d d' : List WRow} {s A n a b : Nat} (h : LoB d s A n) (hm : Mv zW d d' a b) (ha : A * s ≤ a) : LoB d' s A n := fun q h1 h2 =>
  (h q h1 h2).congr fun k _ g2 => hm.out k (.inl (by have := mul_le_of_lt (s := s) h1; omega))
theorem HiB.keep {d d' : List WRow} {s A n a b : Nat} (h : HiB d s A n) (hm : Mv zW d d' a b) (hb : b ≤ A * s) : HiB d' s A n := fun q h1 h2 =>
  (h q h1 h2).congr fun k g1 _ => hm.out k (.inr (by have := Nat.mul_le_mul_right s h1; omega))
theorem blocks_ok {n : Nat} {β : Type} (L : List WRow → Nat → Option β) (K : List WRow → Option β) (hn : n ≤ 1073741824)
    (hs : ∀ d d' A r, d.length = n → Rows d → A * 20 + 20 ≤ n → xs03 d ((A * 20 : Nat) : Int) ((A * 20 + 20 : Nat) : Int) = some d' → L d' (A + 1) = some r → L d A = some r)
    (he : ∀ d d' A r, d.length = n → Rows d → A * 20 ≤ n → n < A * 20 + 20 → xs03 d ((A * 20 : Nat) : Int) (n : Int) = some d' → K d' = some r → L d A = some r) :
    ∀ m A d, n - A * 20 = m → A * 20 ≤ n → d.length = n → Rows d → LoB d 20 A n → ∃ d' B, Mv zW d d' 0 n ∧ LoB d' 20 B n ∧ n < B * 20 ∧ ∀ r, K d' = some r → L d A = some r := by
  intro m
  induction m using Nat.strongRecOn with
  | ind m ih =>
    intro A d hm hA hd hr hlo
    by_cases c : A * 20 + 20 ≤ n
    · obtain ⟨d1, k1, k2, k3⟩ := ins_ok (d := d) (a := A * 20) (b := A * 20 + 20) (by omega) (by omega) hr (by omega)
      have hlo1 : LoB d1 20 (A + 1) n := by
        intro q h1 h2
        by_cases e : q < A
        · exact (hlo.keep k2 (Nat.le_refl _)) q e h2
        · obtain rfl : q = A := by omega
          rw [Nat.min_eq_left c]
          exact k3
      obtain ⟨d', B, g1, g2, g3, g4⟩ := ih (n - (A + 1) * 20) (by omega) (A + 1) d1 rfl (by omega) (k2.len.trans hd) (hr.perm k2.perm) hlo1
      exact ⟨d', B, (k2.mono (by omega) c).trans g1, g2, g3, fun r hr' => hs d d1 A r hd hr c k1 (g4 r hr')⟩
    · obtain ⟨d1, k1, k2, k3⟩ := ins_ok (d := d) (a := A * 20) (b := n) (by omega) (by omega) hr (by omega)
      refine ⟨d1, A + 1, k2.mono (by omega) (Nat.le_refl _), ?_, by omega, fun r hr' => he d d1 A r hd hr hA (by omega) k1 hr'⟩
      intro q h1 h2
      by_cases e : q < A
      · exact (hlo.keep k2 (Nat.le_refl _)) q e h2
      · obtain rfl : q = A := by omega
        rw [Nat.min_eq_right (by omega)]
        exact k3
theorem twice (A s : Nat) : 2 * A * s = A * (2 * s) := by rw [Nat.mul_comm 2 A, Nat.mul_assoc]
theorem twice1 (A s : Nat) : (2 * A + 1) * s = A * (2 * s) + s := by rw [Nat.succ_mul, twice]
theorem twice2 (A s : Nat) : 2 * (A + 1) * s = A * (2 * s) + 2 * s := by rw [twice, Nat.succ_mul]
theorem merges_ok {n s : Nat} {β : Type} (hs0 : 0 < s) (L : List WRow → Nat → Option β) (K : List WRow → Option β) (hn : n ≤ 1073741824)
    (hs : ∀ d d' A r, d.length = n → Rows d → A * (2 * s) + 2 * s ≤ n → xs07 d ((A * (2 * s) : Nat) : Int) ((A * (2 * s) + s : Nat) : Int) ((A * (2 * s) + 2 * s : Nat) : Int) = some d' → L d' (A + 1) = some r → L d A = some r)
    (he1 : ∀ d d' A r, d.length = n → Rows d → n < A * (2 * s) + 2 * s → A * (2 * s) + s < n → xs07 d ((A * (2 * s) : Nat) : Int) ((A * (2 * s) + s : Nat) : Int) (n : Int) = some d' → K d' = some r → L d A = some r)
    (he2 : ∀ d A r, d.length = n → Rows d → A * (2 * s) ≤ n → n ≤ A * (2 * s) + s → K d = some r → L d A = some r) :
    ∀ m A d, n - A * (2 * s) = m → A * (2 * s) ≤ n → d.length = n → Rows d → LoB d (2 * s) A n → HiB d s (2 * A) n → ∃ d', Mv zW d d' 0 n ∧ HiB d' (2 * s) 0 n ∧ ∀ r, K d' = some r → L d A = some r := by
  intro m
  induction m using Nat.strongRecOn with
  | ind m ih =>
    intro A d hm hA hd hr hlo hhi
    have hfin : ∀ d' : List WRow, LoB d' (2 * s) (A + 1) n → n ≤ A * (2 * s) + 2 * s → HiB d' (2 * s) 0 n := by
      intro d' h hle q _ h2
      refine h q ?_ h2
      rcases Nat.lt_or_ge q (A + 1) with g | g
      · exact g
      · have := Nat.mul_le_mul_right (2 * s) g
        rw [Nat.succ_mul] at this
        omega
    have h1 : A * (2 * s) < n → SortS zW ltW d (A * (2 * s)) (min (A * (2 * s) + s) n) := fun h => by
      have := hhi (2 * A) (Nat.le_refl _) (by rw [twice]; exact h)
      rwa [twice] at this
    have h2 : A * (2 * s) + s < n → SortS zW ltW d (A * (2 * s) + s) (min (A * (2 * s) + 2 * s) n) := fun h => by
      have := hhi (2 * A + 1) (by omega) (by rw [twice1]; exact h)
      rw [twice1] at this
      rwa [show A * (2 * s) + s + s = A * (2 * s) + 2 * s by omega] at this
    by_cases c : A * (2 * s) + 2 * s ≤ n
    · have g1 := h1 (by omega)
      have g2 := h2 (by omega)
      rw [Nat.min_eq_left (by omega)] at g1 g2
      obtain ⟨d1, k1, k2, k3⟩ := sym_ok _ d (A * (2 * s)) (A * (2 * s) + s) (A * (2 * s) + 2 * s) rfl (by omega) (by omega) (by omega) (by omega) hr g1 g2
      have hlo1 : LoB d1 (2 * s) (A + 1) n := by
        intro q h1 h2
        by_cases e : q < A
        · exact (hlo.keep k2 (Nat.le_refl _)) q e h2
        · obtain rfl : q = A := by omega
          rw [Nat.min_eq_left c]
          exact k3
      have hhi1 : HiB d1 s (2 * (A + 1)) n := HiB.keep (A := 2 * (A + 1)) (fun q h1 h2 => hhi q (by omega) h2) k2 (by rw [twice2]; exact Nat.le_refl _)
      obtain ⟨d', g3, g4, g5⟩ := ih (n - (A + 1) * (2 * s)) (by rw [Nat.succ_mul]; omega) (A + 1) d1 rfl (by rw [Nat.succ_mul]; exact c) (k2.len.trans hd) (hr.perm k2.perm) hlo1 hhi1
      exact ⟨d', (k2.mono (by omega) c).trans g3, g4, fun r hr' => hs d d1 A r hd hr c k1 (g5 r hr')⟩
    · by_cases c2 : A * (2 * s) + s < n
      · have g1 := h1 (by omega)
        have g2 := h2 c2
        rw [Nat.min_eq_left (by omega)] at g1
        rw [Nat.min_eq_right (by omega)] at g2
        obtain ⟨d1, k1, k2, k3⟩ := sym_ok _ d (A * (2 * s)) (A * (2 * s) + s) n rfl (by omega) (by omega) (by omega) (by omega) hr g1 g2
        refine ⟨d1, k2.mono (by omega) (Nat.le_refl _), hfin d1 ?_ (by omega), fun r hr' => he1 d d1 A r hd hr (by omega) c2 k1 hr'⟩
        intro q h1 h2
        by_cases e : q < A
        · exact (hlo.keep k2 (Nat.le_refl _)) q e h2
        · obtain rfl : q = A := by omega
          rw [Nat.min_eq_right (by omega)]
          exact k3
      · refine ⟨d, .refl _ _ _, hfin d ?_ (by omega), fun r hr' => he2 d A r hd hr hA (by omega) hr'⟩
        intro q g1 g2
        by_cases e : q < A
        · exact hlo q e g2
        · obtain rfl : q = A := by omega
          have := h1 g2
          rw [Nat.min_eq_right (by omega)] at this ⊢
          exact this
end GoV

/- The library's stable sort of rows with weights. -/
namespace GoV
open Go
theorem double_ok {n : Nat} (hn : n ≤ 1073741824) : ∀ (m s : Nat) (d : List WRow), n - s = m → 0 < s → s ≤ 2147483648 → d.length = n → Rows d → HiB d s 0 n →
    ∃ d', xs09.l7 d (n : Int) (s : Int) = some d' ∧ Mv zW d d' 0 n ∧ SortS zW ltW d' 0 n := by
  intro m
  induction m using Nat.strongRecOn with
  | ind m ih =>
    intro s d hm hs0 hs hd hr hB
    by_cases c : s < n
    · have hd2 : IntKind.i64.wrap ((2 : Int) * (s : Int)) = ((2 * s : Nat) : Int) := by rw [wrap_id] <;> omega
      have hd3 : IntKind.i64.wrap ((s : Int) * (2 : Int)) = ((2 * s : Nat) : Int) := by rw [wrap_id] <;> omega
      refine Exists.elim (merges_ok (n := n) (s := s) hs0 (fun d A => xs09.l9 d (n : Int) (s : Int) ((A * (2 * s) : Nat) : Int) ((A * (2 * s) + 2 * s : Nat) : Int)) (fun d => xs09.l7 d (n : Int) ((2 * s : Nat) : Int)) hn ?_ ?_ ?_ _ 0 d rfl (by omega) hd hr (fun q h => by omega) hB) ?_
      · intro d1 d2 A r h1 h2 h3 h4 hx
        refine xs09.eq9 _ _ _ _ _ ?_
        have hle : ((A * (2 * s) + 2 * s : Nat) : Int) ≤ (n : Int) := by omega
        simp only [xs09.t9, dec_t hle, cond_true, w_add (show A * (2 * s) + s < 4611686018427387904 by omega), h4, Option.bind_some, hd2, w_add (show A * (2 * s) + 2 * s + 2 * s < 4611686018427387904 by omega)]
        rw [Nat.succ_mul] at hx
        exact hx
      · intro d1 d2 A r h1 h2 h3 h3' h4 hx
        refine xs09.eq9 _ _ _ _ _ ?_
        have hle : ¬ ((A * (2 * s) + 2 * s : Nat) : Int) ≤ (n : Int) := by omega
        simp only [xs09.t9, dec_f hle, cond_false, w_add (show A * (2 * s) + s < 4611686018427387904 by omega), ix_lt, dec_t h3', cond_true, h4, Option.bind_some, hd3]
        exact hx
      · intro d1 A r h1 h2 h3 h3' hx
        refine xs09.eq9 _ _ _ _ _ ?_
        have hle : ¬ ((A * (2 * s) + 2 * s : Nat) : Int) ≤ (n : Int) := by omega
        simp only [xs09.t9, dec_f hle, cond_false, w_add (show A * (2 * s) + s < 4611686018427387904 by omega), ix_lt, dec_f (show ¬ A * (2 * s) + s < n by omega), hd3]
        exact hx
      · rintro d1 ⟨k1, k2, k3⟩
        obtain ⟨d', g1, g2, g3⟩ := ih (n - 2 * s) (by omega) (2 * s) d1 rfl (by omega) (by omega) (k1.len.trans hd) (hr.perm k1.perm) k2
        refine ⟨d', xs09.eq7 _ _ _ ?_, k1.trans g2, g3⟩
        have := k3 d' g1
        simp only [Nat.zero_mul, Nat.zero_add] at this
        simp only [xs09.t7, ix_lt, dec_t c, cond_true, hd2]
        exact this
    · refine ⟨d, xs09.eq7 _ _ _ ?_, .refl _ _ _, ?_⟩
      · simp only [xs09.t7, ix_lt, dec_f c, cond_false]
      · intro i j h1 h2 h3
        have := hB 0 (Nat.le_refl _) (by omega)
        rw [Nat.zero_mul, Nat.zero_add, Nat.min_eq_right (by omega)] at this
        exact this i j h1 h2 h3
theorem sort_ok {d : List WRow} (hl : d.length ≤ 1073741824) (hr : Rows d) :
    ∃ d', xs00 d = some d' ∧ d'.Perm d ∧ SortS zW ltW d' 0 d'.length := by
  refine Exists.elim (blocks_ok (n := d.length) (fun d1 A => xs09.l2 d1 (d.length : Int) 20 ((A * 20 : Nat) : Int) ((A * 20 + 20 : Nat) : Int)) (fun d1 => xs09.l7 d1 (d.length : Int) 20) hl ?_ ?_ _ 0 d rfl (by omega) rfl hr (fun q h => by omega)) ?_
  · intro d1 d2 A r h1 h2 h3 h4 hx
    refine xs09.eq2 _ _ _ _ _ ?_
    have hle : ((A * 20 + 20 : Nat) : Int) ≤ (d.length : Int) := by omega
    have hw : IntKind.i64.wrap (((A * 20 + 20 : Nat) : Int) + (20 : Int)) = (((A + 1) * 20 + 20 : Nat) : Int) := by rw [wrap_id] <;> omega
    have e : (A + 1) * 20 = A * 20 + 20 := by omega
    simp only [xs09.t2, dec_t hle, cond_true, h4, Option.bind_some, hw]
    rw [← e]
    exact hx
  · intro d1 d2 A r h1 h2 h3 h3' h4 hx
    refine xs09.eq2 _ _ _ _ _ ?_
    have hle : ¬ ((A * 20 + 20 : Nat) : Int) ≤ (d.length : Int) := by omega
    simp only [xs09.t2, dec_f hle, cond_false, h4, Option.bind_some]
    exact hx
  · rintro d1 ⟨B, k1, k2, k3, k4⟩
    have hB : HiB d1 20 0 d.length := fun q _ h2 => k2 q (by omega) h2
    obtain ⟨d', g1, g2, g3⟩ := double_ok hl _ 20 d1 rfl (by omega) (by omega) k1.len (hr.perm k1.perm) hB
    have hm := k1.trans g2
    refine ⟨d', xs00.eq _ ?_, hm.perm, by rw [hm.len]; exact g3⟩
    have h2 := k4 d' g1
    have h3 := xs09.eq d (d.length : Int) (b := d') (by simp only [xs09.t]; exact h2)
    simp only [xs00.t, h3, Option.bind_some]
end GoV

/- A table handed on if it is good. -/
namespace GoV
open Go
theorem xi0o_eq (c : Int) (l : List WRow) (hl : l.length ≤ 1073741824) (hr : ∀ w, w ∈ l → w.1.length ≤ 1073741824) : xi0o c l = some (bif goodT c l then (c, l, true) else (0, [], false)) := by
  refine xi0o.eq c l ?_
  simp only [xi0o.t, impl_GoodTable_eq hl hr, Option.bind_some]
  cases goodT c l <;> rfl
end GoV

/- Lists of rows summed: what the program's 'summed' gives. -/
namespace GoV
open Go
theorem impl_summed_eq {c M : Int} {ls : List (List WRow)} {a b : List WRow} (he : ls.flatten = a ++ b) (hn : ls.length ≤ 1073741824) (hl : ls.flatten.length ≤ 1073741824) (hr : Rows ls.flatten) (hM : 0 ≤ M) (hw : ∀ w, w ∈ ls.flatten → -M ≤ w.2 ∧ w.2 ≤ M) (hbig : M * (ls.flatten.length : Int) ≤ 9223372036854775807)
    (h1 : sortedW a) (h2 : nzW a) : impl_summed c ls = some (c, putsL a b) := by
  have e1 := slices_Concat_W_eq ls hl hn
  obtain ⟨d, e2, hp, hs⟩ := sort_ok (d := ls.flatten) hl hr
  have hlen : d.length = ls.flatten.length := hp.length_eq
  have e3 := (groups_ok (d := d) (c := c) (M := M) (by omega) (hr.perm hp) hM (fun w hw' => hw w (hp.mem_iff.1 hw')) (by rw [hlen]; exact hbig) 0 (Nat.zero_le _)).1 [] (by simp)
  rw [List.drop_zero, List.nil_append, group_puts (by rw [← he]; exact hp) hs h1 h2] at e3
  refine impl_summed.eq c ls ?_
  simp only [impl_summed.t, e1, e2, Option.bind_some]
  exact e3
end GoV

/- Tables that are good, with as many columns. -/
namespace GoV
open Go
def alikeB (c : Int) (a : List WRow) (d : Int) (b : List WRow) : Bool := goodT c a && (goodT d b && (c == d))
end GoV

/- Some cells of a row; numbers of columns. -/
namespace GoV
open Go
def pickR (r cs : List Int) : List Int := cs.map fun k => r.getD k.toNat 0
def pickG (r : List Int) (k : Int) : List Int := [r.getD k.toNat 0]
theorem pickG_map (r : List Int) : ∀ cs : List Int, cs.flatMap (pickG r) = pickR r cs
  | [] => rfl
  | k :: cs => by rw [List.flatMap_cons, pickG_map r cs]; rfl
theorem pickR_len (r cs : List Int) : (pickR r cs).length = cs.length := by simp [pickR]
theorem spec_l1Pick_eq {r cs : List Int} (hl : cs.length ≤ 1073741824) (h : ∀ k, k ∈ cs → 0 ≤ k ∧ k.toNat < r.length) : spec_l1Pick r cs = some (pickR r cs) := by
  refine spec_l1Pick.eq r cs ?_
  simp only [spec_l1Pick.t]
  rw [← pickG_map]
  refine push_loop cs 0 (fun acc i => spec_l1Pick.l3 r [] acc cs (cs.length : Int) (i : Int)) (pickG r) (fun _ => Nat.le_refl _) some ?_ ?_ _ rfl
  · intro acc b _ hb
    exact spec_l1Pick.eq3 _ _ _ _ _ _ (by simp only [spec_l1Pick.t3, ix_lt, Nat.lt_irrefl, decide_false, cond_false]; exact hb)
  · intro acc i b hi ha hb
    obtain ⟨h1, h2⟩ := h _ (getD_mem 0 hi)
    refine spec_l1Pick.eq3 _ _ _ _ _ _ ?_
    have h3 : acc.length + [r.getD (cs.getD i 0).toNat 0].length ≤ 4294967296 := by simp only [List.length_cons, List.length_nil]; omega
    simp only [spec_l1Pick.t3, ix_lt, ix_nn, ix_nat, dec_t hi, dec_t h1, dec_t h2, dec_t h3, cond_true, wrap_succ (show i < 9223372036854775807 by omega)]
    exact hb
theorem impl_Row_picked_eq {r cs : List Int} (hl : cs.length ≤ 1073741824) (h : ∀ k, k ∈ cs → 0 ≤ k ∧ k.toNat < r.length) : impl_Row_picked r cs = some (pickR r cs) := by
  refine impl_Row_picked.eq r cs ?_
  simp only [impl_Row_picked.t]
  rw [← pickG_map]
  refine push_loop cs 0 (fun acc i => impl_Row_picked.l3 r [] acc cs (cs.length : Int) (i : Int)) (pickG r) (fun _ => Nat.le_refl _) some ?_ ?_ _ rfl
  · intro acc b _ hb
    exact impl_Row_picked.eq3 _ _ _ _ _ _ (by simp only [impl_Row_picked.t3, ix_lt, Nat.lt_irrefl, decide_false, cond_false]; exact hb)
  · intro acc i b hi ha hb
    obtain ⟨h1, h2⟩ := h _ (getD_mem 0 hi)
    refine impl_Row_picked.eq3 _ _ _ _ _ _ ?_
    have h3 : acc.length + [r.getD (cs.getD i 0).toNat 0].length ≤ 4294967296 := by simp only [List.length_cons, List.length_nil]; omega
    simp only [impl_Row_picked.t3, ix_lt, ix_nn, ix_nat, dec_t hi, dec_t h1, dec_t h2, dec_t h3, cond_true, wrap_succ (show i < 9223372036854775807 by omega)]
    exact hb
def plB (n k : Int) : Bool := decide (0 ≤ k) && decide (k < n)
theorem plB_iff {n k : Int} : plB n k = true ↔ 0 ≤ k ∧ k < n := by simp [plB]
def colsB (n : Int) (cs : List Int) : Bool := cs.all (plB n) && decide (cs.length ≤ 6)
theorem impl_isPlace_eq' (x c : Int) : impl_isPlace x c = some (plB c x) := by
  refine impl_isPlace.eq x c ?_
  simp only [impl_isPlace.t, plB]
  by_cases h : 0 ≤ x
  · have h' : x ≥ 0 := h
    simp only [dec_t h, dec_t h', cond_true, Bool.true_and]
  · have h' : ¬ x ≥ 0 := h
    simp only [dec_f h, dec_f h', cond_false, Bool.false_and]
theorem lenDec (n k : Nat) : decide ((n : Int) ≤ (k : Int)) = decide (n ≤ k) := by
  by_cases h : n ≤ k
  · rw [dec_t h, dec_t (by omega)]
  · rw [dec_f h, dec_f (by omega)]
theorem spec_l1Columns_eq (cs : List Int) (n : Int) (hl : cs.length ≤ 1073741824) : spec_l1Columns cs n = some (colsB n cs) := by
  refine spec_l1Columns.eq cs n ?_
  simp only [spec_l1Columns.t]
  have := all_loop cs 0 (fun i => spec_l1Columns.l2 cs n cs (cs.length : Int) (i : Int)) (plB n) false (decide (cs.length ≤ 6)) ?_ ?_ ?_
  · refine Eq.trans this ?_
    simp only [colsB]
    cases cs.all (plB n) <;> rfl
  · exact spec_l1Columns.eq2 _ _ _ _ _ (by simp only [spec_l1Columns.t2, ix_lt, Nat.lt_irrefl, decide_false, cond_false]; exact congrArg some (lenDec cs.length 6))
  · intro i hi hb
    refine spec_l1Columns.eq2 _ _ _ _ _ ?_
    simp only [spec_l1Columns.t2, ix_lt, ix_nn, ix_nat, dec_t hi, cond_true]
    by_cases h1 : cs.getD i 0 < 0
    · simp only [dec_t h1, cond_true]
    · have h2 : cs.getD i 0 ≥ n := by
        apply Classical.byContradiction
        intro h2
        rw [plB_iff.2 ⟨by omega, by omega⟩] at hb
        cases hb
      simp only [dec_f h1, dec_t h2, cond_true, cond_false]
  · intro i c hi hb hc
    refine spec_l1Columns.eq2 _ _ _ _ _ ?_
    obtain ⟨h1, h2⟩ := plB_iff.1 hb
    have h3 : ¬ cs.getD i 0 < 0 := by omega
    have h4 : ¬ cs.getD i 0 ≥ n := by omega
    simp only [spec_l1Columns.t2, ix_lt, ix_nn, ix_nat, dec_t hi, cond_true, dec_f h3, dec_f h4, cond_false, wrap_succ (show i < 9223372036854775807 by omega)]
    exact hc
theorem impl_areColumns_eq (cs : List Int) (n : Int) (hl : cs.length ≤ 1073741824) : impl_areColumns cs n = some (colsB n cs) := by
  refine impl_areColumns.eq cs n ?_
  have e := xi0e_ok cs n (plB n) (by omega) (fun x _ => impl_areColumns_1.eq _ _ (by simp only [impl_areColumns_1.t, impl_isPlace_eq', Option.bind_some]))
  have e2 : decide ((cs.length : Int) ≤ 6) = decide (cs.length ≤ 6) := lenDec cs.length 6
  simp only [impl_areColumns.t, e, e2, Option.bind_some, colsB]
  by_cases h : cs.length ≤ 6
  · simp only [dec_t h, cond_true, Bool.and_true]
  · simp only [dec_f h, cond_false, Bool.and_false]
/-- A row that is put in counts with a bound for all. -/
theorem puts_all_loop {α β : Type} (l : List α) (z : α) (p : α → Bool) (row : α → List Int) (wt : α → Int) (L : List WRow → Nat → Option β) (res : List WRow → Option β) (bad : β) {M m : Int} {N : Nat} (hM : 0 ≤ M) (hm : 0 ≤ m)
    (hp : ∀ x, x ∈ l → p x = true → (row x).length ≤ 1073741824 ∧ (-m ≤ wt x ∧ wt x ≤ m))
    (he : ∀ acc b, PutOK (M + m * l.length) (N + l.length) acc → res acc = some b → L acc l.length = some b)
    (hf : ∀ acc i, i < l.length → p (l.getD i z) = false → L acc i = some bad)
    (hs : ∀ acc i b, i < l.length → p (l.getD i z) = true → PutOK (M + m * i) (N + i) acc → L (putL acc (row (l.getD i z)) (wt (l.getD i z))) (i + 1) = some b → L acc i = some b) :
    ∀ acc b, PutOK M N acc → (bif l.all p then res (l.foldl (fun acc x => putL acc (row x) (wt x)) acc) else some bad) = some b → L acc 0 = some b := by
  have key : ∀ i, i ≤ l.length → ∀ acc b, PutOK (M + m * i) (N + i) acc → (bif (l.drop i).all p then res ((l.drop i).foldl (fun acc x => putL acc (row x) (wt x)) acc) else some bad) = some b → L acc i = some b := by
    refine upto ?_ ?_
    · intro acc b ha hb
      rw [List.drop_length] at hb
      exact he acc b ha hb
    · intro i hi ih acc b ha hb
      rw [drop_getD z hi, List.foldl_cons, List.all_cons] at hb
      cases hq : p (l.getD i z) with
      | false =>
        rw [hq, Bool.false_and, cond_false] at hb
        rw [← hb]
        exact hf acc i hi hq
      | true =>
        rw [hq, Bool.true_and] at hb
        refine hs acc i b hi hq ha (ih _ b ?_ hb)
        obtain ⟨k1, k2⟩ := hp _ (getD_mem z hi) hq
        have h0 : 0 ≤ m * (i : Int) := Int.mul_nonneg hm (by omega)
        have := ha.put k1 k2 (by omega) hm
        have e : M + m * ((i + 1 : Nat) : Int) = M + m * (i : Int) + m := by
          rw [Int.natCast_succ, Int.mul_add, Int.mul_one]; omega
        rw [e]
        exact this
  intro acc b ha hb
  refine key 0 (Nat.zero_le _) acc b ?_ (by rw [List.drop_zero]; exact hb)
  simpa using ha
theorem PutOK.nil : PutOK 0 0 [] := ⟨Nat.le_refl _, fun _ h => (by cases h), fun _ h => (by cases h)⟩
theorem putsL_rows {c : Nat} {b : List WRow} (h : ∀ w, w ∈ b → w.1.length ≤ c) : (putsL [] b).length ≤ b.length ∧ ∀ w, w ∈ putsL [] b → w.1.length ≤ c := by
  obtain ⟨_, _, _, h1, h2⟩ := putsL_ok b (l := []) .nil (fun _ h => (by cases h))
  refine ⟨by simpa using h2, fun w hw => ?_⟩
  rcases h1 w hw with h3 | ⟨u, hu, e⟩
  · cases h3
  · rw [e]; exact h u hu
/-- Rows summed, none ahead. -/
theorem impl_summed_one {c M : Int} {b : List WRow} (hl : b.length ≤ 1073741824) (hr : Rows b) (hM : 0 ≤ M) (hw : ∀ w, w ∈ b → -M ≤ w.2 ∧ w.2 ≤ M) (hbig : M * (b.length : Int) ≤ 9223372036854775807) : impl_summed c [b] = some (c, putsL [] b) := by
  have e : [b].flatten = [] ++ b := by simp
  have e' : [b].flatten = b := by simp
  exact impl_summed_eq (M := M) e (by simp) (by rw [e']; exact hl) (by rw [e']; exact hr) hM (by rw [e']; exact hw) (by rw [e']; exact hbig) .nil (fun _ h => (by cases h))
end GoV

/- Tables with some columns: the program's answer is the specification's. -/
namespace GoV
open Go
def projW (cs : List Int) (w : WRow) : WRow := (pickR w.1 cs, w.2)
def projG (cs : List Int) (w : WRow) : List WRow := [(pickR w.1 cs, w.2)]
theorem projG_map (cs : List Int) : ∀ l : List WRow, l.flatMap (projG cs) = l.map (projW cs)
  | [] => rfl
  | w :: l => by rw [List.flatMap_cons, projG_map cs l]; rfl
section
variable {c : Int} {l : List WRow} {cs : List Int} (hg : goodT c l = true) (hc : colsB c cs = true)
include hg hc
theorem proj_fit : l.length ≤ 60 ∧ cs.length ≤ 6 ∧ (∀ w, w ∈ l → (∀ k, k ∈ cs → 0 ≤ k ∧ k.toNat < w.1.length) ∧ (-1000000 ≤ w.2 ∧ w.2 ≤ 1000000)) := by
  obtain ⟨_, h1, h2, _⟩ := goodT_iff.1 hg
  simp only [colsB, Bool.and_eq_true, decide_eq_true_eq] at hc
  refine ⟨h1, hc.2, fun w hw => ?_⟩
  obtain ⟨_, h3, h4, _⟩ := rowB_iff.1 (h2 w hw)
  refine ⟨fun k hk => ?_, h4⟩
  have := plB_iff.1 (List.all_eq_true.1 hc.1 k hk)
  omega
theorem spec_l3Project_eq : spec_l3Project l cs = some (putsL [] (l.map (projW cs))) := by
  obtain ⟨h1, h2, h3⟩ := proj_fit hg hc
  refine spec_l3Project.eq l cs ?_
  simp only [spec_l3Project.t]
  have e : putsL [] (l.map (projW cs)) = l.foldl (fun acc w => putL acc (pickR w.1 cs) w.2) [] := by rw [putsL, List.foldl_map]; rfl
  rw [e]
  refine puts_loop l ([], 0) (fun w => pickR w.1 cs) (fun w => w.2) (fun acc i => spec_l3Project.l3 cs acc l (l.length : Int) (i : Int)) some (M := 0) (m := 1000000) (N := 0) (Int.le_refl _) (by omega) (fun w _ => by rw [pickR_len]; omega) (fun w hw => (h3 w hw).2) ?_ ?_ [] _ PutOK.nil rfl
  · intro acc b _ hb
    exact spec_l3Project.eq3 _ _ _ _ _ (by simp only [spec_l3Project.t3, ix_lt, Nat.lt_irrefl, decide_false, cond_false]; exact hb)
  · intro acc i b hi ha hb
    obtain ⟨h4, h5⟩ := h3 _ (getD_mem ([], 0) hi)
    refine spec_l3Project.eq3 _ _ _ _ _ ?_
    have hk : (pickR (l.getD i ([], 0)).1 cs).length ≤ 1073741824 := by rw [pickR_len]; omega
    simp only [spec_l3Project.t3, ix_lt, ix_nn, ix_nat, dec_t hi, cond_true, spec_l1Pick_eq (show cs.length ≤ 1073741824 by omega) h4, spec_l2Put_eq (Nat.le_trans ha.len (by omega)) ha.row hk (ha.wraps (m := 1000000) h5 (by omega)), Option.bind_some, wrap_succ (show i < 9223372036854775807 by omega)]
    exact hb
theorem xi0l_eq : xi0l c l cs = some ((cs.length : Int), putsL [] (l.map (projW cs))) := by
  obtain ⟨h1, h2, h3⟩ := proj_fit hg hc
  have hm : ∀ w, w ∈ l.map (projW cs) → w.1.length ≤ 1073741824 ∧ (-1000000 ≤ w.2 ∧ w.2 ≤ 1000000) := fun w hw => by
    obtain ⟨u, hu, rfl⟩ := List.mem_map.1 hw
    refine ⟨?_, (h3 u hu).2⟩
    simp only [projW, pickR_len]; omega
  have e5 := impl_summed_one (c := (cs.length : Int)) (M := 1000000) (b := l.map (projW cs)) (by rw [List.length_map]; omega) (fun w hw => (hm w hw).1) (by omega) (fun w hw => (hm w hw).2) (by rw [List.length_map]; omega)
  refine xi0l.eq c l cs ?_
  simp only [xi0l.t]
  refine push_loop l ([], 0) (fun acc i => xi0l.l3 cs 0 [] acc l (l.length : Int) (i : Int)) (projG cs) (fun _ => Nat.le_refl _) (fun acc => (impl_summed (cs.length : Int) [acc]).bind fun r1 => some (r1.fst, r1.snd)) ?_ ?_ _ ?_
  · intro acc b _ hb
    exact xi0l.eq3 _ _ _ _ _ _ _ (by simp only [xi0l.t3, ix_lt, Nat.lt_irrefl, decide_false, cond_false]; exact hb)
  · intro acc i b hi ha hb
    obtain ⟨h4, h5⟩ := h3 _ (getD_mem ([], 0) hi)
    refine xi0l.eq3 _ _ _ _ _ _ _ ?_
    have h6 : acc.length + [(pickR (l.getD i ([], 0)).1 cs, (l.getD i ([], 0)).2)].length ≤ 4294967296 := by simp only [List.length_cons, List.length_nil]; omega
    simp only [xi0l.t3, ix_lt, ix_nn, ix_nat, dec_t hi, cond_true, impl_Row_picked_eq (show cs.length ≤ 1073741824 by omega) h4, Option.bind_some, dec_t h6, wrap_succ (show i < 9223372036854775807 by omega)]
    exact hb
  · rw [projG_map, e5]; rfl
end
theorem project_same (v0 : Int) (v1 : List (List Int × Int)) (v2 : List Int) (hz0 : szT (.pair (.int .i64) (.sl (.pair (.sl (.int .i64)) (.int .i64)))) (v0, v1) ≤ 1048576) (hz1 : szT (.sl (.int .i64)) v2 ≤ 1048576) :
    ∃ (a : Int) (b : List (List Int × Int)) (ok : Bool), spec_ProjectTable v0 v1 v2 = some (a, b, ok) ∧ impl_ProjectTable v0 v1 v2 = some (a, b, ok) ∧ szT (.pair (.int .i64) (.sl (.pair (.sl (.int .i64)) (.int .i64)))) (a, b) ≤ 1073741824 := by
  obtain ⟨h1, h2⟩ := tab_len hz0
  have hl : v1.length ≤ 1073741824 := by omega
  have hr : ∀ w, w ∈ v1 → w.1.length ≤ 1073741824 := fun w hw => by have := h2 w hw; omega
  have hcl : v2.length ≤ 1073741824 := by
    have := szT_len (t := .int .i64) (l := v2)
    omega
  have e1 := spec_GoodTable_eq (c := v0) hl hr
  have e2 := impl_GoodTable_eq (c := v0) hl hr
  have e3 := spec_l1Columns_eq v2 v0 hcl
  have e4 := impl_areColumns_eq v2 v0 hcl
  cases hg : goodT v0 v1 with
  | false => exact ⟨0, [], false, spec_ProjectTable.eq v0 v1 v2 (by simp only [spec_ProjectTable.t, e1, hg, Option.bind_some, bang_f, cond_true]), impl_ProjectTable.eq v0 v1 v2 (by simp only [impl_ProjectTable.t, e2, hg, Option.bind_some, bang_f, cond_true]), tab_none⟩
  | true =>
    cases hc : colsB v0 v2 with
    | false => exact ⟨0, [], false, spec_ProjectTable.eq v0 v1 v2 (by simp only [spec_ProjectTable.t, e1, hg, e3, hc, Option.bind_some, bang_t, bang_f, cond_true, cond_false]), impl_ProjectTable.eq v0 v1 v2 (by simp only [impl_ProjectTable.t, e2, hg, e4, hc, Option.bind_some, bang_t, bang_f, cond_true, cond_false]), tab_none⟩
    | true =>
      have e5 := spec_l3Project_eq hg hc
      have e6 := xi0l_eq hg hc
      obtain ⟨g1, g2, g3⟩ := proj_fit hg hc
      obtain ⟨hpl, hpr⟩ := putsL_rows (c := 6) (b := v1.map (projW v2)) fun w hw => by
        obtain ⟨u, hu, rfl⟩ := List.mem_map.1 hw
        simp only [projW, pickR_len]; exact g2
      rw [List.length_map] at hpl
      have hpr' : ∀ w, w ∈ putsL [] (v1.map (projW v2)) → w.1.length ≤ 1073741824 := fun w hw => by have := hpr w hw; omega
      have e7 := xi0o_eq (v2.length : Int) (putsL [] (v1.map (projW v2))) (by omega) hpr'
      have e8 := spec_l2Tell_eq (v2.length : Int) (putsL [] (v1.map (projW v2))) (by omega) hpr'
      cases hgood : goodT (v2.length : Int) (putsL [] (v1.map (projW v2))) with
      | false =>
        rw [hgood] at e7 e8
        exact ⟨0, [], false, spec_ProjectTable.eq v0 v1 v2 (by simp only [spec_ProjectTable.t, e1, hg, e3, hc, e5, e8, Option.bind_some, bang_t, cond_false]), impl_ProjectTable.eq v0 v1 v2 (by simp only [impl_ProjectTable.t, e2, hg, e4, hc, e6, e7, Option.bind_some, bang_t, cond_false]), tab_none⟩
      | true =>
        rw [hgood] at e7 e8
        exact ⟨_, _, true, spec_ProjectTable.eq v0 v1 v2 (by simp only [spec_ProjectTable.t, e1, hg, e3, hc, e5, e8, Option.bind_some, bang_t, cond_false, cond_true]), impl_ProjectTable.eq v0 v1 v2 (by simp only [impl_ProjectTable.t, e2, hg, e4, hc, e6, e7, Option.bind_some, bang_t, cond_false, cond_true]), tab_size hgood⟩
end GoV

/- Tables kept with other weights (printed by wip/tools/lawgen.py). -/
namespace GoV
open Go
theorem xi0c_ok (v0 : Int) (v1 : List (List Int × Int)) (f : WRow → Int) (hl : v1.length ≤ 1073741824) (hr : ∀ w, w ∈ v1 → w.1.length ≤ 1073741824) (hf : ∀ w, w ∈ v1 → xi0k (w.fst) (w.snd) = some (f w)) : xi0c v0 v1 = some (v0, keptL f v1) := by
  refine xi0c.eq v0 v1 ?_
  simp only [xi0c.t]
  refine push_loop v1 ([], 0) (fun acc i => xi0c.l3 ((0 : Int)) ([]) (v0) acc (v1) ((↑v1.length : Int)) (i : Int)) (keptG f) (keptG_len f) (fun acc => some (v0, acc)) ?_ ?_ _ rfl
  · intro acc b _ hb
    exact xi0c.eq3 _ _ _ _ _ _ _ (by simp only [xi0c.t3, ix_lt, Nat.lt_irrefl, decide_false, cond_false]; exact hb)
  · intro acc i b hi ha hb
    have hmem := getD_mem (([], 0) : WRow) hi
    have hw := hr _ hmem
    have hc := hf _ hmem
    refine xi0c.eq3 _ _ _ _ _ _ _ ?_
    simp only [xi0c.t3, ix_lt, ix_nn, ix_nat, dec_t hi, cond_true, hc, Option.bind_some, wrap_succ (show i < 9223372036854775807 by omega)]
    simp only [keptG] at hb
    by_cases h0 : f (v1.getD i ([], 0)) = 0
    · rw [if_pos h0, List.append_nil] at hb
      have : (f (v1.getD i ([], 0)) != 0) = false := by rw [h0]; exact bne_ref _
      simp only [this, cond_false]
      exact hb
    · rw [if_neg h0] at hb
      have h1 : (f (v1.getD i ([], 0)) != 0) = true := bne_iff_ne.2 h0
      have h2 : acc.length + [((v1.getD i ([], 0)).1, f (v1.getD i ([], 0)))].length ≤ 4294967296 := by simp only [List.length_cons, List.length_nil]; omega
      simp only [h1, impl_Row_own_eq _ hw, Option.bind_some, dec_t h2, cond_true]
      exact hb
end GoV

/- Rows once each. -/
namespace GoV
open Go
def oneP (n : Int) : Int := if n > 0 then 1 else 0
theorem impl_one_eq (n : Int) : impl_one n = some (oneP n) := by
  refine impl_one.eq n ?_
  simp only [impl_one.t, oneP]
  by_cases h : n > 0
  · simp only [dec_t h, cond_true, if_pos h]
  · simp only [dec_f h, cond_false, if_neg h]
theorem spec_l3Distinct_eq (l : List WRow) (hl : l.length ≤ 1073741824) : spec_l3Distinct l = some (keptL (fun w => oneP w.2) l) := by
  refine spec_l3Distinct.eq l ?_
  simp only [spec_l3Distinct.t]
  refine push_loop l ([], 0) (fun acc i => spec_l3Distinct.l3 acc l (l.length : Int) (i : Int)) (keptG fun w => oneP w.2) (keptG_len _) some ?_ ?_ _ rfl
  · intro acc b _ hb
    exact spec_l3Distinct.eq3 _ _ _ _ (by simp only [spec_l3Distinct.t3, ix_lt, Nat.lt_irrefl, decide_false, cond_false]; exact hb)
  · intro acc i b hi ha hb
    refine spec_l3Distinct.eq3 _ _ _ _ ?_
    simp only [spec_l3Distinct.t3, ix_lt, ix_nn, ix_nat, dec_t hi, cond_true, wrap_succ (show i < 9223372036854775807 by omega)]
    by_cases h0 : (l.getD i ([], 0)).2 > 0
    · rw [keptG_some (v := 1) (if_pos h0) (by omega)] at hb
      have h2 : acc.length + [((l.getD i ([], 0)).1, (1 : Int))].length ≤ 4294967296 := by simp only [List.length_cons, List.length_nil]; omega
      simp only [dec_t h0, dec_t h2, cond_true]
      exact hb
    · rw [keptG_zero (if_neg h0), List.append_nil] at hb
      simp only [dec_f h0, cond_false]
      exact hb
theorem xi0k_eq (r : List Int) (n : Int) : xi0k r n = some (oneP n) := xi0k.eq r n (by simp only [xi0k.t, impl_one_eq, Option.bind_some])
theorem xi0n_eq (c : Int) (l : List WRow) (hl : l.length ≤ 1073741824) (hr : ∀ w, w ∈ l → w.1.length ≤ 1073741824) : xi0n c l = some (c, keptL (fun w => oneP w.2) l) := by
  have := xi0c_ok c l (fun w => oneP w.2) hl hr (fun w _ => xi0k_eq w.1 w.2)
  exact xi0n.eq c l (by simp only [xi0n.t, this, Option.bind_some])
theorem goodT_distinct {c : Int} {l : List WRow} (h : goodT c l = true) : goodT c (keptL (fun w => oneP w.2) l) = true := goodT_kept h fun w _ => by
  simp only [oneP]
  split <;> omega
end GoV

/- PartTables: the program's answer is the specification's. -/
namespace GoV
open Go
abbrev PTab := Int × List WRow
theorem part_cols {c : Int} {p : List Int} (h6 : c ≤ 6) (h : partB c p = true) : colsB c p = true := by
  obtain ⟨h1, h2⟩ := some_rises (partB_fit h).1
  have h3 : p.length ≤ 6 := by
    rcases rises_len' h1 (fun x hx => (h2 x hx).2) with h | h
    · rw [h]; simp
    · omega
  simp only [colsB, Bool.and_eq_true, decide_eq_true_eq, List.all_eq_true]
  exact ⟨fun x hx => plB_iff.2 (h2 x hx), h3⟩
where
  rises_len' : ∀ {l : List Int} {a n : Int}, risesB a l = true → (∀ x, x ∈ l → x < n) → l = [] ∨ a + (l.length : Int) < n
  | [], _, _, _, _ => .inl rfl
  | x :: l, a, n, h, hx => by
    simp only [risesB, Bool.and_eq_true, decide_eq_true_eq] at h
    right
    have h1 := hx x (by simp)
    rw [List.length_cons]
    rcases rises_len' h.2 (fun y hy => hx y (List.mem_cons_of_mem _ hy)) with h2 | h2
    · rw [h2, List.length_nil]; omega
    · omega
theorem tabs_size : ∀ (l : List PTab), (∀ t, t ∈ l → goodT t.1 t.2 = true) → l.length ≤ 100 → szT (.sl (.pair (.int .i64) (.sl (.pair (.sl (.int .i64)) (.int .i64))))) l ≤ 1073741824 := by
  have key : ∀ l : List PTab, (∀ t, t ∈ l → goodT t.1 t.2 = true) → (l.map (szT (.pair (.int .i64) (.sl (.pair (.sl (.int .i64)) (.int .i64)))))).sum ≤ 1000 * l.length := by
    intro l
    induction l with
    | nil => intro _; simp
    | cons t l ih =>
      intro h
      have h1 := goodT_size (h t (by simp))
      have h2 := ih fun x hx => h x (List.mem_cons_of_mem _ hx)
      have h3 : szT (.pair (.int .i64) (.sl (.pair (.sl (.int .i64)) (.int .i64)))) t = szT (.sl (.pair (.sl (.int .i64)) (.int .i64))) t.2 := by
        show 0 + szT (.sl (.pair (.sl (.int .i64)) (.int .i64))) t.2 = _
        omega
      simp only [List.map_cons, List.sum_cons, List.length_cons]
      rw [h3]
      omega
  intro l h hl
  have := key l h
  show l.length + (l.map (szT (.pair (.int .i64) (.sl (.pair (.sl (.int .i64)) (.int .i64)))))).sum ≤ _
  omega
def partT (l : List WRow) (p : List Int) : PTab := ((p.length : Int), keptL (fun w => oneP w.2) (putsL [] (l.map (projW p))))
def partOK (l : List WRow) (p : List Int) : Bool := goodT (p.length : Int) (putsL [] (l.map (projW p)))
section
variable {c : Int} {l : List WRow} {p : List Int} (hg : goodT c l = true) (hc : colsB c p = true)
include hg hc
theorem proj_vals : spec_ProjectTable c l p = some (bif partOK l p then ((p.length : Int), putsL [] (l.map (projW p)), true) else (0, [], false)) ∧ impl_ProjectTable c l p = some (bif partOK l p then ((p.length : Int), putsL [] (l.map (projW p)), true) else (0, [], false)) := by
  obtain ⟨g1, g2, g3⟩ := proj_fit hg hc
  obtain ⟨k1, k2⟩ := goodT_rows hg
  have hr : ∀ w, w ∈ l → w.1.length ≤ 1073741824 := fun w hw => by have := (k2 w hw).1; omega
  have e1 := spec_GoodTable_eq (c := c) (l := l) (by omega) hr
  have e2 := impl_GoodTable_eq (c := c) (l := l) (by omega) hr
  have e3 := spec_l1Columns_eq p c (by omega)
  have e4 := impl_areColumns_eq p c (by omega)
  have e5 := spec_l3Project_eq hg hc
  have e6 := xi0l_eq hg hc
  obtain ⟨hpl, hpr⟩ := putsL_rows (c := 6) (b := l.map (projW p)) fun w hw => by
    obtain ⟨u, hu, rfl⟩ := List.mem_map.1 hw
    simp only [projW, pickR_len]; exact g2
  rw [List.length_map] at hpl
  have hpr' : ∀ w, w ∈ putsL [] (l.map (projW p)) → w.1.length ≤ 1073741824 := fun w hw => by have := hpr w hw; omega
  have e7 := xi0o_eq (p.length : Int) (putsL [] (l.map (projW p))) (by omega) hpr'
  have e8 := spec_l2Tell_eq (p.length : Int) (putsL [] (l.map (projW p))) (by omega) hpr'
  refine ⟨spec_ProjectTable.eq _ _ _ ?_, impl_ProjectTable.eq _ _ _ ?_⟩
  · simp only [spec_ProjectTable.t, e1, hg, e3, hc, e5, e8, Option.bind_some, bang_t, cond_false, partOK]
  · simp only [impl_ProjectTable.t, e2, hg, e4, hc, e6, e7, Option.bind_some, bang_t, cond_false, partOK]
end
theorem dist_vals {c : Int} {l : List WRow} (hg : goodT c l = true) : spec_DistinctTable c l = some (c, keptL (fun w => oneP w.2) l, true) ∧ xi0n c l = some (c, keptL (fun w => oneP w.2) l) := by
  obtain ⟨k1, k2⟩ := goodT_rows hg
  have hr : ∀ w, w ∈ l → w.1.length ≤ 1073741824 := fun w hw => by have := (k2 w hw).1; omega
  have hd := goodT_distinct hg
  obtain ⟨k3, k4⟩ := goodT_rows hd
  have e1 := spec_GoodTable_eq (c := c) (l := l) (by omega) hr
  have e2 := spec_l3Distinct_eq l (by omega)
  have e3 := spec_l2Tell_eq c _ (show (keptL (fun w => oneP w.2) l).length ≤ 1073741824 by omega) (fun w hw => by have := (k4 w hw).1; omega)
  rw [hd] at e3
  exact ⟨spec_DistinctTable.eq _ _ (by simp only [spec_DistinctTable.t, e1, hg, e2, e3, Option.bind_some, bang_t, cond_true, cond_false]), xi0n_eq c l (by omega) hr⟩
/-- A list pushed while all is well. -/
theorem push_all_loop2 {α β γ : Type} (l : List α) (z : α) (p : α → Bool) (g : α → γ) (L : List γ → Nat → Option β) (res : List γ → Option β) (bad : β) (he : ∀ acc b, acc.length ≤ l.length → res acc = some b → L acc l.length = some b)
    (hf : ∀ acc i, i < l.length → p (l.getD i z) = false → L acc i = some bad)
    (hs : ∀ acc i b, i < l.length → acc.length ≤ i → p (l.getD i z) = true → L (acc ++ [g (l.getD i z)]) (i + 1) = some b → L acc i = some b) :
    ∀ b, (bif l.all p then res (l.map g) else some bad) = some b → L [] 0 = some b := by
  have key : ∀ i, i ≤ l.length → ∀ acc b, acc.length ≤ i → (bif (l.drop i).all p then res (acc ++ (l.drop i).map g) else some bad) = some b → L acc i = some b := by
    refine upto ?_ ?_
    · intro acc b ha hb
      rw [List.drop_length, List.map_nil, List.append_nil] at hb
      exact he acc b ha hb
    · intro i hi ih acc b ha hb
      rw [drop_getD z hi, List.map_cons, List.all_cons, push_mid] at hb
      cases hq : p (l.getD i z) with
      | false =>
        rw [hq, Bool.false_and, cond_false] at hb
        rw [← hb]
        exact hf acc i hi hq
      | true =>
        rw [hq, Bool.true_and] at hb
        exact hs acc i b hi ha hq (ih _ b (by rw [List.length_append, List.length_singleton]; omega) hb)
  intro b hb
  exact key 0 (Nat.zero_le _) [] b (Nat.le_refl _) (by rw [List.drop_zero]; exact hb)
theorem intSS_len {ps : List (List Int)} {n : Nat} (h : szT (.sl (.sl (.int .i64))) ps ≤ n) : ps.length ≤ n ∧ (∀ p, p ∈ ps → p.length ≤ n) ∧ (ps.map List.length).sum ≤ n := by
  have e : (ps.map (szT (.sl (.int .i64)))) = ps.map List.length := List.map_congr_left fun p _ => szT_sl_flat (t := .int .i64) p rfl
  have h1 : szT (.sl (.sl (.int .i64))) ps = ps.length + (ps.map List.length).sum := by
    show ps.length + (ps.map (szT (.sl (.int .i64)))).sum = _
    rw [e]
  refine ⟨by omega, fun p hp => ?_, by omega⟩
  have := sum_le List.length hp
  omega
theorem FnExactPartTables_same (v0 : Int) (v1 : List (List Int × Int)) (v2 : List (List Int)) (w0 : WfT (.pair (.int .i64) (.sl (.pair (.sl (.int .i64)) (.int .i64)))) (v0, v1)) (hz0 : szT (.pair (.int .i64) (.sl (.pair (.sl (.int .i64)) (.int .i64)))) (v0, v1) ≤ 1048576)
    (w1 : WfT (.sl (.sl (.int .i64))) v2) (hz1 : szT (.sl (.sl (.int .i64))) v2 ≤ 1048576) :
    ∃ (a : List (Int × List (List Int × Int))) (ok : Bool), spec_PartTables v0 v1 v2 = some (a, ok) ∧ impl_PartTables v0 v1 v2 = some (a, ok) ∧ szT (.sl (.pair (.int .i64) (.sl (.pair (.sl (.int .i64)) (.int .i64))))) a ≤ 1073741824 := by
  obtain ⟨h1, h2⟩ := tab_len hz0
  obtain ⟨h3, h4, h5⟩ := intSS_len hz1
  have hr : ∀ w, w ∈ v1 → w.1.length ≤ 1073741824 := fun w hw => by have := h2 w hw; omega
  have e1 := spec_GoodTable_eq (c := v0) (l := v1) (by omega) hr
  have e2 := impl_GoodTable_eq (c := v0) (l := v1) (by omega) hr
  have e3 := spec_GoodParts_eq (c := v0) (ps := v2) (by omega) (fun p hp => by have := h4 p hp; omega) (by omega)
  have e4 := impl_GoodParts_eq (c := v0) (ps := v2) (by omega) (fun p hp => by have := h4 p hp; omega)
  have hnone : szT (.sl (.pair (.int .i64) (.sl (.pair (.sl (.int .i64)) (.int .i64))))) ([] : List PTab) ≤ 1073741824 := by simp [szT]
  cases hg : goodT v0 v1 with
  | false => exact ⟨[], false, spec_PartTables.eq _ _ _ (by simp only [spec_PartTables.t, e1, hg, Option.bind_some, bang_f, cond_true]), impl_PartTables.eq _ _ _ (by simp only [impl_PartTables.t, e2, hg, Option.bind_some, bang_f, cond_true]), hnone⟩
  | true =>
    cases hp : partsB v0 v2 with
    | false => exact ⟨[], false, spec_PartTables.eq _ _ _ (by simp only [spec_PartTables.t, e1, hg, e3, hp, Option.bind_some, bang_t, bang_f, cond_true, cond_false]), impl_PartTables.eq _ _ _ (by simp only [impl_PartTables.t, e2, hg, e4, hp, Option.bind_some, bang_t, bang_f, cond_true, cond_false]), hnone⟩
    | true =>
      obtain ⟨hc6, _⟩ := goodT_iff.1 hg
      have hpp := hp
      simp only [partsB, Bool.and_eq_true, inB_iff] at hpp
      have hcols : ∀ p, p ∈ v2 → colsB v0 p = true := fun p h => part_cols hc6.2 (List.all_eq_true.1 hpp.1.2 p h)
      have hs : ∀ b, (bif v2.all (partOK v1) then some (v2.map (partT v1), true) else some ([], false)) = some b → spec_PartTables v0 v1 v2 = some b := by
        intro b hb
        refine spec_PartTables.eq _ _ _ ?_
        simp only [spec_PartTables.t, e1, hg, e3, hp, Option.bind_some, bang_t, cond_false]
        refine push_all_loop2 v2 [] (partOK v1) (partT v1) (fun acc i => spec_PartTables.l5 v0 v1 acc v2 (v2.length : Int) (i : Int)) (fun acc => some (acc, true)) ([], false) ?_ ?_ ?_ b hb
        · intro acc b _ hb
          exact spec_PartTables.eq5 _ _ _ _ _ _ (by simp only [spec_PartTables.t5, ix_lt, Nat.lt_irrefl, decide_false, cond_false]; exact hb)
        · intro acc i hi hq
          have hv := (proj_vals hg (hcols _ (getD_mem [] hi))).1
          rw [hq, cond_false] at hv
          exact spec_PartTables.eq5 _ _ _ _ _ _ (by simp only [spec_PartTables.t5, ix_lt, ix_nn, ix_nat, dec_t hi, cond_true, hv, Option.bind_some, bang_f])
        · intro acc i b hi ha hq hb
          have hv := (proj_vals hg (hcols _ (getD_mem [] hi))).1
          rw [hq, cond_true] at hv
          have hd := (dist_vals hq).1
          have h6 : acc.length + [(((v2.getD i []).length : Int), keptL (fun w => oneP w.2) (putsL [] (v1.map (projW (v2.getD i [])))))].length ≤ 4294967296 := by simp only [List.length_cons, List.length_nil]; omega
          refine spec_PartTables.eq5 _ _ _ _ _ _ ?_
          simp only [spec_PartTables.t5, ix_lt, ix_nn, ix_nat, dec_t hi, cond_true, hv, hd, Option.bind_some, bang_t, cond_false, dec_t h6, wrap_succ (show i < 9223372036854775807 by omega)]
          exact hb
      have hm : ∀ b, (bif v2.all (partOK v1) then some (v2.map (partT v1), true) else some ([], false)) = some b → impl_PartTables v0 v1 v2 = some b := by
        intro b hb
        refine impl_PartTables.eq _ _ _ ?_
        simp only [impl_PartTables.t, e2, hg, e4, hp, Option.bind_some, bang_t, cond_false]
        refine push_all_loop2 v2 [] (partOK v1) (partT v1) (fun acc i => impl_PartTables.l5 v0 v1 acc v2 (v2.length : Int) (i : Int)) (fun acc => some (acc, true)) ([], false) ?_ ?_ ?_ b hb
        · intro acc b _ hb
          exact impl_PartTables.eq5 _ _ _ _ _ _ (by simp only [impl_PartTables.t5, ix_lt, Nat.lt_irrefl, decide_false, cond_false]; exact hb)
        · intro acc i hi hq
          have hv := (proj_vals hg (hcols _ (getD_mem [] hi))).2
          rw [hq, cond_false] at hv
          exact impl_PartTables.eq5 _ _ _ _ _ _ (by simp only [impl_PartTables.t5, ix_lt, ix_nn, ix_nat, dec_t hi, cond_true, hv, Option.bind_some, bang_f])
        · intro acc i b hi ha hq hb
          have hv := (proj_vals hg (hcols _ (getD_mem [] hi))).2
          rw [hq, cond_true] at hv
          have hd := (dist_vals hq).2
          have h6 : acc.length + [(((v2.getD i []).length : Int), keptL (fun w => oneP w.2) (putsL [] (v1.map (projW (v2.getD i [])))))].length ≤ 4294967296 := by simp only [List.length_cons, List.length_nil]; omega
          refine impl_PartTables.eq5 _ _ _ _ _ _ ?_
          simp only [impl_PartTables.t5, ix_lt, ix_nn, ix_nat, dec_t hi, cond_true, hv, hd, Option.bind_some, bang_t, cond_false, dec_t h6, wrap_succ (show i < 9223372036854775807 by omega)]
          exact hb
      cases ha : v2.all (partOK v1) with
      | false => exact ⟨[], false, hs _ (by rw [ha]; rfl), hm _ (by rw [ha]; rfl), hnone⟩
      | true =>
        refine ⟨v2.map (partT v1), true, hs _ (by rw [ha]; rfl), hm _ (by rw [ha]; rfl), tabs_size _ (fun t ht => ?_) (by rw [List.length_map]; have := hpp.1.1.2; omega)⟩
        obtain ⟨p, h, rfl⟩ := List.mem_map.1 ht
        exact goodT_distinct (List.all_eq_true.1 ha p h)
end GoV

/- FnExactPartTables: the law out of its core. -/
namespace GoV
open Go
theorem FnExactPartTables_true (v0 : Int) (v1 : List (List Int × Int)) (v2 : List (List Int)) (w0 : WfT (.pair (.int .i64) (.sl (.pair (.sl (.int .i64)) (.int .i64)))) (v0, v1)) (w1 : WfT (.sl (.sl (.int .i64))) v2) : xl0h v0 v1 v2 = some true := by
  obtain ⟨left1, e1, a1, b1z⟩ := laws_szTable_ok (v0) (v1) ((1048576 : Int)) w0 (by omega) (by omega)
  by_cases n1 : left1 < 0
  · exact xl0h.eq v0 v1 v2 (by simp only [xl0h.t, e1, dec_t n1, cond_true, cond_false, Option.bind_some])
  have z1a := b1z (by omega)
  obtain ⟨left2, e2, a2, b2z⟩ := laws_szIntSS_ok (v2) (left1) w1 (by omega) (by omega)
  by_cases n2 : left2 < 0
  · exact xl0h.eq v0 v1 v2 (by simp only [xl0h.t, e1, dec_f n1, e2, dec_t n2, cond_true, cond_false, Option.bind_some])
  have z2a := b2z (by omega)
  have hz0 : szT (.pair (.int .i64) (.sl (.pair (.sl (.int .i64)) (.int .i64)))) (v0, v1) ≤ 1048576 := by omega
  have hz1 : szT (.sl (.sl (.int .i64))) v2 ≤ 1048576 := by omega
  obtain ⟨ga, gb, hspec, himpl, hsm⟩ := FnExactPartTables_same v0 v1 v2 w0 hz0 w1 hz1
  -- the answer is small
  have e3 := laws_toTable_id (v0) (v1) (by omega)
  have e4 := laws_toIntSS_id (v2) (by omega)
  have e6 := laws_toTable_id (v0) (v1) (by omega)
  have e7 := laws_toIntSS_id (v2) (by omega)
  have e9 := laws_eqTableS_rf (ga) (by first | omega | (simp only [szT] at *; omega))
  have e10 := laws_toTable_id (v0) (v1) (by omega)
  have e11 := laws_eqTable_rf (v0) (v1) (by first | omega | (simp only [szT] at *; omega))
  have e12 := laws_toIntSS_id (v2) (by omega)
  have e13 := laws_eqIntSS_rf (v2) (by first | omega | (simp only [szT] at *; omega))
  have q14 := cntT_le (T := (.pair (.int .i64) (.sl (.pair (.sl (.int .i64)) (.int .i64))))) (v0, v1) rfl
  simp only [Ty.size] at q14
  have e14 := laws_markTable_d7a_ok (v0) (v1) ((1 : Int)) (by omega) (by omega) (by omega)
  have p14 := mrT_cnt (.pair (.int .i64) (.sl (.pair (.sl (.int .i64)) (.int .i64)))) (v0, v1) (1 : Int)
  have g14 : ¬ (mrT (.pair (.int .i64) (.sl (.pair (.sl (.int .i64)) (.int .i64)))) (v0, v1) (1 : Int)).2 < 0 := by omega
  have q15 := cntT_le (T := (.sl (.sl (.int .i64)))) v2 rfl
  simp only [Ty.size] at q15
  have e15 := laws_markIntSS_1f6_ok (v2) ((mrT (.pair (.int .i64) (.sl (.pair (.sl (.int .i64)) (.int .i64)))) (v0, v1) (1 : Int)).2) (by omega) (by omega) (by omega)
  have p15 := mrL_cnt (t := (.sl (.int .i64))) v2 (mrT (.pair (.int .i64) (.sl (.pair (.sl (.int .i64)) (.int .i64)))) (v0, v1) (1 : Int)).2
  have g15 : ¬ (mrL (mrE (.sl (.int .i64))) v2 (mrT (.pair (.int .i64) (.sl (.pair (.sl (.int .i64)) (.int .i64)))) (v0, v1) (1 : Int)).2).2 < 0 := by omega
  have e16 := laws_eqTableS_rf (ga) (by first | omega | (simp only [szT] at *; omega))
  have q17 := cntT_le (T := (.sl (.pair (.int .i64) (.sl (.pair (.sl (.int .i64)) (.int .i64)))))) ga rfl
  simp only [Ty.size] at q17
  have e17 := xl0p_ok (ga) ((1 : Int)) (by omega) (by omega) (by omega)
  have p17 := mrL_cnt (t := (.pair (.int .i64) (.sl (.pair (.sl (.int .i64)) (.int .i64))))) ga (1 : Int)
  have g17 : ¬ (mrL (mrE (.pair (.int .i64) (.sl (.pair (.sl (.int .i64)) (.int .i64))))) ga (1 : Int)).2 < 0 := by omega
  have e18 : laws_heldTableS ((mrL (mrE (.pair (.int .i64) (.sl (.pair (.sl (.int .i64)) (.int .i64))))) ga (1 : Int)).1) ((1 : Int)) = some (mrL (mrE (.pair (.int .i64) (.sl (.pair (.sl (.int .i64)) (.int .i64))))) ga (1 : Int)).2 := laws_heldTableS_ok (ga) (1 : Int) (by omega) (by omega) (by omega)
  have e19 := laws_toTable_id (v0) (v1) (by omega)
  have e20 := laws_toIntSS_id (v2) (by omega)
  have e22 := laws_eqTableS_rf (ga) (by first | omega | (simp only [szT] at *; omega))
  have e23 : laws_heldTableS ((mrL (mrE (.pair (.int .i64) (.sl (.pair (.sl (.int .i64)) (.int .i64))))) ga (1 : Int)).1) ((1 : Int)) = some (mrL (mrE (.pair (.int .i64) (.sl (.pair (.sl (.int .i64)) (.int .i64))))) ga (1 : Int)).2 := laws_heldTableS_ok (ga) (1 : Int) (by omega) (by omega) (by omega)
  refine xl0h.eq v0 v1 v2 ?_
  simp only [xl0h.t, e1, dec_f n1, e2, dec_f n2, e3, e4, e6, e7, e9, e10, e11, e12, e13, e14, dec_f g14, e15, dec_f g15, e16, e17, dec_f g17, e18, e19, e20, e22, e23, hspec, himpl, cond_true, cond_false, Option.bind_some, bne_ref, beq_ref, bang_t]
end GoV
