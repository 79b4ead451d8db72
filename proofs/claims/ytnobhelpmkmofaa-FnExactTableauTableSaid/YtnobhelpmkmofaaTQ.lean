/- A part of the proof of FnExactTableauTable: an interpreter of the model over plain data, its soundness, and what it makes of the functions that the statement reaches. Conditions: none beyond what the given statement itself says. -/
import Derived.Test.YtnobhelpmkmofaaTP
set_option linter.unusedVariables false
set_option linter.unusedSimpArgs false
set_option linter.unnecessarySimpa false
set_option linter.unusedSectionVars false
/- The library's stable sort of rows with weights. -/
namespace GoV
open Go
def Rows (d : List WRow) : Prop := ∀ w, w ∈ d → w.1.length ≤ 1073741824
theorem Rows.perm {d d' : List WRow} (h : Rows d) (hp : d'.Perm d) : Rows d' := fun w hw => h w (hp.mem_iff.1 hw)
open Classical in
/-- An answer that counts where the rows are no longer than they were. -/
noncomputable def gd {β : Type} (d : List WRow) (x : Option β) : Option β := if Rows d then x else none
theorem gd_some {β : Type} {d : List WRow} {x : Option β} {r : β} : gd d x = some r ↔ Rows d ∧ x = some r := by
  unfold gd
  split
  · rename_i h; exact ⟨fun e => ⟨h, e⟩, fun e => e.2⟩
  · rename_i h; exact ⟨fun e => (by cases e), fun e => absurd e.1 h⟩
theorem gd_swap {d : List WRow} {i j : Nat} (hi : i < d.length) (hj : j < d.length) (h : Rows (swapL ([], 0) d i j)) : Rows d := h.perm (swapL_perm hi hj).symm
theorem impl_summed_1_eq (a : List Int) (n : Int) (b : List Int) (m : Int) (ha : a.length ≤ 1073741824) (hb : b.length ≤ 1073741824) : impl_summed_1 a n b m = some (cmpL a b) := impl_summed_1.eq _ _ _ _ (by simp only [impl_summed_1.t, impl_compareRows_eq _ _ ha hb, Option.bind_some])
theorem gt_dec (i j : Nat) : decide ((i : Int) > (j : Int)) = decide (j < i) := ix_lt j i
theorem ins_ok {d : List WRow} {a b : Nat} (hb : b ≤ d.length) (hl : d.length ≤ 1073741824) (hr : Rows d) (ha : a ≤ 1073741824) :
    ∃ d', xs05 d (a : Int) (b : Int) = some d' ∧ Mv ([], 0) d d' a b ∧ SortS ([], 0) ltW d' a b := by
  refine Exists.elim (ins_outer (z := (([] : List Int), (0 : Int))) ltW_ord ltW_asym (a := a) (b := b) (N := d.length) hb
    (fun d i => gd d (xs05.l1 d (a : Int) (b : Int) (i : Int)))
    (fun i d j => gd d (xs05.l4 d (a : Int) (b : Int) (i : Int) (j : Int))) (fun d => gd d (some d)) ?_ ?_ ?_ ?_ ?_ _ (a + 1) d rfl (by omega) rfl (.one (by omega))) ?_
  · intro d i r h hx
    obtain ⟨g1, g2⟩ := gd_some.1 hx
    exact gd_some.2 ⟨g1, xs05.eq1 _ _ _ _ (by simp only [xs05.t1, ix_lt, dec_f (show ¬ i < b by omega), cond_false]; exact g2)⟩
  · intro d i r h1 h2 _ hx
    obtain ⟨g1, g2⟩ := gd_some.1 hx
    exact gd_some.2 ⟨g1, xs05.eq1 _ _ _ _ (by simp only [xs05.t1, ix_lt, dec_t h2, cond_true]; exact g2)⟩
  · intro d i r h1 hx
    obtain ⟨g1, g2⟩ := gd_some.1 hx
    exact gd_some.2 ⟨g1, xs05.eq4 _ _ _ _ _ (by simp only [xs05.t4, gt_dec, Nat.lt_irrefl, decide_false, cond_false, wrap_succ (show i < 9223372036854775807 by omega)]; exact g2)⟩
  · intro d1 i j r h1 h2 h3 h4 h5 hx
    obtain ⟨g1, g2⟩ := gd_some.1 hx
    have hj : j < d1.length := by omega
    have hj1 : j - 1 < d1.length := by omega
    have hc : decide (cmpL (d1.getD j ([], 0)).1 (d1.getD (j - 1) ([], 0)).1 < 0) = false := h5
    exact gd_some.2 ⟨g1, xs05.eq4 _ _ _ _ _ (by
      simp only [xs05.t4, gt_dec, dec_t h1, wrap_pred (show 0 < j by omega) (show j < 9223372036854775807 by omega), ix_nn, ix_nat, dec_t hj, dec_t hj1, cond_true, impl_summed_1_eq _ _ _ _ (g1 _ (getD_mem ([], 0) hj)) (g1 _ (getD_mem ([], 0) hj1)), Option.bind_some, hc, cond_false, wrap_succ (show i < 9223372036854775807 by omega)]
      exact g2)⟩
  · intro d1 i j r h1 h2 h3 h4 h5 hx
    obtain ⟨g1, g2⟩ := gd_some.1 hx
    have hj : j < d1.length := by omega
    have hj1 : j - 1 < d1.length := by omega
    have g1 := gd_swap hj hj1 g1
    have hc : decide (cmpL (d1.getD j ([], 0)).1 (d1.getD (j - 1) ([], 0)).1 < 0) = true := h5
    have hs : ∀ x : WRow, decide (j - 1 < (d1.set j x).length) = true := fun x => by rw [List.length_set]; exact dec_t hj1
    exact gd_some.2 ⟨g1, xs05.eq4 _ _ _ _ _ (by
      simp only [xs05.t4, gt_dec, dec_t h1, wrap_pred (show 0 < j by omega) (show j < 9223372036854775807 by omega), ix_nn, ix_nat, dec_t hj, dec_t hj1, cond_true, impl_summed_1_eq _ _ _ _ (g1 _ (getD_mem ([], 0) hj)) (g1 _ (getD_mem ([], 0) hj1)), Option.bind_some, hc, hs]
      exact g2)⟩
  · rintro d' ⟨h1, h2, h3⟩
    refine ⟨d', ?_, h1, h2⟩
    have := (gd_some.1 (h3 d' (gd_some.2 ⟨hr.perm h1.perm, rfl⟩))).2
    exact xs05.eq _ _ _ (by simp only [xs05.t, wrap_succ (show a < 9223372036854775807 by omega)]; exact this)
theorem w_add {i j : Nat} (h : i + j < 4611686018427387904) : IntKind.i64.wrap ((i : Int) + (j : Int)) = ((i + j : Nat) : Int) := by rw [wrap_id] <;> omega
theorem w_sub {i j : Nat} (h : j ≤ i) (h2 : i < 4611686018427387904) : IntKind.i64.wrap ((i : Int) - (j : Int)) = ((i - j : Nat) : Int) := by rw [wrap_id] <;> omega
theorem swapRange_ok {d : List WRow} {a b n : Nat} (h2 : b + n ≤ d.length) (h3 : a + n ≤ d.length) (hl : d.length ≤ 1073741824) :
    xs07 d (a : Int) (b : Int) (n : Int) = some (swapR ([], 0) n d a b) := by
  refine xs07.eq _ _ _ _ ?_
  simp only [xs07.t]
  refine swap_loop (z := (([] : List Int), (0 : Int))) (n := n) (a := a) (b := b) (N := d.length) (fun d i => xs07.l1 d (a : Int) (b : Int) (n : Int) (i : Int)) some ?_ ?_ n 0 d rfl rfl (Nat.zero_le _) _ rfl
  · intro d1 r _ hx
    exact xs07.eq1 _ _ _ _ _ (by simp only [xs07.t1, ix_lt, Nat.lt_irrefl, decide_false, cond_false]; exact hx)
  · intro d1 i r hi hd hx
    have ha : a + i < d1.length := by omega
    have hb : b + i < d1.length := by omega
    have hs : ∀ x : WRow, decide (b + i < (d1.set (a + i) x).length) = true := fun x => by rw [List.length_set]; exact dec_t hb
    exact xs07.eq1 _ _ _ _ _ (by
      simp only [xs07.t1, ix_lt, dec_t hi, cond_true, w_add (show a + i < 4611686018427387904 by omega), w_add (show b + i < 4611686018427387904 by omega), ix_nn, ix_nat, dec_t ha, dec_t hb, hs, wrap_succ (show i < 9223372036854775807 by omega)]
      exact hx)
theorem rotate_ok {d : List WRow} {a m b : Nat} (ha : a < m) (hb : m < b) (hbl : b ≤ d.length) (hl : d.length ≤ 1073741824) :
    ∃ d', xs0a d (a : Int) (m : Int) (b : Int) = some d' ∧ Mv ([], 0) d d' a b ∧ RotF (fun k => d.getD k ([], 0)) (fun k => d'.getD k ([], 0)) a m b := by
  refine Exists.elim (rot_loop (z := (([] : List Int), (0 : Int))) (m := m) (N := d.length) (fun d i j => xs0a.l2 d (m : Int) (i : Int) (j : Int)) some ?_ ?_ ?_ _ (m - a) (b - m) d rfl (by omega) (by omega) (by omega) (by omega) rfl) ?_
  · intro d1 i r h1 h2 h3 h4 hx
    refine xs0a.eq2 _ _ _ _ ?_
    have e := swapRange_ok (d := d1) (a := m - i) (b := m) (n := i) (by omega) (by omega) (by omega)
    simp only [xs0a.t2, bne_ref, cond_false, w_sub (show i ≤ m by omega) (show m < 4611686018427387904 by omega), e, Option.bind_some]
    exact hx
  · intro d1 i j r h1 h2 h3 h4 h5 hx
    refine xs0a.eq2 _ _ _ _ ?_
    have e := swapRange_ok (d := d1) (a := m - i) (b := m) (n := j) (by omega) (by omega) (by omega)
    simp only [xs0a.t2, bneI, dec_f (show ¬ i = j by omega), bang_f, cond_true, gt_dec, dec_t h1, w_sub (show i ≤ m by omega) (show m < 4611686018427387904 by omega), e, Option.bind_some, w_sub (show j ≤ i by omega) (show i < 4611686018427387904 by omega)]
    exact hx
  · intro d1 i j r h1 h2 h3 h4 h5 hx
    refine xs0a.eq2 _ _ _ _ ?_
    have e := swapRange_ok (d := d1) (a := m - i) (b := m + j - i) (n := i) (by omega) (by omega) (by omega)
    simp only [xs0a.t2, bneI, dec_f (show ¬ i = j by omega), bang_f, cond_true, cond_false, gt_dec, dec_f (show ¬ j < i by omega), w_sub (show i ≤ m by omega) (show m < 4611686018427387904 by omega), w_add (show m + j < 4611686018427387904 by omega), w_sub (show i ≤ m + j by omega) (show m + j < 4611686018427387904 by omega), e, Option.bind_some, w_sub (show i ≤ j by omega) (show j < 4611686018427387904 by omega)]
    exact hx
  · rintro d' ⟨h1, h2, h3⟩
    rw [show m - (m - a) = a by omega, show m + (b - m) = b by omega] at h1 h2
    refine ⟨d', xs0a.eq _ _ _ _ ?_, h1, h2⟩
    simp only [xs0a.t, w_sub (show a ≤ m by omega) (show m < 4611686018427387904 by omega), w_sub (show m ≤ b by omega) (show b < 4611686018427387904 by omega)]
    exact h3 d' rfl
end GoV

/- The weight of a row: by binary search, and one by one. -/
namespace GoV
open Go
def weightP (l : List WRow) (r : List Int) : Int := match l.find? (fun w => cmpL w.1 r == 0) with | some w => w.2 | none => 0
/-- The middle of two numbers, as Go reckons it. -/
theorem mid_nat (i j : Nat) (h : i + j < 4611686018427387904) : IntKind.i64.wrap ((IntKind.u64.wrap (IntKind.i64.wrap ((i : Int) + (j : Int)))).fdiv ((2 : Int) ^ Min.min (Int.toNat (1 : Int)) IntKind.u64.bits)) = (((i + j) / 2 : Nat) : Int) := by
  have e1 : IntKind.i64.wrap ((i : Int) + (j : Int)) = ((i + j : Nat) : Int) := by rw [wrap_id] <;> omega
  have e2 : IntKind.u64.wrap ((i + j : Nat) : Int) = ((i + j : Nat) : Int) := by
    have : IntKind.u64.wrap ((i + j : Nat) : Int) = ((i + j : Nat) : Int) % 18446744073709551616 := by simp [IntKind.wrap, IntKind.bits, IntKind.signed]
    rw [this]
    omega
  have e3 : Min.min (Int.toNat (1 : Int)) IntKind.u64.bits = 1 := rfl
  rw [e1, e2, e3, Int.pow_one, Int.fdiv_eq_ediv_of_nonneg _ (by omega)]
  rw [wrap_id] <;> omega
section
variable {l : List WRow} {r : List Int} (hl : l.length ≤ 1073741824) (hr : ∀ w, w ∈ l → w.1.length ≤ 1073741824) (hx : r.length ≤ 1073741824) (hs : sortedW l)
include hl hr hx hs
end
end GoV

/- The library's stable sort of rows with weights: merging in place, and all of it. -/
namespace GoV
open Go
theorem RotF.none {f : Nat → WRow} {s m t : Nat} (h : s = m ∨ t = m) (h1 : s ≤ m) (h2 : m ≤ t) : RotF f f s m t := by
  intro k
  by_cases c1 : s ≤ k ∧ k < s + (t - m)
  · rw [if_pos c1]; congr 1; omega
  · rw [if_neg c1]
    by_cases c2 : s + (t - m) ≤ k ∧ k < t
    · rw [if_pos c2]; congr 1; omega
    · rw [if_neg c2]
theorem one_eq (i j : Nat) (h : j ≤ i) (h2 : i < 4611686018427387904) : (IntKind.i64.wrap ((i : Int) - (j : Int)) == (1 : Int)) = decide (i - j = 1) := by
  rw [w_sub h h2]
  by_cases e : i - j = 1
  · rw [e]; rfl
  · rw [dec_f e]
    exact beq_eq_false_iff_ne.2 (by omega)
abbrev zW : WRow := ([], 0)
/-- One element alone to the left. -/
theorem sym_left {d : List WRow} {a b : Nat} (hab : a + 1 < b) (hb : b ≤ d.length) (hl : d.length ≤ 1073741824) (hr : Rows d) (hs : SortS zW ltW d (a + 1) b) :
    ∃ d', xs09 d (a : Int) ((a + 1 : Nat) : Int) (b : Int) = some d' ∧ Mv zW d d' a b ∧ SortS zW ltW d' a b := by
  have hmono : ∀ h k, a + 1 ≤ k → k ≤ h → h < b → ltW (d.getD h zW) (d.getD a zW) = true → ltW (d.getD k zW) (d.getD a zW) = true := by
    intro h k h1 h2 h3 h4
    cases e : ltW (d.getD k zW) (d.getD a zW) with
    | true => rfl
    | false =>
      have := ltW_ord.tr _ _ _ e (hs.le ltW_ord h1 h2 h3)
      rw [this] at h4; cases h4
  refine Exists.elim (bs_loop (p := fun h => ltW (d.getD h zW) (d.getD a zW)) (lo := a + 1) (hi := b) hmono (fun i j => xs09.l3 d (a : Int) (i : Int) (j : Int)) (fun q => xs09.l9 d (q : Int) (a : Int)) ?_ ?_ ?_ _ (a + 1) b rfl (Nat.le_refl _) (by omega) (Nat.le_refl _) (fun k h1 h2 => by omega) (fun k h1 h2 => by omega)) ?_
  · intro i r h1 h2 hx
    exact xs09.eq3 _ _ _ _ (by simp only [xs09.t3, ix_lt, Nat.lt_irrefl, decide_false, cond_false]; exact hx)
  · intro i j r h1 h2 h3 h4 hx
    have hm := mid_nat i j (by omega)
    have hh : (i + j) / 2 < d.length := by omega
    have hal : a < d.length := by omega
    have hc : decide (cmpL (d.getD ((i + j) / 2) ([], 0)).1 (d.getD a ([], 0)).1 < 0) = true := h4
    refine xs09.eq3 _ _ _ _ ?_
    simp only [xs09.t3, ix_lt, dec_t h1, cond_true, hm, ix_nn, ix_nat, dec_t hh, dec_t hal, impl_summed_1_eq _ _ _ _ (hr _ (getD_mem ([], 0) hh)) (hr _ (getD_mem ([], 0) hal)), Option.bind_some, hc, wrap_succ (show (i + j) / 2 < 9223372036854775807 by omega)]
    exact hx
  · intro i j r h1 h2 h3 h4 hx
    have hm := mid_nat i j (by omega)
    have hh : (i + j) / 2 < d.length := by omega
    have hal : a < d.length := by omega
    have hc : decide (cmpL (d.getD ((i + j) / 2) ([], 0)).1 (d.getD a ([], 0)).1 < 0) = false := h4
    refine xs09.eq3 _ _ _ _ ?_
    simp only [xs09.t3, ix_lt, dec_t h1, cond_true, hm, ix_nn, ix_nat, dec_t hh, dec_t hal, impl_summed_1_eq _ _ _ _ (hr _ (getD_mem ([], 0) hh)) (hr _ (getD_mem ([], 0) hal)), Option.bind_some, hc, cond_false]
    exact hx
  · rintro q ⟨q1, q2, q3, q4, q5⟩
    refine Exists.elim (up_loop (z := zW) (e := q - 1) (N := d.length) (by omega) (fun d k => xs09.l9 d (q : Int) (k : Int)) some ?_ ?_ _ a d rfl (by omega) rfl) ?_
    · intro d1 r _ hx
      refine xs09.eq9 _ _ _ ?_
      simp only [xs09.t9, wrap_pred (show 0 < q by omega) (show q < 9223372036854775807 by omega), ix_lt, Nat.lt_irrefl, decide_false, cond_false]
      exact hx
    · intro d1 k r h1 h2 hx
      have hk : k < d1.length := by omega
      have hk1 : k + 1 < d1.length := by omega
      have hset : ∀ x : WRow, decide (k + 1 < (d1.set k x).length) = true := fun x => by rw [List.length_set]; exact dec_t hk1
      refine xs09.eq9 _ _ _ ?_
      simp only [xs09.t9, wrap_pred (show 0 < q by omega) (show q < 9223372036854775807 by omega), ix_lt, dec_t h1, cond_true, wrap_succ (show k < 9223372036854775807 by omega), ix_nn, ix_nat, dec_t hk, dec_t hk1, hset]
      exact hx
    · rintro d' ⟨k1, k2, k3⟩
      refine ⟨d', xs09.eq _ _ _ _ ?_, k1.mono (Nat.le_refl _) (by omega), ?_⟩
      · simp only [xs09.t, one_eq _ _ (show a ≤ a + 1 by omega) (show a + 1 < 4611686018427387904 by omega), dec_t (show a + 1 - a = 1 by omega), cond_true]
        exact q5 _ (k3 d' rfl)
      · refine sort_up (i := q) ltW_asym hs (by omega) q2 (fun k h1 h2 => q3 k (by omega) h2) (fun k h1 h2 => q4 k h1 h2) ?_
        intro k
        exact k2 k
/-- One element alone to the right. -/
theorem sym_right {d : List WRow} {a m : Nat} (ham : a + 1 < m) (hb : m + 1 ≤ d.length) (hl : d.length ≤ 1073741824) (hr : Rows d) (hs : SortS zW ltW d a m) :
    ∃ d', xs09 d (a : Int) (m : Int) ((m + 1 : Nat) : Int) = some d' ∧ Mv zW d d' a (m + 1) ∧ SortS zW ltW d' a (m + 1) := by
  have hmono : ∀ h k, a ≤ k → k ≤ h → h < m → (!ltW (d.getD m zW) (d.getD h zW)) = true → (!ltW (d.getD m zW) (d.getD k zW)) = true := by
    intro h k h1 h2 h3 h4
    have h4' : ltW (d.getD m zW) (d.getD h zW) = false := by simpa using h4
    have := ltW_ord.tr _ _ _ (hs.le ltW_ord h1 h2 h3) h4'
    rw [this]; rfl
  refine Exists.elim (bs_loop (p := fun h => !ltW (d.getD m zW) (d.getD h zW)) (lo := a) (hi := m) hmono (fun i j => xs09.l15 d (m : Int) (i : Int) (j : Int)) (fun q => xs09.l21 d (q : Int) (m : Int)) ?_ ?_ ?_ _ a m rfl (Nat.le_refl _) (by omega) (Nat.le_refl _) (fun k h1 h2 => by omega) (fun k h1 h2 => by omega)) ?_
  · intro i r h1 h2 hx
    exact xs09.eq15 _ _ _ _ (by simp only [xs09.t15, ix_lt, Nat.lt_irrefl, decide_false, cond_false]; exact hx)
  · intro i j r h1 h2 h3 h4 hx
    have hm := mid_nat i j (by omega)
    have hh : (i + j) / 2 < d.length := by omega
    have hal : m < d.length := by omega
    have hc : decide (cmpL (d.getD m ([], 0)).1 (d.getD ((i + j) / 2) ([], 0)).1 < 0) = false := by simpa [ltW] using h4
    refine xs09.eq15 _ _ _ _ ?_
    simp only [xs09.t15, ix_lt, dec_t h1, cond_true, hm, ix_nn, ix_nat, dec_t hh, dec_t hal, impl_summed_1_eq _ _ _ _ (hr _ (getD_mem ([], 0) hal)) (hr _ (getD_mem ([], 0) hh)), Option.bind_some, hc, bang_f, wrap_succ (show (i + j) / 2 < 9223372036854775807 by omega)]
    exact hx
  · intro i j r h1 h2 h3 h4 hx
    have hm := mid_nat i j (by omega)
    have hh : (i + j) / 2 < d.length := by omega
    have hal : m < d.length := by omega
    have hc : decide (cmpL (d.getD m ([], 0)).1 (d.getD ((i + j) / 2) ([], 0)).1 < 0) = true := by simpa [ltW] using h4
    refine xs09.eq15 _ _ _ _ ?_
    simp only [xs09.t15, ix_lt, dec_t h1, cond_true, cond_false, hm, ix_nn, ix_nat, dec_t hh, dec_t hal, impl_summed_1_eq _ _ _ _ (hr _ (getD_mem ([], 0) hal)) (hr _ (getD_mem ([], 0) hh)), Option.bind_some, hc, bang_t]
    exact hx
  · rintro q ⟨q1, q2, q3, q4, q5⟩
    refine Exists.elim (down_loop (z := zW) (e := q) (N := d.length) (fun d k => xs09.l21 d (q : Int) (k : Int)) some ?_ ?_ _ m d rfl q2 (by omega) rfl) ?_
    · intro d1 r _ hx
      refine xs09.eq21 _ _ _ ?_
      simp only [xs09.t21, gt_dec, Nat.lt_irrefl, decide_false, cond_false]
      exact hx
    · intro d1 k r h1 h1' h2 hx
      have hk : k < d1.length := by omega
      have hk1 : k - 1 < d1.length := by omega
      have hset : ∀ x : WRow, decide (k - 1 < (d1.set k x).length) = true := fun x => by rw [List.length_set]; exact dec_t hk1
      refine xs09.eq21 _ _ _ ?_
      simp only [xs09.t21, gt_dec, dec_t h1, cond_true, wrap_pred (show 0 < k by omega) (show k < 9223372036854775807 by omega), ix_nn, ix_nat, dec_t hk, dec_t hk1, hset]
      exact hx
    · rintro d' ⟨k1, k2, k3⟩
      refine ⟨d', xs09.eq _ _ _ _ ?_, k1.mono q1 (Nat.le_refl _), ?_⟩
      · simp only [xs09.t, one_eq _ _ (show a ≤ m by omega) (show m < 4611686018427387904 by omega), dec_f (show ¬ m - a = 1 by omega), cond_false, one_eq _ _ (show m ≤ m + 1 by omega) (show m + 1 < 4611686018427387904 by omega), dec_t (show m + 1 - m = 1 by omega), cond_true]
        exact q5 _ (k3 d' rfl)
      · refine sort_down (i := q) ltW_asym hs q1 q2 (fun k h1 h2 => by simpa using q3 k h1 h2) (fun k h1 h2 => by simpa using q4 k h1 h2) ?_
        intro k
        exact k2 k
end GoV

/- The library's stable sort of rows with weights: merging in place. -/
namespace GoV
open Go
theorem sym_ok : ∀ (n : Nat) (d : List WRow) (a m b : Nat), b - a = n → a < m → m < b → b ≤ d.length → d.length ≤ 1073741824 → Rows d → SortS zW ltW d a m → SortS zW ltW d m b →
    ∃ d', xs09 d (a : Int) (m : Int) (b : Int) = some d' ∧ Mv zW d d' a b ∧ SortS zW ltW d' a b := by
  intro n
  induction n using Nat.strongRecOn with
  | ind n ih =>
    intro d a m b hn ham hmb hb hl hr h1 h2
    by_cases e1 : m = a + 1
    · subst e1
      exact sym_left (by omega) hb hl hr h2
    by_cases e2 : b = m + 1
    · subst e2
      exact sym_right (by omega) hb hl hr h1
    obtain ⟨mid, hmid⟩ : ∃ mid, mid = (a + b) / 2 := ⟨_, rfl⟩
    obtain ⟨s0, hs0⟩ : ∃ s0, s0 = if m > mid then mid + m - b else a := ⟨_, rfl⟩
    obtain ⟨r0, hr0⟩ : ∃ r0, r0 = if m > mid then mid else m := ⟨_, rfl⟩
    have hbd : ∀ c, s0 ≤ c → c < r0 → (a ≤ c ∧ c < m) ∧ m ≤ mid + m - 1 - c ∧ mid + m - 1 - c < b := by
      intro c g1 g2
      split at hs0 <;> split at hr0 <;> omega
    have hsr : s0 ≤ r0 ∧ r0 < 1073741824 := by
      split at hs0 <;> split at hr0 <;> omega
    have hmono : ∀ h k, s0 ≤ k → k ≤ h → h < r0 → (!ltW (d.getD (mid + m - 1 - h) zW) (d.getD h zW)) = true → (!ltW (d.getD (mid + m - 1 - k) zW) (d.getD k zW)) = true := by
      intro h k g1 g2 g3 g4
      have g4' : ltW (d.getD (mid + m - 1 - h) zW) (d.getD h zW) = false := by simpa using g4
      obtain ⟨⟨k1, k2⟩, k3, k4⟩ := hbd k g1 (by omega)
      obtain ⟨⟨k5, k6⟩, k7, k8⟩ := hbd h (by omega) g3
      have := ltW_ord.tr _ _ _ (ltW_ord.tr _ _ _ (h1.le ltW_ord k1 g2 k6) g4') (h2.le ltW_ord k7 (show mid + m - 1 - h ≤ mid + m - 1 - k by omega) k4)
      rw [this]; rfl
    refine Exists.elim (bs_loop (p := fun c => !ltW (d.getD (mid + m - 1 - c) zW) (d.getD c zW)) (lo := s0) (hi := r0) hmono
      (fun i j => xs09.l33 d (a : Int) (m : Int) (b : Int) (mid : Int) ((mid + m : Nat) : Int) (i : Int) (j : Int) ((mid + m - 1 : Nat) : Int))
      (fun q => xs09.l33 d (a : Int) (m : Int) (b : Int) (mid : Int) ((mid + m : Nat) : Int) (q : Int) (q : Int) ((mid + m - 1 : Nat) : Int)) (fun i r _ _ h => h) ?_ ?_ _ s0 r0 rfl (Nat.le_refl _) hsr.1 (Nat.le_refl _) (fun k h1 h2 => by omega) (fun k h1 h2 => by omega)) ?_
    · intro i j r g1 g2 g3 g4 hx
      obtain ⟨⟨k1, k2⟩, k3, k4⟩ := hbd ((i + j) / 2) (by omega) (by omega)
      have hm := mid_nat i j (by omega)
      have hh : (i + j) / 2 < d.length := by omega
      have hal : mid + m - 1 - (i + j) / 2 < d.length := by omega
      have hc : decide (cmpL (d.getD (mid + m - 1 - (i + j) / 2) ([], 0)).1 (d.getD ((i + j) / 2) ([], 0)).1 < 0) = false := by simpa [ltW] using g4
      refine xs09.eq33 _ _ _ _ _ _ _ _ _ ?_
      simp only [xs09.t33, ix_lt, dec_t g1, cond_true, hm, w_sub (show (i + j) / 2 ≤ mid + m - 1 by omega) (show mid + m - 1 < 4611686018427387904 by omega), ix_nn, ix_nat, dec_t hh, dec_t hal, impl_summed_1_eq _ _ _ _ (hr _ (getD_mem ([], 0) hal)) (hr _ (getD_mem ([], 0) hh)), Option.bind_some, hc, bang_f, wrap_succ (show (i + j) / 2 < 9223372036854775807 by omega)]
      exact hx
    · intro i j r g1 g2 g3 g4 hx
      obtain ⟨⟨k1, k2⟩, k3, k4⟩ := hbd ((i + j) / 2) (by omega) (by omega)
      have hm := mid_nat i j (by omega)
      have hh : (i + j) / 2 < d.length := by omega
      have hal : mid + m - 1 - (i + j) / 2 < d.length := by omega
      have hc : decide (cmpL (d.getD (mid + m - 1 - (i + j) / 2) ([], 0)).1 (d.getD ((i + j) / 2) ([], 0)).1 < 0) = true := by simpa [ltW] using g4
      refine xs09.eq33 _ _ _ _ _ _ _ _ _ ?_
      simp only [xs09.t33, ix_lt, dec_t g1, cond_true, cond_false, hm, w_sub (show (i + j) / 2 ≤ mid + m - 1 by omega) (show mid + m - 1 < 4611686018427387904 by omega), ix_nn, ix_nat, dec_t hh, dec_t hal, impl_summed_1_eq _ _ _ _ (hr _ (getD_mem ([], 0) hal)) (hr _ (getD_mem ([], 0) hh)), Option.bind_some, hc, bang_t]
      exact hx
    · rintro s ⟨q1, q2, q3, q4, q5⟩
      obtain ⟨t, ht⟩ : ∃ t, t = mid + m - s := ⟨_, rfl⟩
      have hst : a ≤ s ∧ s ≤ m ∧ m ≤ t ∧ t ≤ b ∧ s ≤ mid ∧ mid ≤ t := by
        split at hs0 <;> split at hr0 <;> omega
      obtain ⟨b1, b2, b3, b4, b5, b6⟩ := hst
      -- the rotation
      obtain ⟨e, he1, he2, he3, he4⟩ : ∃ e, Mv zW d e a b ∧ RotF (fun k => d.getD k zW) (fun k => e.getD k zW) s m t ∧ (s < m ∧ m < t → xs0a d (s : Int) (m : Int) (t : Int) = some e) ∧ (¬ (s < m ∧ m < t) → e = d) := by
        by_cases c : s < m ∧ m < t
        · obtain ⟨e, k1, k2, k3⟩ := rotate_ok (d := d) c.1 c.2 (by omega) hl
          exact ⟨e, k2.mono b1 b4, k3, fun _ => k1, fun h => absurd c h⟩
        · exact ⟨d, .refl _ _ _, RotF.none (by omega) b2 b3, fun h => absurd h c, fun _ => rfl⟩
      obtain ⟨_, x1, x2, x3, x4, x5⟩ := sym_halves ltW_ord ltW_asym hmid ham hmb h1 h2 hs0 hr0 q1 q2 ht (fun c g1 g2 => by simpa using q3 c g1 g2) (fun c g1 g2 => by simpa using q4 c g1 g2) he2
      have hel : e.length = d.length := he1.len
      have her : Rows e := hr.perm he1.perm
      -- the left half
      obtain ⟨f, hf1, hf2, hf3, hf4⟩ : ∃ f, Mv zW e f a mid ∧ SortS zW ltW f a mid ∧ (a < s ∧ s < mid → xs09 e (a : Int) (s : Int) (mid : Int) = some f) ∧ (¬ (a < s ∧ s < mid) → f = e) := by
        by_cases c : a < s ∧ s < mid
        · obtain ⟨f, k1, k2, k3⟩ := ih (mid - a) (by omega) e a s mid rfl c.1 c.2 (by omega) (by omega) her x1 x2
          exact ⟨f, k2, k3, fun _ => k1, fun h => absurd c h⟩
        · refine ⟨e, .refl _ _ _, ?_, fun h => absurd h c, fun _ => rfl⟩
          by_cases c2 : a = s
          · rw [c2]; exact x2
          · have : s = mid := by omega
            rw [← this]; exact x1
      have hfl : f.length = e.length := hf1.len
      have hfr : Rows f := her.perm hf1.perm
      have hout : ∀ k, mid ≤ k → f.getD k zW = e.getD k zW := fun k hk => hf1.out k (.inr hk)
      have y3 : SortS zW ltW f mid t := x3.congr fun k g _ => hout k g
      have y4 : SortS zW ltW f t b := x4.congr fun k g _ => hout k (by omega)
      -- the right half
      obtain ⟨g, hg1, hg2, hg3, hg4⟩ : ∃ g, Mv zW f g mid b ∧ SortS zW ltW g mid b ∧ (mid < t ∧ t < b → xs09 f (mid : Int) (t : Int) (b : Int) = some g) ∧ (¬ (mid < t ∧ t < b) → g = f) := by
        by_cases c : mid < t ∧ t < b
        · obtain ⟨g, k1, k2, k3⟩ := ih (b - mid) (by omega) f mid t b rfl c.1 c.2 (by omega) (by omega) hfr y3 y4
          exact ⟨g, k2, k3, fun _ => k1, fun h => absurd c h⟩
        · refine ⟨f, .refl _ _ _, ?_, fun h => absurd h c, fun _ => rfl⟩
          by_cases c2 : mid = t
          · rw [c2]; exact y4
          · have : t = b := by omega
            rw [← this]; exact y3
      have hmidb : a < mid ∧ mid < b := by omega
      have hfg : Mv zW e g a b := (hf1.mono (Nat.le_refl _) (by omega)).trans (hg1.mono (by omega) (Nat.le_refl _))
      have hin : ∀ k, k < mid → g.getD k zW = f.getD k zW := fun k hk => hg1.out k (.inl hk)
      refine ⟨g, ?_, he1.trans hfg, ?_⟩
      · refine xs09.eq _ _ _ _ ?_
        have hm := mid_nat a b (by omega)
        rw [← hmid] at hm
        have hres : xs09.l33 d (a : Int) (m : Int) (b : Int) (mid : Int) ((mid + m : Nat) : Int) (s : Int) (s : Int) ((mid + m - 1 : Nat) : Int) = some g := by
          refine xs09.eq33 _ _ _ _ _ _ _ _ _ ?_
          have hsub : IntKind.i64.wrap (((mid + m : Nat) : Int) - (s : Int)) = (t : Int) := by rw [w_sub (by omega) (by omega), ht]
          simp only [xs09.t33, ix_lt, Nat.lt_irrefl, decide_false, cond_false, hsub]
          by_cases c1 : s < m ∧ m < t
          · have z1 := he3 c1
            simp only [dec_t c1.1, dec_t c1.2, cond_true, z1, Option.bind_some]
            by_cases c2 : a < s ∧ s < mid
            · have z2 := hf3 c2
              simp only [dec_t c2.1, dec_t c2.2, cond_true, z2, Option.bind_some]
              by_cases c3 : mid < t ∧ t < b
              · simp only [dec_t c3.1, dec_t c3.2, cond_true, hg3 c3, Option.bind_some]
              · rw [hg4 c3]
                by_cases c4 : mid < t
                · simp only [dec_t c4, dec_f (show ¬ t < b from fun h => c3 ⟨c4, h⟩), cond_true, cond_false]
                · simp only [dec_f c4, cond_false]
            · have z2 := hf4 c2
              subst z2
              by_cases c5 : a < s
              · simp only [dec_t c5, dec_f (show ¬ s < mid from fun h => c2 ⟨c5, h⟩), cond_true, cond_false]
                by_cases c3 : mid < t ∧ t < b
                · simp only [dec_t c3.1, dec_t c3.2, cond_true, hg3 c3, Option.bind_some]
                · rw [hg4 c3]
                  by_cases c4 : mid < t
                  · simp only [dec_t c4, dec_f (show ¬ t < b from fun h => c3 ⟨c4, h⟩), cond_true, cond_false]
                  · simp only [dec_f c4, cond_false]
              · simp only [dec_f c5, cond_false]
                by_cases c3 : mid < t ∧ t < b
                · simp only [dec_t c3.1, dec_t c3.2, cond_true, hg3 c3, Option.bind_some]
                · rw [hg4 c3]
                  by_cases c4 : mid < t
                  · simp only [dec_t c4, dec_f (show ¬ t < b from fun h => c3 ⟨c4, h⟩), cond_true, cond_false]
                  · simp only [dec_f c4, cond_false]
          · have z1 := he4 c1
            subst z1
            have hno : (decide (s < m) && decide (m < t)) = false := by
              by_cases c6 : s < m
              · rw [dec_f (show ¬ m < t from fun h => c1 ⟨c6, h⟩), Bool.and_false]
              · rw [dec_f c6, Bool.false_and]
            by_cases c6 : s < m
            · simp only [dec_t c6, dec_f (show ¬ m < t from fun h => c1 ⟨c6, h⟩), cond_true, cond_false]
              by_cases c2 : a < s ∧ s < mid
              · have z2 := hf3 c2
                simp only [dec_t c2.1, dec_t c2.2, cond_true, z2, Option.bind_some]
                by_cases c3 : mid < t ∧ t < b
                · simp only [dec_t c3.1, dec_t c3.2, cond_true, hg3 c3, Option.bind_some]
                · rw [hg4 c3]
                  by_cases c4 : mid < t
                  · simp only [dec_t c4, dec_f (show ¬ t < b from fun h => c3 ⟨c4, h⟩), cond_true, cond_false]
                  · simp only [dec_f c4, cond_false]
              · have z2 := hf4 c2
                subst z2
                by_cases c5 : a < s
                · simp only [dec_t c5, dec_f (show ¬ s < mid from fun h => c2 ⟨c5, h⟩), cond_true, cond_false]
                  by_cases c3 : mid < t ∧ t < b
                  · simp only [dec_t c3.1, dec_t c3.2, cond_true, hg3 c3, Option.bind_some]
                  · rw [hg4 c3]
                    by_cases c4 : mid < t
                    · simp only [dec_t c4, dec_f (show ¬ t < b from fun h => c3 ⟨c4, h⟩), cond_true, cond_false]
                    · simp only [dec_f c4, cond_false]
                · simp only [dec_f c5, cond_false]
                  by_cases c3 : mid < t ∧ t < b
                  · simp only [dec_t c3.1, dec_t c3.2, cond_true, hg3 c3, Option.bind_some]
                  · rw [hg4 c3]
                    by_cases c4 : mid < t
                    · simp only [dec_t c4, dec_f (show ¬ t < b from fun h => c3 ⟨c4, h⟩), cond_true, cond_false]
                    · simp only [dec_f c4, cond_false]
            · simp only [dec_f c6, cond_false]
              by_cases c2 : a < s ∧ s < mid
              · have z2 := hf3 c2
                simp only [dec_t c2.1, dec_t c2.2, cond_true, z2, Option.bind_some]
                by_cases c3 : mid < t ∧ t < b
                · simp only [dec_t c3.1, dec_t c3.2, cond_true, hg3 c3, Option.bind_some]
                · rw [hg4 c3]
                  by_cases c4 : mid < t
                  · simp only [dec_t c4, dec_f (show ¬ t < b from fun h => c3 ⟨c4, h⟩), cond_true, cond_false]
                  · simp only [dec_f c4, cond_false]
              · have z2 := hf4 c2
                subst z2
                by_cases c5 : a < s
                · simp only [dec_t c5, dec_f (show ¬ s < mid from fun h => c2 ⟨c5, h⟩), cond_true, cond_false]
                  by_cases c3 : mid < t ∧ t < b
                  · simp only [dec_t c3.1, dec_t c3.2, cond_true, hg3 c3, Option.bind_some]
                  · rw [hg4 c3]
                    by_cases c4 : mid < t
                    · simp only [dec_t c4, dec_f (show ¬ t < b from fun h => c3 ⟨c4, h⟩), cond_true, cond_false]
                    · simp only [dec_f c4, cond_false]
                · simp only [dec_f c5, cond_false]
                  by_cases c3 : mid < t ∧ t < b
                  · simp only [dec_t c3.1, dec_t c3.2, cond_true, hg3 c3, Option.bind_some]
                  · rw [hg4 c3]
                    by_cases c4 : mid < t
                    · simp only [dec_t c4, dec_f (show ¬ t < b from fun h => c3 ⟨c4, h⟩), cond_true, cond_false]
                    · simp only [dec_f c4, cond_false]
        have hq := q5 _ hres
        have hn : IntKind.i64.wrap ((mid : Int) + (m : Int)) = ((mid + m : Nat) : Int) := w_add (by omega)
        have hp : IntKind.i64.wrap (((mid + m : Nat) : Int) - (1 : Int)) = ((mid + m - 1 : Nat) : Int) := wrap_pred (by omega) (by omega)
        simp only [xs09.t, one_eq _ _ (show a ≤ m by omega) (show m < 4611686018427387904 by omega), dec_f (show ¬ m - a = 1 by omega), cond_false, one_eq _ _ (show m ≤ b by omega) (show b < 4611686018427387904 by omega), dec_f (show ¬ b - m = 1 by omega), hm, hn, hp, gt_dec]
        by_cases c : m > mid
        · rw [if_pos c] at hs0 hr0
          have hs : IntKind.i64.wrap (((mid + m : Nat) : Int) - (b : Int)) = (s0 : Int) := by rw [w_sub (by omega) (by omega), hs0]
          simp only [dec_t (show mid < m from c), cond_true, hs]
          rw [hr0] at hq
          exact hq
        · rw [if_neg c] at hs0 hr0
          simp only [dec_f (show ¬ mid < m from c), cond_false]
          rw [hs0, hr0] at hq
          exact hq
      · refine sym_join (mid := mid) hfg (fun k g1 g2 => ?_) (fun k g1 g2 => ?_) (hf2.congr fun k _ g2 => hin k g2) hg2 x5
        · obtain ⟨j, k1, k2, k3⟩ := hf1.from' k g1 g2
          exact ⟨j, k1, k2, by rw [hin k g2]; exact k3⟩
        · obtain ⟨j, k1, k2, k3⟩ := hg1.from' k g1 g2
          exact ⟨j, k1, k2, by rw [k3]; exact hout j k1⟩
end GoV

/- The library's stable sort of rows with weights: blocks sorted, then merged. -/
namespace GoV
open Go
/-- The first A blocks of s are sorted, each in itself. -/
def LoB (d : List WRow) (s A n : Nat) : Prop := ∀ q, q < A → q * s < n → SortS zW ltW d (q * s) (min (q * s + s) n)
/-- The blocks from the A-th on. -/
def HiB (d : List WRow) (s A n : Nat) : Prop := ∀ q, A ≤ q → q * s < n → SortS zW ltW d (q * s) (min (q * s + s) n)
theorem mul_le_of_lt {q A s : Nat} (h : q < A) : q * s + s ≤ A * s := by
  have := Nat.mul_le_mul_right s (show q + 1 ≤ A by omega)
  rwa [Nat.succ_mul] at this
theorem LoB.keep {d d' : List WRow} {s A n a b : Nat} (h : LoB d s A n) (hm : Mv zW d d' a b) (ha : A * s ≤ a) : LoB d' s A n := fun q h1 h2 =>
  (h q h1 h2).congr fun k _ g2 => hm.out k (.inl (by have := mul_le_of_lt (s := s) h1; omega))
theorem HiB.keep {d d' : List WRow} {s A n a b : Nat} (h : HiB d s A n) (hm : Mv zW d d' a b) (hb : b ≤ A * s) : HiB d' s A n := fun q h1 h2 =>
  (h q h1 h2).congr fun k g1 _ => hm.out k (.inr (by have := Nat.mul_le_mul_right s h1; omega))
theorem blocks_ok {n : Nat} {β : Type} (L : List WRow → Nat → Option β) (K : List WRow → Option β) (hn : n ≤ 1073741824)
    (hs : ∀ d d' A r, d.length = n → Rows d → A * 20 + 20 ≤ n → xs05 d ((A * 20 : Nat) : Int) ((A * 20 + 20 : Nat) : Int) = some d' → L d' (A + 1) = some r → L d A = some r)
    (he : ∀ d d' A r, d.length = n → Rows d → A * 20 ≤ n → n < A * 20 + 20 → xs05 d ((A * 20 : Nat) : Int) (n : Int) = some d' → K d' = some r → L d A = some r) :
    ∀ m A d, n - A * 20 = m → A * 20 ≤ n → d.length = n → Rows d → LoB d 20 A n → ∃ d' B, Mv zW d d' 0 n ∧ LoB d' 20 B n ∧ n < B * 20 ∧ ∀ r, K d' = some r → L d A = some r := by
  intro m
  induction m using Nat.strongRecOn with
  | ind m ih =>
    intro A d hm hA hd hr hlo
    by_cases c : A * 20 + 20 ≤ n
    · obtain ⟨d1, k1, k2, k3⟩ := ins_ok (d := d) (a := A * 20) (b := A * 20 + 20) (by omega) (by omega) hr (by omega)
      have hlo1 : LoB d1 20 (A + 1) n := by
        intro q h1 h2
        by_cases e : q < A
        · exact (hlo.keep k2 (Nat.le_refl _)) q e h2
        · obtain rfl : q = A := by omega
          rw [Nat.min_eq_left c]
          exact k3
      obtain ⟨d', B, g1, g2, g3, g4⟩ := ih (n - (A + 1) * 20) (by omega) (A + 1) d1 rfl (by omega) (k2.len.trans hd) (hr.perm k2.perm) hlo1
      exact ⟨d', B, (k2.mono (by omega) c).trans g1, g2, g3, fun r hr' => hs d d1 A r hd hr c k1 (g4 r hr')⟩
    · obtain ⟨d1, k1, k2, k3⟩ := ins_ok (d := d) (a := A * 20) (b := n) (by omega) (by omega) hr (by omega)
      refine ⟨d1, A + 1, k2.mono (by omega) (Nat.le_refl _), ?_, by omega, fun r hr' => he d d1 A r hd hr hA (by omega) k1 hr'⟩
      intro q h1 h2
      by_cases e : q < A
      · exact (hlo.keep k2 (Nat.le_refl _)) q e h2
      · obtain rfl : q = A := by omega
        rw [Nat.min_eq_right (by omega)]
        exact k3
theorem twice (A s : Nat) : 2 * A * s = A * (2 * s) := by rw [Nat.mul_comm 2 A, Nat.mul_assoc]
theorem twice1 (A s : Nat) : (2 * A + 1) * s = A * (2 * s) + s := by rw [Nat.succ_mul, twice]
theorem twice2 (A s : Nat) : 2 * (A + 1) * s = A * (2 * s) + 2 * s := by rw [twice, Nat.succ_mul]
theorem merges_ok {n s : Nat} {β : Type} (hs0 : 0 < s) (L : List WRow → Nat → Option β) (K : List WRow → Option β) (hn : n ≤ 1073741824)
    (hs : ∀ d d' A r, d.length = n → Rows d → A * (2 * s) + 2 * s ≤ n → xs09 d ((A * (2 * s) : Nat) : Int) ((A * (2 * s) + s : Nat) : Int) ((A * (2 * s) + 2 * s : Nat) : Int) = some d' → L d' (A + 1) = some r → L d A = some r)
    (he1 : ∀ d d' A r, d.length = n → Rows d → n < A * (2 * s) + 2 * s → A * (2 * s) + s < n → xs09 d ((A * (2 * s) : Nat) : Int) ((A * (2 * s) + s : Nat) : Int) (n : Int) = some d' → K d' = some r → L d A = some r)
    (he2 : ∀ d A r, d.length = n → Rows d → A * (2 * s) ≤ n → n ≤ A * (2 * s) + s → K d = some r → L d A = some r) :
    ∀ m A d, n - A * (2 * s) = m → A * (2 * s) ≤ n → d.length = n → Rows d → LoB d (2 * s) A n → HiB d s (2 * A) n → ∃ d', Mv zW d d' 0 n ∧ HiB d' (2 * s) 0 n ∧ ∀ r, K d' = some r → L d A = some r := by
  intro m
  induction m using Nat.strongRecOn with
  | ind m ih =>
    intro A d hm hA hd hr hlo hhi
    have hfin : ∀ d' : List WRow, LoB d' (2 * s) (A + 1) n → n ≤ A * (2 * s) + 2 * s → HiB d' (2 * s) 0 n := by
      intro d' h hle q _ h2
      refine h q ?_ h2
      rcases Nat.lt_or_ge q (A + 1) with g | g
      · exact g
      · have := Nat.mul_le_mul_right (2 * s) g
        rw [Nat.succ_mul] at this
        omega
    have h1 : A * (2 * s) < n → SortS zW ltW d (A * (2 * s)) (min (A * (2 * s) + s) n) := fun h => by
      have := hhi (2 * A) (Nat.le_refl _) (by rw [twice]; exact h)
      rwa [twice] at this
    have h2 : A * (2 * s) + s < n → SortS zW ltW d (A * (2 * s) + s) (min (A * (2 * s) + 2 * s) n) := fun h => by
      have := hhi (2 * A + 1) (by omega) (by rw [twice1]; exact h)
      rw [twice1] at this
      rwa [show A * (2 * s) + s + s = A * (2 * s) + 2 * s by omega] at this
    by_cases c : A * (2 * s) + 2 * s ≤ n
    · have g1 := h1 (by omega)
      have g2 := h2 (by omega)
      rw [Nat.min_eq_left (by omega)] at g1 g2
      obtain ⟨d1, k1, k2, k3⟩ := sym_ok _ d (A * (2 * s)) (A * (2 * s) + s) (A * (2 * s) + 2 * s) rfl (by omega) (by omega) (by omega) (by omega) hr g1 g2
      have hlo1 : LoB d1 (2 * s) (A + 1) n := by
        intro q h1 h2
        by_cases e : q < A
        · exact (hlo.keep k2 (Nat.le_refl _)) q e h2
        · obtain rfl : q = A := by omega
          rw [Nat.min_eq_left c]
          exact k3
      have hhi1 : HiB d1 s (2 * (A + 1)) n := HiB.keep (A := 2 * (A + 1)) (fun q h1 h2 => hhi q (by omega) h2) k2 (by rw [twice2]; exact Nat.le_refl _)
      obtain ⟨d', g3, g4, g5⟩ := ih (n - (A + 1) * (2 * s)) (by rw [Nat.succ_mul]; omega) (A + 1) d1 rfl (by rw [Nat.succ_mul]; exact c) (k2.len.trans hd) (hr.perm k2.perm) hlo1 hhi1
      exact ⟨d', (k2.mono (by omega) c).trans g3, g4, fun r hr' => hs d d1 A r hd hr c k1 (g5 r hr')⟩
    · by_cases c2 : A * (2 * s) + s < n
      · have g1 := h1 (by omega)
        have g2 := h2 c2
        rw [Nat.min_eq_left (by omega)] at g1
        rw [Nat.min_eq_right (by omega)] at g2
        obtain ⟨d1, k1, k2, k3⟩ := sym_ok _ d (A * (2 * s)) (A * (2 * s) + s) n rfl (by omega) (by omega) (by omega) (by omega) hr g1 g2
        refine ⟨d1, k2.mono (by omega) (Nat.le_refl _), hfin d1 ?_ (by omega), fun r hr' => he1 d d1 A r hd hr (by omega) c2 k1 hr'⟩
        intro q h1 h2
        by_cases e : q < A
        · exact (hlo.keep k2 (Nat.le_refl _)) q e h2
        · obtain rfl : q = A := by omega
          rw [Nat.min_eq_right (by omega)]
          exact k3
      · refine ⟨d, .refl _ _ _, hfin d ?_ (by omega), fun r hr' => he2 d A r hd hr hA (by omega) hr'⟩
        intro q g1 g2
        by_cases e : q < A
        · exact hlo q e g2
        · obtain rfl : q = A := by omega
          have := h1 g2
          rw [Nat.min_eq_right (by omega)] at this ⊢
          exact this
end GoV

/- The library's stable sort of rows with weights. -/
namespace GoV
open Go
theorem double_ok {n : Nat} (hn : n ≤ 1073741824) : ∀ (m s : Nat) (d : List WRow), n - s = m → 0 < s → s ≤ 2147483648 → d.length = n → Rows d → HiB d s 0 n →
    ∃ d', xs0b.l7 d (n : Int) (s : Int) = some d' ∧ Mv zW d d' 0 n ∧ SortS zW ltW d' 0 n := by
  intro m
  induction m using Nat.strongRecOn with
  | ind m ih =>
    intro s d hm hs0 hs hd hr hB
    by_cases c : s < n
    · have hd2 : IntKind.i64.wrap ((2 : Int) * (s : Int)) = ((2 * s : Nat) : Int) := by rw [wrap_id] <;> omega
      have hd3 : IntKind.i64.wrap ((s : Int) * (2 : Int)) = ((2 * s : Nat) : Int) := by rw [wrap_id] <;> omega
      refine Exists.elim (merges_ok (n := n) (s := s) hs0 (fun d A => xs0b.l9 d (n : Int) (s : Int) ((A * (2 * s) : Nat) : Int) ((A * (2 * s) + 2 * s : Nat) : Int)) (fun d => xs0b.l7 d (n : Int) ((2 * s : Nat) : Int)) hn ?_ ?_ ?_ _ 0 d rfl (by omega) hd hr (fun q h => by omega) hB) ?_
      · intro d1 d2 A r h1 h2 h3 h4 hx
        refine xs0b.eq9 _ _ _ _ _ ?_
        have hle : ((A * (2 * s) + 2 * s : Nat) : Int) ≤ (n : Int) := by omega
        simp only [xs0b.t9, dec_t hle, cond_true, w_add (show A * (2 * s) + s < 4611686018427387904 by omega), h4, Option.bind_some, hd2, w_add (show A * (2 * s) + 2 * s + 2 * s < 4611686018427387904 by omega)]
        rw [Nat.succ_mul] at hx
        exact hx
      · intro d1 d2 A r h1 h2 h3 h3' h4 hx
        refine xs0b.eq9 _ _ _ _ _ ?_
        have hle : ¬ ((A * (2 * s) + 2 * s : Nat) : Int) ≤ (n : Int) := by omega
        simp only [xs0b.t9, dec_f hle, cond_false, w_add (show A * (2 * s) + s < 4611686018427387904 by omega), ix_lt, dec_t h3', cond_true, h4, Option.bind_some, hd3]
        exact hx
      · intro d1 A r h1 h2 h3 h3' hx
        refine xs0b.eq9 _ _ _ _ _ ?_
        have hle : ¬ ((A * (2 * s) + 2 * s : Nat) : Int) ≤ (n : Int) := by omega
        simp only [xs0b.t9, dec_f hle, cond_false, w_add (show A * (2 * s) + s < 4611686018427387904 by omega), ix_lt, dec_f (show ¬ A * (2 * s) + s < n by omega), hd3]
        exact hx
      · rintro d1 ⟨k1, k2, k3⟩
        obtain ⟨d', g1, g2, g3⟩ := ih (n - 2 * s) (by omega) (2 * s) d1 rfl (by omega) (by omega) (k1.len.trans hd) (hr.perm k1.perm) k2
        refine ⟨d', xs0b.eq7 _ _ _ ?_, k1.trans g2, g3⟩
        have := k3 d' g1
        simp only [Nat.zero_mul, Nat.zero_add] at this
        simp only [xs0b.t7, ix_lt, dec_t c, cond_true, hd2]
        exact this
    · refine ⟨d, xs0b.eq7 _ _ _ ?_, .refl _ _ _, ?_⟩
      · simp only [xs0b.t7, ix_lt, dec_f c, cond_false]
      · intro i j h1 h2 h3
        have := hB 0 (Nat.le_refl _) (by omega)
        rw [Nat.zero_mul, Nat.zero_add, Nat.min_eq_right (by omega)] at this
        exact this i j h1 h2 h3
theorem sort_ok {d : List WRow} (hl : d.length ≤ 1073741824) (hr : Rows d) :
    ∃ d', xs02 d = some d' ∧ d'.Perm d ∧ SortS zW ltW d' 0 d'.length := by
  refine Exists.elim (blocks_ok (n := d.length) (fun d1 A => xs0b.l2 d1 (d.length : Int) 20 ((A * 20 : Nat) : Int) ((A * 20 + 20 : Nat) : Int)) (fun d1 => xs0b.l7 d1 (d.length : Int) 20) hl ?_ ?_ _ 0 d rfl (by omega) rfl hr (fun q h => by omega)) ?_
  · intro d1 d2 A r h1 h2 h3 h4 hx
    refine xs0b.eq2 _ _ _ _ _ ?_
    have hle : ((A * 20 + 20 : Nat) : Int) ≤ (d.length : Int) := by omega
    have hw : IntKind.i64.wrap (((A * 20 + 20 : Nat) : Int) + (20 : Int)) = (((A + 1) * 20 + 20 : Nat) : Int) := by rw [wrap_id] <;> omega
    have e : (A + 1) * 20 = A * 20 + 20 := by omega
    simp only [xs0b.t2, dec_t hle, cond_true, h4, Option.bind_some, hw]
    rw [← e]
    exact hx
  · intro d1 d2 A r h1 h2 h3 h3' h4 hx
    refine xs0b.eq2 _ _ _ _ _ ?_
    have hle : ¬ ((A * 20 + 20 : Nat) : Int) ≤ (d.length : Int) := by omega
    simp only [xs0b.t2, dec_f hle, cond_false, h4, Option.bind_some]
    exact hx
  · rintro d1 ⟨B, k1, k2, k3, k4⟩
    have hB : HiB d1 20 0 d.length := fun q _ h2 => k2 q (by omega) h2
    obtain ⟨d', g1, g2, g3⟩ := double_ok hl _ 20 d1 rfl (by omega) (by omega) k1.len (hr.perm k1.perm) hB
    have hm := k1.trans g2
    refine ⟨d', xs02.eq _ ?_, hm.perm, by rw [hm.len]; exact g3⟩
    have h2 := k4 d' g1
    have h3 := xs0b.eq d (d.length : Int) (b := d') (by simp only [xs0b.t]; exact h2)
    simp only [xs02.t, h3, Option.bind_some]
end GoV

/- A table handed on if it is good. -/
namespace GoV
open Go
end GoV

/- Lists of rows summed: what the program's 'summed' gives. -/
namespace GoV
open Go
theorem impl_summed_eq {c M : Int} {ls : List (List WRow)} {a b : List WRow} (he : ls.flatten = a ++ b) (hn : ls.length ≤ 1073741824) (hl : ls.flatten.length ≤ 1073741824) (hr : Rows ls.flatten) (hM : 0 ≤ M) (hw : ∀ w, w ∈ ls.flatten → -M ≤ w.2 ∧ w.2 ≤ M) (hbig : M * (ls.flatten.length : Int) ≤ 9223372036854775807)
    (h1 : sortedW a) (h2 : nzW a) : impl_summed c ls = some (c, putsL a b) := by
  have e1 := slices_Concat_W_eq ls hl hn
  obtain ⟨d, e2, hp, hs⟩ := sort_ok (d := ls.flatten) hl hr
  have hlen : d.length = ls.flatten.length := hp.length_eq
  have e3 := (groups_ok (d := d) (c := c) (M := M) (by omega) (hr.perm hp) hM (fun w hw' => hw w (hp.mem_iff.1 hw')) (by rw [hlen]; exact hbig) 0 (Nat.zero_le _)).1 [] (by simp)
  rw [List.drop_zero, List.nil_append, group_puts (by rw [← he]; exact hp) hs h1 h2] at e3
  refine impl_summed.eq c ls ?_
  simp only [impl_summed.t, e1, e2, Option.bind_some]
  exact e3
end GoV

/- Tables that are good, with as many columns. -/
namespace GoV
open Go
def alikeB (c : Int) (a : List WRow) (d : Int) (b : List WRow) : Bool := goodT c a && (goodT d b && (c == d))
end GoV

/- Some cells of a row; numbers of columns. -/
namespace GoV
open Go
def pickR (r cs : List Int) : List Int := cs.map fun k => r.getD k.toNat 0
def pickG (r : List Int) (k : Int) : List Int := [r.getD k.toNat 0]
theorem pickG_map (r : List Int) : ∀ cs : List Int, cs.flatMap (pickG r) = pickR r cs
  | [] => rfl
  | k :: cs => by rw [List.flatMap_cons, pickG_map r cs]; rfl
theorem pickR_len (r cs : List Int) : (pickR r cs).length = cs.length := by simp [pickR]
def plB (n k : Int) : Bool := decide (0 ≤ k) && decide (k < n)
theorem plB_iff {n k : Int} : plB n k = true ↔ 0 ≤ k ∧ k < n := by simp [plB]
def colsB (n : Int) (cs : List Int) : Bool := cs.all (plB n) && decide (cs.length ≤ 6)
theorem lenDec (n k : Nat) : decide ((n : Int) ≤ (k : Int)) = decide (n ≤ k) := by
  by_cases h : n ≤ k
  · rw [dec_t h, dec_t (by omega)]
  · rw [dec_f h, dec_f (by omega)]
/-- A row that is put in counts with a bound for all. -/
theorem puts_all_loop {α β : Type} (l : List α) (z : α) (p : α → Bool) (row : α → List Int) (wt : α → Int) (L : List WRow → Nat → Option β) (res : List WRow → Option β) (bad : β) {M m : Int} {N : Nat} (hM : 0 ≤ M) (hm : 0 ≤ m)
    (hp : ∀ x, x ∈ l → p x = true → (row x).length ≤ 1073741824 ∧ (-m ≤ wt x ∧ wt x ≤ m))
    (he : ∀ acc b, PutOK (M + m * l.length) (N + l.length) acc → res acc = some b → L acc l.length = some b)
    (hf : ∀ acc i, i < l.length → p (l.getD i z) = false → L acc i = some bad)
    (hs : ∀ acc i b, i < l.length → p (l.getD i z) = true → PutOK (M + m * i) (N + i) acc → L (putL acc (row (l.getD i z)) (wt (l.getD i z))) (i + 1) = some b → L acc i = some b) :
    ∀ acc b, PutOK M N acc → (bif l.all p then res (l.foldl (fun acc x => putL acc (row x) (wt x)) acc) else some bad) = some b → L acc 0 = some b := by
  have key : ∀ i, i ≤ l.length → ∀ acc b, PutOK (M + m * i) (N + i) acc → (bif (l.drop i).all p then res ((l.drop i).foldl (fun acc x => putL acc (row x) (wt x)) acc) else some bad) = some b → L acc i = some b := by
    refine upto ?_ ?_
    · intro acc b ha hb
      rw [List.drop_length] at hb
      exact he acc b ha hb
    · intro i hi ih acc b ha hb
      rw [drop_getD z hi, List.foldl_cons, List.all_cons] at hb
      cases hq : p (l.getD i z) with
      | false =>
        rw [hq, Bool.false_and, cond_false] at hb
        rw [← hb]
        exact hf acc i hi hq
      | true =>
        rw [hq, Bool.true_and] at hb
        refine hs acc i b hi hq ha (ih _ b ?_ hb)
        obtain ⟨k1, k2⟩ := hp _ (getD_mem z hi) hq
        have h0 : 0 ≤ m * (i : Int) := Int.mul_nonneg hm (by omega)
        have := ha.put k1 k2 (by omega) hm
        have e : M + m * ((i + 1 : Nat) : Int) = M + m * (i : Int) + m := by
          rw [Int.natCast_succ, Int.mul_add, Int.mul_one]; omega
        rw [e]
        exact this
  intro acc b ha hb
  refine key 0 (Nat.zero_le _) acc b ?_ (by rw [List.drop_zero]; exact hb)
  simpa using ha
theorem PutOK.nil : PutOK 0 0 [] := ⟨Nat.le_refl _, fun _ h => (by cases h), fun _ h => (by cases h)⟩
theorem putsL_rows {c : Nat} {b : List WRow} (h : ∀ w, w ∈ b → w.1.length ≤ c) : (putsL [] b).length ≤ b.length ∧ ∀ w, w ∈ putsL [] b → w.1.length ≤ c := by
  obtain ⟨_, _, _, h1, h2⟩ := putsL_ok b (l := []) .nil (fun _ h => (by cases h))
  refine ⟨by simpa using h2, fun w hw => ?_⟩
  rcases h1 w hw with h3 | ⟨u, hu, e⟩
  · cases h3
  · rw [e]; exact h u hu
/-- Rows summed, none ahead. -/
theorem impl_summed_one {c M : Int} {b : List WRow} (hl : b.length ≤ 1073741824) (hr : Rows b) (hM : 0 ≤ M) (hw : ∀ w, w ∈ b → -M ≤ w.2 ∧ w.2 ≤ M) (hbig : M * (b.length : Int) ≤ 9223372036854775807) : impl_summed c [b] = some (c, putsL [] b) := by
  have e : [b].flatten = [] ++ b := by simp
  have e' : [b].flatten = b := by simp
  exact impl_summed_eq (M := M) e (by simp) (by rw [e']; exact hl) (by rw [e']; exact hr) hM (by rw [e']; exact hw) (by rw [e']; exact hbig) .nil (fun _ h => (by cases h))
end GoV

/- Tables kept with other weights (printed by wip/tools/lawgen.py). -/
namespace GoV
open Go
theorem xi0h_ok (v0 : Int) (v1 : List (List Int × Int)) (f : WRow → Int) (hl : v1.length ≤ 1073741824) (hr : ∀ w, w ∈ v1 → w.1.length ≤ 1073741824) (hf : ∀ w, w ∈ v1 → xi0o (w.fst) (w.snd) = some (f w)) : xi0h v0 v1 = some (v0, keptL f v1) := by
  refine xi0h.eq v0 v1 ?_
  simp only [xi0h.t]
  refine push_loop v1 ([], 0) (fun acc i => xi0h.l3 ((0 : Int)) ([]) (v0) acc (v1) ((↑v1.length : Int)) (i : Int)) (keptG f) (keptG_len f) (fun acc => some (v0, acc)) ?_ ?_ _ rfl
  · intro acc b _ hb
    exact xi0h.eq3 _ _ _ _ _ _ _ (by simp only [xi0h.t3, ix_lt, Nat.lt_irrefl, decide_false, cond_false]; exact hb)
  · intro acc i b hi ha hb
    have hmem := getD_mem (([], 0) : WRow) hi
    have hw := hr _ hmem
    have hc := hf _ hmem
    refine xi0h.eq3 _ _ _ _ _ _ _ ?_
    simp only [xi0h.t3, ix_lt, ix_nn, ix_nat, dec_t hi, cond_true, hc, Option.bind_some, wrap_succ (show i < 9223372036854775807 by omega)]
    simp only [keptG] at hb
    by_cases h0 : f (v1.getD i ([], 0)) = 0
    · rw [if_pos h0, List.append_nil] at hb
      have : (f (v1.getD i ([], 0)) != 0) = false := by rw [h0]; exact bne_ref _
      simp only [this, cond_false]
      exact hb
    · rw [if_neg h0] at hb
      have h1 : (f (v1.getD i ([], 0)) != 0) = true := bne_iff_ne.2 h0
      have h2 : acc.length + [((v1.getD i ([], 0)).1, f (v1.getD i ([], 0)))].length ≤ 4294967296 := by simp only [List.length_cons, List.length_nil]; omega
      simp only [h1, impl_Row_own_eq _ hw, Option.bind_some, dec_t h2, cond_true]
      exact hb
end GoV

/- Rows once each. -/
namespace GoV
open Go
def oneP (n : Int) : Int := if n > 0 then 1 else 0
theorem impl_one_eq (n : Int) : impl_one n = some (oneP n) := by
  refine impl_one.eq n ?_
  simp only [impl_one.t, oneP]
  by_cases h : n > 0
  · simp only [dec_t h, cond_true, if_pos h]
  · simp only [dec_f h, cond_false, if_neg h]
theorem spec_l3Distinct_eq (l : List WRow) (hl : l.length ≤ 1073741824) : spec_l3Distinct l = some (keptL (fun w => oneP w.2) l) := by
  refine spec_l3Distinct.eq l ?_
  simp only [spec_l3Distinct.t]
  refine push_loop l ([], 0) (fun acc i => spec_l3Distinct.l3 acc l (l.length : Int) (i : Int)) (keptG fun w => oneP w.2) (keptG_len _) some ?_ ?_ _ rfl
  · intro acc b _ hb
    exact spec_l3Distinct.eq3 _ _ _ _ (by simp only [spec_l3Distinct.t3, ix_lt, Nat.lt_irrefl, decide_false, cond_false]; exact hb)
  · intro acc i b hi ha hb
    refine spec_l3Distinct.eq3 _ _ _ _ ?_
    simp only [spec_l3Distinct.t3, ix_lt, ix_nn, ix_nat, dec_t hi, cond_true, wrap_succ (show i < 9223372036854775807 by omega)]
    by_cases h0 : (l.getD i ([], 0)).2 > 0
    · rw [keptG_some (v := 1) (if_pos h0) (by omega)] at hb
      have h2 : acc.length + [((l.getD i ([], 0)).1, (1 : Int))].length ≤ 4294967296 := by simp only [List.length_cons, List.length_nil]; omega
      simp only [dec_t h0, dec_t h2, cond_true]
      exact hb
    · rw [keptG_zero (if_neg h0), List.append_nil] at hb
      simp only [dec_f h0, cond_false]
      exact hb
theorem xi0o_eq (r : List Int) (n : Int) : xi0o r n = some (oneP n) := xi0o.eq r n (by simp only [xi0o.t, impl_one_eq, Option.bind_some])
theorem xi0s_eq (c : Int) (l : List WRow) (hl : l.length ≤ 1073741824) (hr : ∀ w, w ∈ l → w.1.length ≤ 1073741824) : xi0s c l = some (c, keptL (fun w => oneP w.2) l) := by
  have := xi0h_ok c l (fun w => oneP w.2) hl hr (fun w _ => xi0o_eq w.1 w.2)
  exact xi0s.eq c l (by simp only [xi0s.t, this, Option.bind_some])
theorem goodT_distinct {c : Int} {l : List WRow} (h : goodT c l = true) : goodT c (keptL (fun w => oneP w.2) l) = true := goodT_kept h fun w _ => by
  simp only [oneP]
  split <;> omega
end GoV

/- TableauTable: the program's answer is the specification's. -/
namespace GoV
open Go
def rowTab (c : Int) (r : List Int) : Bool := (goodR r && ((r.length : Int) == c)) && r.all fun x => decide (0 ≤ x)
def goodTab (c : Int) (l : List (List Int)) : Bool := (inB 1 6 c && inB 1 8 (l.length : Int)) && l.all (rowTab c)
section
variable {c : Int} {l : List (List Int)} (hl : l.length ≤ 1073741824) (hr : ∀ r, r ∈ l → r.length ≤ 1073741824)
include hl hr
theorem spec_GoodTableau_eq : spec_GoodTableau c l = some (goodTab c l) := by
  refine spec_GoodTableau.eq c l ?_
  simp only [spec_GoodTableau.t]
  have := all_loop l [] (fun i => spec_GoodTableau.l2 c l l (l.length : Int) (i : Int)) (rowTab c) false (inB 1 6 c && inB 1 8 (l.length : Int)) ?_ ?_ ?_
  · refine Eq.trans this ?_
    simp only [goodTab]
    cases l.all (rowTab c)
    · simp
    · simp
  · refine spec_GoodTableau.eq2 _ _ _ _ _ ?_
    simp only [spec_GoodTableau.t2, ix_lt, Nat.lt_irrefl, decide_false, cond_false, spec_l1In_eq, Option.bind_some]
    cases inB 1 6 c <;> rfl
  · intro i hi hb
    have hw := hr _ (getD_mem [] hi)
    refine spec_GoodTableau.eq2 _ _ _ _ _ ?_
    simp only [rowTab] at hb
    simp only [spec_GoodTableau.t2, ix_lt, ix_nn, ix_nat, dec_t hi, cond_true, spec_GoodRow_eq _ hw, Option.bind_some, bne]
    cases h1 : goodR (l.getD i [])
    · rfl
    · cases h2 : ((l.getD i []).length : Int) == c
      · rfl
      · rw [h1, h2, Bool.true_and, Bool.true_and] at hb
        simp only [bang_t, cond_false]
        refine bad_loop (l := l.getD i []) (z := 0) (L := fun j => spec_GoodTableau.l7 c l l (l.length : Int) (i : Int) (l.getD i []) ((l.getD i []).length : Int) (j : Int)) (p := fun x => decide (0 ≤ x)) ?_ ?_ hb
        · intro j hj hq
          have h3 : (l.getD i []).getD j 0 < 0 := by
            have := of_decide_eq_false hq
            omega
          exact spec_GoodTableau.eq7 _ _ _ _ _ _ _ _ (by simp only [spec_GoodTableau.t7, ix_lt, ix_nn, ix_nat, dec_t hj, dec_t h3, cond_true])
        · intro j b hj hq hb
          have h3 : ¬ (l.getD i []).getD j 0 < 0 := by
            have := of_decide_eq_true hq
            omega
          exact spec_GoodTableau.eq7 _ _ _ _ _ _ _ _ (by simp only [spec_GoodTableau.t7, ix_lt, ix_nn, ix_nat, dec_t hj, dec_f h3, cond_true, cond_false, wrap_succ (show j < 9223372036854775807 by omega)]; exact hb)
  · intro i b hi hb hs
    have hw := hr _ (getD_mem [] hi)
    simp only [rowTab, Bool.and_eq_true] at hb
    obtain ⟨⟨h1, h2⟩, h3⟩ := hb
    refine spec_GoodTableau.eq2 _ _ _ _ _ ?_
    simp only [spec_GoodTableau.t2, ix_lt, ix_nn, ix_nat, dec_t hi, cond_true, spec_GoodRow_eq _ hw, Option.bind_some, bne, h1, h2, bang_t, cond_false]
    refine good_loop (l := l.getD i []) (z := 0) (L := fun j => spec_GoodTableau.l7 c l l (l.length : Int) (i : Int) (l.getD i []) ((l.getD i []).length : Int) (j : Int)) (p := fun x => decide (0 ≤ x)) ?_ h3 ?_
    · intro j b hj hq hb
      have h3 : ¬ (l.getD i []).getD j 0 < 0 := by
        have := of_decide_eq_true hq
        omega
      exact spec_GoodTableau.eq7 _ _ _ _ _ _ _ _ (by simp only [spec_GoodTableau.t7, ix_lt, ix_nn, ix_nat, dec_t hj, dec_f h3, cond_true, cond_false, wrap_succ (show j < 9223372036854775807 by omega)]; exact hb)
    · exact spec_GoodTableau.eq7 _ _ _ _ _ _ _ _ (by simp only [spec_GoodTableau.t7, ix_lt, Nat.lt_irrefl, decide_false, cond_false, wrap_succ (show i < 9223372036854775807 by omega)]; exact hs)
theorem impl_GoodTableau_eq : impl_GoodTableau c l = some (goodTab c l) := by
  refine impl_GoodTableau.eq c l ?_
  have e2 := xi0f_ok l c l (rowTab c) (by omega) (fun r h => by
    have hw := hr r h
    have e3 := xi0i_ok r (fun x => decide (0 ≤ x)) (by omega) (fun x _ => xi0p.eq _ (by simp only [xi0p.t]; try rfl))
    refine impl_GoodTableau_1.eq _ _ _ ?_
    simp only [impl_GoodTableau_1.t, impl_isRowOf_eq _ _ hw, e3, Option.bind_some, rowTab]
    cases goodR r && ((r.length : Int) == c) <;> rfl)
  simp only [impl_GoodTableau.t, impl_within_eq, e2, Option.bind_some, goodTab]
  cases inB 1 6 c
  · rfl
  · cases inB 1 8 (l.length : Int) <;> rfl
end
def oneT (r : List Int) : WRow := (r, 1)
theorem oneT_map : ∀ l : List (List Int), l.flatMap (fun r => [oneT r]) = l.map oneT
  | [] => rfl
  | r :: l => by rw [List.flatMap_cons, oneT_map l]; rfl
theorem FnExactTableauTable_same (v0 : Int) (v1 : List (List Int)) (w0 : WfT (.pair (.int .i64) (.sl (.sl (.int .i64)))) (v0, v1)) (hz0 : szT (.pair (.int .i64) (.sl (.sl (.int .i64)))) (v0, v1) ≤ 1048576) :
    ∃ (a : Int) (b : List (List Int × Int)) (ok : Bool), spec_TableauTable v0 v1 = some (a, b, ok) ∧ impl_TableauTable v0 v1 = some (a, b, ok) ∧ szT (.pair (.int .i64) (.sl (.pair (.sl (.int .i64)) (.int .i64)))) (a, b) ≤ 1073741824 := by
  have hz : szT (.sl (.sl (.int .i64))) v1 ≤ 1048576 := by simp only [szT] at hz0 ⊢; omega
  have h1 := szT_len (t := .sl (.int .i64)) (l := v1)
  have hl : v1.length ≤ 1073741824 := by omega
  have hr : ∀ r, r ∈ v1 → r.length ≤ 1073741824 := fun r h => by
    have h2 := szT_mem (t := .sl (.int .i64)) (l := v1) h
    have h3 := szT_len (t := .int .i64) (l := r)
    omega
  have e1 := spec_GoodTableau_eq (c := v0) hl hr
  have e2 := impl_GoodTableau_eq (c := v0) hl hr
  cases hg : goodTab v0 v1 with
  | false => exact ⟨0, [], false, spec_TableauTable.eq _ _ (by simp only [spec_TableauTable.t, e1, hg, Option.bind_some, bang_f, cond_true]), impl_TableauTable.eq _ _ (by simp only [impl_TableauTable.t, e2, hg, Option.bind_some, bang_f, cond_true]), tab_none⟩
  | true =>
    have hgg := hg
    simp only [goodTab, Bool.and_eq_true, inB_iff] at hg
    obtain ⟨⟨hc, hn⟩, hall⟩ := hg
    have hrow : ∀ r, r ∈ v1 → goodR r = true ∧ (r.length : Int) = v0 := fun r h => by
      have := List.all_eq_true.1 hall r h
      simp only [rowTab, Bool.and_eq_true, beq_iff_eq] at this
      exact this.1
    have hm : ∀ w, w ∈ v1.map oneT → w.1.length ≤ 1073741824 ∧ (-1 ≤ w.2 ∧ w.2 ≤ 1) := fun w hw => by
      obtain ⟨r, h, rfl⟩ := List.mem_map.1 hw
      exact ⟨hr r h, by simp [oneT]⟩
    have e5 := impl_summed_one (c := v0) (M := 1) (b := v1.map oneT) (by rw [List.length_map]; omega) (fun w hw => (hm w hw).1) (by omega) (fun w hw => (hm w hw).2) (by rw [List.length_map]; omega)
    obtain ⟨r1, r2, _, r4, r5⟩ := putsL_ok (v1.map oneT) (l := []) .nil (fun _ h => (by cases h))
    rw [List.length_map, List.length_nil] at r5
    have hpr : ∀ w, w ∈ putsL [] (v1.map oneT) → goodR w.1 = true ∧ (w.1.length : Int) = v0 := fun w hw => by
      rcases r4 w hw with h | ⟨u, hu, e⟩
      · cases h
      · obtain ⟨r, h, rfl⟩ := List.mem_map.1 hu
        rw [e]; exact hrow r h
    have hpr' : ∀ w, w ∈ putsL [] (v1.map oneT) → w.1.length ≤ 1073741824 := fun w hw => by have := (hpr w hw).2; omega
    have hpl : (putsL [] (v1.map oneT)).length ≤ 1073741824 := by omega
    have e6 := xi0s_eq v0 (putsL [] (v1.map oneT)) hpl hpr'
    have e7 := spec_l3Distinct_eq (putsL [] (v1.map oneT)) hpl
    have hkl := keptL_len (fun w => oneP w.2) (putsL [] (v1.map oneT))
    have hgood : goodT v0 (keptL (fun w => oneP w.2) (putsL [] (v1.map oneT))) = true := by
      refine goodT_iff.2 ⟨by omega, by omega, fun w hw => ?_, keptL_sorted r1⟩
      obtain ⟨u, hu, rfl, hne⟩ := keptL_mem hw
      obtain ⟨g1, g2⟩ := hpr u hu
      refine rowB_iff.2 ⟨g1, g2, ?_, hne⟩
      simp only [oneP]
      split <;> omega
    have e8 := spec_l2Tell_eq v0 _ (Nat.le_trans hkl hpl) (fun w hw => by
      obtain ⟨u, hu, rfl, _⟩ := keptL_mem hw
      exact hpr' u hu)
    rw [hgood] at e8
    refine ⟨v0, _, true, spec_TableauTable.eq _ _ ?_, impl_TableauTable.eq _ _ ?_, tab_size hgood⟩
    · simp only [spec_TableauTable.t, e1, hgg, Option.bind_some, bang_t, cond_false]
      have e9 : putsL [] (v1.map oneT) = v1.foldl (fun acc r => putL acc r 1) [] := by rw [putsL, List.foldl_map]; rfl
      refine puts_loop v1 [] (fun r => r) (fun _ => 1) (fun acc i => spec_TableauTable.l5 v0 v1 0 [] acc v1 (v1.length : Int) (i : Int)) (fun acc => (spec_l3Distinct acc).bind fun r2 => (spec_l2Tell v0 r2).bind fun r3 => some (r3.fst, r3.snd.fst, r3.snd.snd)) (M := 0) (m := 1) (N := 0) (Int.le_refl _) (by omega) hr (fun _ _ => by omega) ?_ ?_ [] _ PutOK.nil ?_
      · intro acc b _ hb
        exact spec_TableauTable.eq5 _ _ _ _ _ _ _ _ (by simp only [spec_TableauTable.t5, ix_lt, Nat.lt_irrefl, decide_false, cond_false]; exact hb)
      · intro acc i b hi ha hb
        have hw := hr _ (getD_mem [] hi)
        refine spec_TableauTable.eq5 _ _ _ _ _ _ _ _ ?_
        simp only [spec_TableauTable.t5, ix_lt, ix_nn, ix_nat, dec_t hi, cond_true, spec_l2Put_eq (Nat.le_trans ha.len (by omega)) ha.row hw (ha.wraps (m := 1) (n := 1) (by omega) (by omega)), Option.bind_some, wrap_succ (show i < 9223372036854775807 by omega)]
        exact hb
      · rw [← e9, e7, Option.bind_some, e8]; rfl
    · simp only [impl_TableauTable.t, e2, hgg, Option.bind_some, bang_t, cond_false]
      have e9 := oneT_map v1
      refine push_loop v1 [] (fun acc i => impl_TableauTable.l5 v0 v1 0 [] acc v1 (v1.length : Int) (i : Int)) (fun r => [oneT r]) (fun _ => Nat.le_refl _) (fun acc => (impl_summed v0 [acc]).bind fun r1 => (xi0s r1.fst r1.snd).bind fun r2 => some (r2.fst, r2.snd, true)) ?_ ?_ _ ?_
      · intro acc b _ hb
        exact impl_TableauTable.eq5 _ _ _ _ _ _ _ _ (by simp only [impl_TableauTable.t5, ix_lt, Nat.lt_irrefl, decide_false, cond_false]; exact hb)
      · intro acc i b hi ha hb
        have h6 : acc.length + [(v1.getD i [], (1 : Int))].length ≤ 4294967296 := by simp only [List.length_cons, List.length_nil]; omega
        refine impl_TableauTable.eq5 _ _ _ _ _ _ _ _ ?_
        simp only [impl_TableauTable.t5, ix_lt, ix_nn, ix_nat, dec_t hi, cond_true, dec_t h6, wrap_succ (show i < 9223372036854775807 by omega)]
        exact hb
      · rw [e9, e5, Option.bind_some, e6]; rfl
end GoV

/- FnExactTableauTable: the law out of its core. -/
namespace GoV
open Go
theorem FnExactTableauTable_true (v0 : Int) (v1 : List (List Int)) (w0 : WfT (.pair (.int .i64) (.sl (.sl (.int .i64)))) (v0, v1)) : xl0l v0 v1 = some true := by
  obtain ⟨left1, e1, a1, b1z⟩ := laws_szTableau_ok (v0) (v1) ((1048576 : Int)) w0 (by omega) (by omega)
  by_cases n1 : left1 < 0
  · exact xl0l.eq v0 v1 (by simp only [xl0l.t, e1, dec_t n1, cond_true, cond_false, Option.bind_some])
  have z1a := b1z (by omega)
  have hz0 : szT (.pair (.int .i64) (.sl (.sl (.int .i64)))) (v0, v1) ≤ 1048576 := by omega
  obtain ⟨ga, gb, gc, hspec, himpl, hsm⟩ := FnExactTableauTable_same v0 v1 w0 hz0
  -- the answer is small
  have e2 := laws_toTableau_id (v0) (v1) (by omega)
  have e4 := laws_toTableau_id (v0) (v1) (by omega)
  have e6 := laws_eqTable_rf (ga) (gb) (by first | omega | (simp only [szT] at *; omega))
  have e7 := laws_toTableau_id (v0) (v1) (by omega)
  have e8 := laws_eqTableau_rf (v0) (v1) (by first | omega | (simp only [szT] at *; omega))
  have q9 := cntT_le (T := (.pair (.int .i64) (.sl (.sl (.int .i64))))) (v0, v1) rfl
  simp only [Ty.size] at q9
  have e9 := xl0q_ok (v0) (v1) ((1 : Int)) (by omega) (by omega) (by omega)
  have p9 := mrT_cnt (.pair (.int .i64) (.sl (.sl (.int .i64)))) (v0, v1) (1 : Int)
  have g9 : ¬ (mrT (.pair (.int .i64) (.sl (.sl (.int .i64)))) (v0, v1) (1 : Int)).2 < 0 := by omega
  have e10 := laws_eqTable_rf (ga) (gb) (by first | omega | (simp only [szT] at *; omega))
  have q11 := cntT_le (T := (.pair (.int .i64) (.sl (.pair (.sl (.int .i64)) (.int .i64))))) (ga, gb) rfl
  simp only [Ty.size] at q11
  have e11 := laws_markTable_d7a_ok (ga) (gb) ((1 : Int)) (by omega) (by omega) (by omega)
  have p11 := mrT_cnt (.pair (.int .i64) (.sl (.pair (.sl (.int .i64)) (.int .i64)))) (ga, gb) (1 : Int)
  have g11 : ¬ (mrT (.pair (.int .i64) (.sl (.pair (.sl (.int .i64)) (.int .i64)))) (ga, gb) (1 : Int)).2 < 0 := by omega
  have e12 : laws_heldTable (ga) ((mrT (.pair (.int .i64) (.sl (.pair (.sl (.int .i64)) (.int .i64)))) (ga, gb) (1 : Int)).1.2) ((1 : Int)) = some (mrT (.pair (.int .i64) (.sl (.pair (.sl (.int .i64)) (.int .i64)))) (ga, gb) (1 : Int)).2 := laws_heldTable_ok (ga) (gb) (1 : Int) (by omega) (by omega) (by omega)
  have e13 := laws_toTableau_id (v0) (v1) (by omega)
  have e15 := laws_eqTable_rf (ga) (gb) (by first | omega | (simp only [szT] at *; omega))
  have e16 : laws_heldTable (ga) ((mrT (.pair (.int .i64) (.sl (.pair (.sl (.int .i64)) (.int .i64)))) (ga, gb) (1 : Int)).1.2) ((1 : Int)) = some (mrT (.pair (.int .i64) (.sl (.pair (.sl (.int .i64)) (.int .i64)))) (ga, gb) (1 : Int)).2 := laws_heldTable_ok (ga) (gb) (1 : Int) (by omega) (by omega) (by omega)
  refine xl0l.eq v0 v1 ?_
  simp only [xl0l.t, e1, dec_f n1, e2, e4, e6, e7, e8, e9, dec_f g9, e10, e11, dec_f g11, e12, e13, e15, e16, hspec, himpl, cond_true, cond_false, Option.bind_some, bne_ref, beq_ref, bang_t]
end GoV
