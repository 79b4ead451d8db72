/- A part of the proof of FnRolled: an interpreter of the model over plain data, its soundness, and what it makes of the functions that the statement reaches. Conditions: none beyond what the given statement itself says. -/
import Derived.Test.YtjbhilkkckfkmaaTQ
set_option linter.unusedVariables false
set_option linter.unusedSimpArgs false
set_option linter.unnecessarySimpa false
set_option linter.unusedSectionVars false
/- The library's stable sort of rows with weights. -/
namespace GoV
open Go
def Rows (d : List GRow) : Prop := ∀ w, w ∈ d → w.1.length ≤ 1073741824
theorem Rows.perm {d d' : List GRow} (h : Rows d) (hp : d'.Perm d) : Rows d' := fun w hw => h w (hp.mem_iff.1 hw)
open Classical in
/-- An answer that counts where the rows are no longer than they were. -/
noncomputable def gd {β : Type} (d : List GRow) (x : Option β) : Option β := if Rows d then x else none
theorem gd_some {β : Type} {d : List GRow} {x : Option β} {r : β} : gd d x = some r ↔ Rows d ∧ x = some r := by
  unfold gd
  split
  · rename_i h; exact ⟨fun e => ⟨h, e⟩, fun e => e.2⟩
  · rename_i h; exact ⟨fun e => (by cases e), fun e => absurd e.1 h⟩
theorem gd_swap {d : List GRow} {i j : Nat} (hi : i < d.length) (hj : j < d.length) (h : Rows (swapL ([], 0, 0) d i j)) : Rows d := h.perm (swapL_perm hi hj).symm
theorem xi1n_eq (a : List Int) (n n2 : Int) (b : List Int) (m m2 : Int) (ha : a.length ≤ 1073741824) (hb : b.length ≤ 1073741824) : xi1n a n n2 b m m2 = some (cmpL a b) := xi1n.eq _ _ _ _ _ _ (by simp only [xi1n.t, xi1b_eq _ _ ha hb, Option.bind_some])
theorem gt_dec (i j : Nat) : decide ((i : Int) > (j : Int)) = decide (j < i) := ix_lt j i
theorem ins_ok {d : List GRow} {a b : Nat} (hb : b ≤ d.length) (hl : d.length ≤ 1073741824) (hr : Rows d) (ha : a ≤ 1073741824) :
    ∃ d', xs08 d (a : Int) (b : Int) = some d' ∧ Mv ([], 0, 0) d d' a b ∧ SortS ([], 0, 0) ltG d' a b := by
  refine Exists.elim (ins_outer (z := (([] : List Int), (0 : Int), (0 : Int))) ltG_ord ltG_asym (a := a) (b := b) (N := d.length) hb
    (fun d i => gd d (xs08.l1 d (a : Int) (b : Int) (i : Int)))
    (fun i d j => gd d (xs08.l4 d (a : Int) (b : Int) (i : Int) (j : Int))) (fun d => gd d (some d)) ?_ ?_ ?_ ?_ ?_ _ (a + 1) d rfl (by omega) rfl (.one (by omega))) ?_
  · intro d i r h hx
    obtain ⟨g1, g2⟩ := gd_some.1 hx
    exact gd_some.2 ⟨g1, xs08.eq1 _ _ _ _ (by simp only [xs08.t1, ix_lt, dec_f (show ¬ i < b by omega), cond_false]; exact g2)⟩
  · intro d i r h1 h2 _ hx
    obtain ⟨g1, g2⟩ := gd_some.1 hx
    exact gd_some.2 ⟨g1, xs08.eq1 _ _ _ _ (by simp only [xs08.t1, ix_lt, dec_t h2, cond_true]; exact g2)⟩
  · intro d i r h1 hx
    obtain ⟨g1, g2⟩ := gd_some.1 hx
    exact gd_some.2 ⟨g1, xs08.eq4 _ _ _ _ _ (by simp only [xs08.t4, gt_dec, Nat.lt_irrefl, decide_false, cond_false, wrap_succ (show i < 9223372036854775807 by omega)]; exact g2)⟩
  · intro d1 i j r h1 h2 h3 h4 h5 hx
    obtain ⟨g1, g2⟩ := gd_some.1 hx
    have hj : j < d1.length := by omega
    have hj1 : j - 1 < d1.length := by omega
    have hc : decide (cmpL (d1.getD j ([], 0, 0)).1 (d1.getD (j - 1) ([], 0, 0)).1 < 0) = false := h5
    exact gd_some.2 ⟨g1, xs08.eq4 _ _ _ _ _ (by
      simp only [xs08.t4, gt_dec, dec_t h1, wrap_pred (show 0 < j by omega) (show j < 9223372036854775807 by omega), ix_nn, ix_nat, dec_t hj, dec_t hj1, cond_true, xi1n_eq _ _ _ _ _ _ (g1 _ (getD_mem ([], 0, 0) hj)) (g1 _ (getD_mem ([], 0, 0) hj1)), Option.bind_some, hc, cond_false, wrap_succ (show i < 9223372036854775807 by omega)]
      exact g2)⟩
  · intro d1 i j r h1 h2 h3 h4 h5 hx
    obtain ⟨g1, g2⟩ := gd_some.1 hx
    have hj : j < d1.length := by omega
    have hj1 : j - 1 < d1.length := by omega
    have g1 := gd_swap hj hj1 g1
    have hc : decide (cmpL (d1.getD j ([], 0, 0)).1 (d1.getD (j - 1) ([], 0, 0)).1 < 0) = true := h5
    have hs : ∀ x : GRow, decide (j - 1 < (d1.set j x).length) = true := fun x => by rw [List.length_set]; exact dec_t hj1
    exact gd_some.2 ⟨g1, xs08.eq4 _ _ _ _ _ (by
      simp only [xs08.t4, gt_dec, dec_t h1, wrap_pred (show 0 < j by omega) (show j < 9223372036854775807 by omega), ix_nn, ix_nat, dec_t hj, dec_t hj1, cond_true, xi1n_eq _ _ _ _ _ _ (g1 _ (getD_mem ([], 0, 0) hj)) (g1 _ (getD_mem ([], 0, 0) hj1)), Option.bind_some, hc, hs]
      exact g2)⟩
  · rintro d' ⟨h1, h2, h3⟩
    refine ⟨d', ?_, h1, h2⟩
    have := (gd_some.1 (h3 d' (gd_some.2 ⟨hr.perm h1.perm, rfl⟩))).2
    exact xs08.eq _ _ _ (by simp only [xs08.t, wrap_succ (show a < 9223372036854775807 by omega)]; exact this)
theorem w_add {i j : Nat} (h : i + j < 4611686018427387904) : IntKind.i64.wrap ((i : Int) + (j : Int)) = ((i + j : Nat) : Int) := by rw [wrap_id] <;> omega
theorem w_sub {i j : Nat} (h : j ≤ i) (h2 : i < 4611686018427387904) : IntKind.i64.wrap ((i : Int) - (j : Int)) = ((i - j : Nat) : Int) := by rw [wrap_id] <;> omega
theorem swapRange_ok {d : List GRow} {a b n : Nat} (h2 : b + n ≤ d.length) (h3 : a + n ≤ d.length) (hl : d.length ≤ 1073741824) :
    xs0c d (a : Int) (b : Int) (n : Int) = some (swapR ([], 0, 0) n d a b) := by
  refine xs0c.eq _ _ _ _ ?_
  simp only [xs0c.t]
  refine swap_loop (z := (([] : List Int), (0 : Int), (0 : Int))) (n := n) (a := a) (b := b) (N := d.length) (fun d i => xs0c.l1 d (a : Int) (b : Int) (n : Int) (i : Int)) some ?_ ?_ n 0 d rfl rfl (Nat.zero_le _) _ rfl
  · intro d1 r _ hx
    exact xs0c.eq1 _ _ _ _ _ (by simp only [xs0c.t1, ix_lt, Nat.lt_irrefl, decide_false, cond_false]; exact hx)
  · intro d1 i r hi hd hx
    have ha : a + i < d1.length := by omega
    have hb : b + i < d1.length := by omega
    have hs : ∀ x : GRow, decide (b + i < (d1.set (a + i) x).length) = true := fun x => by rw [List.length_set]; exact dec_t hb
    exact xs0c.eq1 _ _ _ _ _ (by
      simp only [xs0c.t1, ix_lt, dec_t hi, cond_true, w_add (show a + i < 4611686018427387904 by omega), w_add (show b + i < 4611686018427387904 by omega), ix_nn, ix_nat, dec_t ha, dec_t hb, hs, wrap_succ (show i < 9223372036854775807 by omega)]
      exact hx)
theorem rotate_ok {d : List GRow} {a m b : Nat} (ha : a < m) (hb : m < b) (hbl : b ≤ d.length) (hl : d.length ≤ 1073741824) :
    ∃ d', xs0e d (a : Int) (m : Int) (b : Int) = some d' ∧ Mv ([], 0, 0) d d' a b ∧ RotF (fun k => d.getD k ([], 0, 0)) (fun k => d'.getD k ([], 0, 0)) a m b := by
  refine Exists.elim (rot_loop (z := (([] : List Int), (0 : Int), (0 : Int))) (m := m) (N := d.length) (fun d i j => xs0e.l2 d (m : Int) (i : Int) (j : Int)) some ?_ ?_ ?_ _ (m - a) (b - m) d rfl (by omega) (by omega) (by omega) (by omega) rfl) ?_
  · intro d1 i r h1 h2 h3 h4 hx
    refine xs0e.eq2 _ _ _ _ ?_
    have e := swapRange_ok (d := d1) (a := m - i) (b := m) (n := i) (by omega) (by omega) (by omega)
    simp only [xs0e.t2, bne_ref, cond_false, w_sub (show i ≤ m by omega) (show m < 4611686018427387904 by omega), e, Option.bind_some]
    exact hx
  · intro d1 i j r h1 h2 h3 h4 h5 hx
    refine xs0e.eq2 _ _ _ _ ?_
    have e := swapRange_ok (d := d1) (a := m - i) (b := m) (n := j) (by omega) (by omega) (by omega)
    simp only [xs0e.t2, bneI, dec_f (show ¬ i = j by omega), bang_f, cond_true, gt_dec, dec_t h1, w_sub (show i ≤ m by omega) (show m < 4611686018427387904 by omega), e, Option.bind_some, w_sub (show j ≤ i by omega) (show i < 4611686018427387904 by omega)]
    exact hx
  · intro d1 i j r h1 h2 h3 h4 h5 hx
    refine xs0e.eq2 _ _ _ _ ?_
    have e := swapRange_ok (d := d1) (a := m - i) (b := m + j - i) (n := i) (by omega) (by omega) (by omega)
    simp only [xs0e.t2, bneI, dec_f (show ¬ i = j by omega), bang_f, cond_true, cond_false, gt_dec, dec_f (show ¬ j < i by omega), w_sub (show i ≤ m by omega) (show m < 4611686018427387904 by omega), w_add (show m + j < 4611686018427387904 by omega), w_sub (show i ≤ m + j by omega) (show m + j < 4611686018427387904 by omega), e, Option.bind_some, w_sub (show i ≤ j by omega) (show j < 4611686018427387904 by omega)]
    exact hx
  · rintro d' ⟨h1, h2, h3⟩
    rw [show m - (m - a) = a by omega, show m + (b - m) = b by omega] at h1 h2
    refine ⟨d', xs0e.eq _ _ _ _ ?_, h1, h2⟩
    simp only [xs0e.t, w_sub (show a ≤ m by omega) (show m < 4611686018427387904 by omega), w_sub (show m ≤ b by omega) (show b < 4611686018427387904 by omega)]
    exact h3 d' rfl
end GoV

/- The weight of a row: by binary search, and one by one. -/
namespace GoV
open Go
def weightP (l : List WRow) (r : List Int) : Int := match l.find? (fun w => cmpL w.1 r == 0) with | some w => w.2 | none => 0
/-- The middle of two numbers, as Go reckons it. -/
theorem mid_nat (i j : Nat) (h : i + j < 4611686018427387904) : IntKind.i64.wrap ((IntKind.u64.wrap (IntKind.i64.wrap ((i : Int) + (j : Int)))).fdiv ((2 : Int) ^ Min.min (Int.toNat (1 : Int)) IntKind.u64.bits)) = (((i + j) / 2 : Nat) : Int) := by
  have e1 : IntKind.i64.wrap ((i : Int) + (j : Int)) = ((i + j : Nat) : Int) := by rw [wrap_id] <;> omega
  have e2 : IntKind.u64.wrap ((i + j : Nat) : Int) = ((i + j : Nat) : Int) := by
    have : IntKind.u64.wrap ((i + j : Nat) : Int) = ((i + j : Nat) : Int) % 18446744073709551616 := by simp [IntKind.wrap, IntKind.bits, IntKind.signed]
    rw [this]
    omega
  have e3 : Min.min (Int.toNat (1 : Int)) IntKind.u64.bits = 1 := rfl
  rw [e1, e2, e3, Int.pow_one, Int.fdiv_eq_ediv_of_nonneg _ (by omega)]
  rw [wrap_id] <;> omega
section
variable {l : List WRow} {r : List Int} (hl : l.length ≤ 1073741824) (hr : ∀ w, w ∈ l → w.1.length ≤ 1073741824) (hx : r.length ≤ 1073741824) (hs : sortedW l)
include hl hr hx hs
end
end GoV

/- The library's stable sort of rows with weights: merging in place, and all of it. -/
namespace GoV
open Go
theorem RotF.none {f : Nat → GRow} {s m t : Nat} (h : s = m ∨ t = m) (h1 : s ≤ m) (h2 : m ≤ t) : RotF f f s m t := by
  intro k
  by_cases c1 : s ≤ k ∧ k < s + (t - m)
  · rw [if_pos c1]; congr 1; omega
  · rw [if_neg c1]
    by_cases c2 : s + (t - m) ≤ k ∧ k < t
    · rw [if_pos c2]; congr 1; omega
    · rw [if_neg c2]
theorem one_eq (i j : Nat) (h : j ≤ i) (h2 : i < 4611686018427387904) : (IntKind.i64.wrap ((i : Int) - (j : Int)) == (1 : Int)) = decide (i - j = 1) := by
  rw [w_sub h h2]
  by_cases e : i - j = 1
  · rw [e]; rfl
  · rw [dec_f e]
    exact beq_eq_false_iff_ne.2 (by omega)
abbrev zG : GRow := ([], 0, 0)
/-- One element alone to the left. -/
theorem sym_left {d : List GRow} {a b : Nat} (hab : a + 1 < b) (hb : b ≤ d.length) (hl : d.length ≤ 1073741824) (hr : Rows d) (hs : SortS zG ltG d (a + 1) b) :
    ∃ d', xs0d d (a : Int) ((a + 1 : Nat) : Int) (b : Int) = some d' ∧ Mv zG d d' a b ∧ SortS zG ltG d' a b := by
  have hmono : ∀ h k, a + 1 ≤ k → k ≤ h → h < b → ltG (d.getD h zG) (d.getD a zG) = true → ltG (d.getD k zG) (d.getD a zG) = true := by
    intro h k h1 h2 h3 h4
    cases e : ltG (d.getD k zG) (d.getD a zG) with
    | true => rfl
    | false =>
      have := ltG_ord.tr _ _ _ e (hs.le ltG_ord h1 h2 h3)
      rw [this] at h4; cases h4
  refine Exists.elim (bs_loop (p := fun h => ltG (d.getD h zG) (d.getD a zG)) (lo := a + 1) (hi := b) hmono (fun i j => xs0d.l3 d (a : Int) (i : Int) (j : Int)) (fun q => xs0d.l9 d (q : Int) (a : Int)) ?_ ?_ ?_ _ (a + 1) b rfl (Nat.le_refl _) (by omega) (Nat.le_refl _) (fun k h1 h2 => by omega) (fun k h1 h2 => by omega)) ?_
  · intro i r h1 h2 hx
    exact xs0d.eq3 _ _ _ _ (by simp only [xs0d.t3, ix_lt, Nat.lt_irrefl, decide_false, cond_false]; exact hx)
  · intro i j r h1 h2 h3 h4 hx
    have hm := mid_nat i j (by omega)
    have hh : (i + j) / 2 < d.length := by omega
    have hal : a < d.length := by omega
    have hc : decide (cmpL (d.getD ((i + j) / 2) ([], 0, 0)).1 (d.getD a ([], 0, 0)).1 < 0) = true := h4
    refine xs0d.eq3 _ _ _ _ ?_
    simp only [xs0d.t3, ix_lt, dec_t h1, cond_true, hm, ix_nn, ix_nat, dec_t hh, dec_t hal, xi1n_eq _ _ _ _ _ _ (hr _ (getD_mem ([], 0, 0) hh)) (hr _ (getD_mem ([], 0, 0) hal)), Option.bind_some, hc, wrap_succ (show (i + j) / 2 < 9223372036854775807 by omega)]
    exact hx
  · intro i j r h1 h2 h3 h4 hx
    have hm := mid_nat i j (by omega)
    have hh : (i + j) / 2 < d.length := by omega
    have hal : a < d.length := by omega
    have hc : decide (cmpL (d.getD ((i + j) / 2) ([], 0, 0)).1 (d.getD a ([], 0, 0)).1 < 0) = false := h4
    refine xs0d.eq3 _ _ _ _ ?_
    simp only [xs0d.t3, ix_lt, dec_t h1, cond_true, hm, ix_nn, ix_nat, dec_t hh, dec_t hal, xi1n_eq _ _ _ _ _ _ (hr _ (getD_mem ([], 0, 0) hh)) (hr _ (getD_mem ([], 0, 0) hal)), Option.bind_some, hc, cond_false]
    exact hx
  · rintro q ⟨q1, q2, q3, q4, q5⟩
    refine Exists.elim (up_loop (z := zG) (e := q - 1) (N := d.length) (by omega) (fun d k => xs0d.l9 d (q : Int) (k : Int)) some ?_ ?_ _ a d rfl (by omega) rfl) ?_
    · intro d1 r _ hx
      refine xs0d.eq9 _ _ _ ?_
      simp only [xs0d.t9, wrap_pred (show 0 < q by omega) (show q < 9223372036854775807 by omega), ix_lt, Nat.lt_irrefl, decide_false, cond_false]
      exact hx
    · intro d1 k r h1 h2 hx
      have hk : k < d1.length := by omega
      have hk1 : k + 1 < d1.length := by omega
      have hset : ∀ x : GRow, decide (k + 1 < (d1.set k x).length) = true := fun x => by rw [List.length_set]; exact dec_t hk1
      refine xs0d.eq9 _ _ _ ?_
      simp only [xs0d.t9, wrap_pred (show 0 < q by omega) (show q < 9223372036854775807 by omega), ix_lt, dec_t h1, cond_true, wrap_succ (show k < 9223372036854775807 by omega), ix_nn, ix_nat, dec_t hk, dec_t hk1, hset]
      exact hx
    · rintro d' ⟨k1, k2, k3⟩
      refine ⟨d', xs0d.eq _ _ _ _ ?_, k1.mono (Nat.le_refl _) (by omega), ?_⟩
      · simp only [xs0d.t, one_eq _ _ (show a ≤ a + 1 by omega) (show a + 1 < 4611686018427387904 by omega), dec_t (show a + 1 - a = 1 by omega), cond_true]
        exact q5 _ (k3 d' rfl)
      · refine sort_up (i := q) ltG_asym hs (by omega) q2 (fun k h1 h2 => q3 k (by omega) h2) (fun k h1 h2 => q4 k h1 h2) ?_
        intro k
        exact k2 k
/-- One element alone to the right. -/
theorem sym_right {d : List GRow} {a m : Nat} (ham : a + 1 < m) (hb : m + 1 ≤ d.length) (hl : d.length ≤ 1073741824) (hr : Rows d) (hs : SortS zG ltG d a m) :
    ∃ d', xs0d d (a : Int) (m : Int) ((m + 1 : Nat) : Int) = some d' ∧ Mv zG d d' a (m + 1) ∧ SortS zG ltG d' a (m + 1) := by
  have hmono : ∀ h k, a ≤ k → k ≤ h → h < m → (!ltG (d.getD m zG) (d.getD h zG)) = true → (!ltG (d.getD m zG) (d.getD k zG)) = true := by
    intro h k h1 h2 h3 h4
    have h4' : ltG (d.getD m zG) (d.getD h zG) = false := by simpa using h4
    have := ltG_ord.tr _ _ _ (hs.le ltG_ord h1 h2 h3) h4'
    rw [this]; rfl
  refine Exists.elim (bs_loop (p := fun h => !ltG (d.getD m zG) (d.getD h zG)) (lo := a) (hi := m) hmono (fun i j => xs0d.l15 d (m : Int) (i : Int) (j : Int)) (fun q => xs0d.l21 d (q : Int) (m : Int)) ?_ ?_ ?_ _ a m rfl (Nat.le_refl _) (by omega) (Nat.le_refl _) (fun k h1 h2 => by omega) (fun k h1 h2 => by omega)) ?_
  · intro i r h1 h2 hx
    exact xs0d.eq15 _ _ _ _ (by simp only [xs0d.t15, ix_lt, Nat.lt_irrefl, decide_false, cond_false]; exact hx)
  · intro i j r h1 h2 h3 h4 hx
    have hm := mid_nat i j (by omega)
    have hh : (i + j) / 2 < d.length := by omega
    have hal : m < d.length := by omega
    have hc : decide (cmpL (d.getD m ([], 0, 0)).1 (d.getD ((i + j) / 2) ([], 0, 0)).1 < 0) = false := by simpa [ltG] using h4
    refine xs0d.eq15 _ _ _ _ ?_
    simp only [xs0d.t15, ix_lt, dec_t h1, cond_true, hm, ix_nn, ix_nat, dec_t hh, dec_t hal, xi1n_eq _ _ _ _ _ _ (hr _ (getD_mem ([], 0, 0) hal)) (hr _ (getD_mem ([], 0, 0) hh)), Option.bind_some, hc, bang_f, wrap_succ (show (i + j) / 2 < 9223372036854775807 by omega)]
    exact hx
  · intro i j r h1 h2 h3 h4 hx
    have hm := mid_nat i j (by omega)
    have hh : (i + j) / 2 < d.length := by omega
    have hal : m < d.length := by omega
    have hc : decide (cmpL (d.getD m ([], 0, 0)).1 (d.getD ((i + j) / 2) ([], 0, 0)).1 < 0) = true := by simpa [ltG] using h4
    refine xs0d.eq15 _ _ _ _ ?_
    simp only [xs0d.t15, ix_lt, dec_t h1, cond_true, cond_false, hm, ix_nn, ix_nat, dec_t hh, dec_t hal, xi1n_eq _ _ _ _ _ _ (hr _ (getD_mem ([], 0, 0) hal)) (hr _ (getD_mem ([], 0, 0) hh)), Option.bind_some, hc, bang_t]
    exact hx
  · rintro q ⟨q1, q2, q3, q4, q5⟩
    refine Exists.elim (down_loop (z := zG) (e := q) (N := d.length) (fun d k => xs0d.l21 d (q : Int) (k : Int)) some ?_ ?_ _ m d rfl q2 (by omega) rfl) ?_
    · intro d1 r _ hx
      refine xs0d.eq21 _ _ _ ?_
      simp only [xs0d.t21, gt_dec, Nat.lt_irrefl, decide_false, cond_false]
      exact hx
    · intro d1 k r h1 h1' h2 hx
      have hk : k < d1.length := by omega
      have hk1 : k - 1 < d1.length := by omega
      have hset : ∀ x : GRow, decide (k - 1 < (d1.set k x).length) = true := fun x => by rw [List.length_set]; exact dec_t hk1
      refine xs0d.eq21 _ _ _ ?_
      simp only [xs0d.t21, gt_dec, dec_t h1, cond_true, wrap_pred (show 0 < k by omega) (show k < 9223372036854775807 by omega), ix_nn, ix_nat, dec_t hk, dec_t hk1, hset]
      exact hx
    · rintro d' ⟨k1, k2, k3⟩
      refine ⟨d', xs0d.eq _ _ _ _ ?_, k1.mono q1 (Nat.le_refl _), ?_⟩
      · simp only [xs0d.t, one_eq _ _ (show a ≤ m by omega) (show m < 4611686018427387904 by omega), dec_f (show ¬ m - a = 1 by omega), cond_false, one_eq _ _ (show m ≤ m + 1 by omega) (show m + 1 < 4611686018427387904 by omega), dec_t (show m + 1 - m = 1 by omega), cond_true]
        exact q5 _ (k3 d' rfl)
      · refine sort_down (i := q) ltG_asym hs q1 q2 (fun k h1 h2 => by simpa using q3 k h1 h2) (fun k h1 h2 => by simpa using q4 k h1 h2) ?_
        intro k
        exact k2 k
end GoV

/- The library's stable sort of rows with weights: merging in place. -/
namespace GoV
open Go
theorem sym_ok : ∀ (n : Nat) (d : List GRow) (a m b : Nat), b - a = n → a < m → m < b → b ≤ d.length → d.length ≤ 1073741824 → Rows d → SortS zG ltG d a m → SortS zG ltG d m b →
    ∃ d', xs0d d (a : Int) (m : Int) (b : Int) = some d' ∧ Mv zG d d' a b ∧ SortS zG ltG d' a b := by
  intro n
  induction n using Nat.strongRecOn with
  | ind n ih =>
    intro d a m b hn ham hmb hb hl hr h1 h2
    by_cases e1 : m = a + 1
    · subst e1
      exact sym_left (by omega) hb hl hr h2
    by_cases e2 : b = m + 1
    · subst e2
      exact sym_right (by omega) hb hl hr h1
    obtain ⟨mid, hmid⟩ : ∃ mid, mid = (a + b) / 2 := ⟨_, rfl⟩
    obtain ⟨s0, hs0⟩ : ∃ s0, s0 = if m > mid then mid + m - b else a := ⟨_, rfl⟩
    obtain ⟨r0, hr0⟩ : ∃ r0, r0 = if m > mid then mid else m := ⟨_, rfl⟩
    have hbd : ∀ c, s0 ≤ c → c < r0 → (a ≤ c ∧ c < m) ∧ m ≤ mid + m - 1 - c ∧ mid + m - 1 - c < b := by
      intro c g1 g2
      split at hs0 <;> split at hr0 <;> omega
    have hsr : s0 ≤ r0 ∧ r0 < 1073741824 := by
      split at hs0 <;> split at hr0 <;> omega
    have hmono : ∀ h k, s0 ≤ k → k ≤ h → h < r0 → (!ltG (d.getD (mid + m - 1 - h) zG) (d.getD h zG)) = true → (!ltG (d.getD (mid + m - 1 - k) zG) (d.getD k zG)) = true := by
      intro h k g1 g2 g3 g4
      have g4' : ltG (d.getD (mid + m - 1 - h) zG) (d.getD h zG) = false := by simpa using g4
      obtain ⟨⟨k1, k2⟩, k3, k4⟩ := hbd k g1 (by omega)
      obtain ⟨⟨k5, k6⟩, k7, k8⟩ := hbd h (by omega) g3
      have := ltG_ord.tr _ _ _ (ltG_ord.tr _ _ _ (h1.le ltG_ord k1 g2 k6) g4') (h2.le ltG_ord k7 (show mid + m - 1 - h ≤ mid + m - 1 - k by omega) k4)
      rw [this]; rfl
    refine Exists.elim (bs_loop (p := fun c => !ltG (d.getD (mid + m - 1 - c) zG) (d.getD c zG)) (lo := s0) (hi := r0) hmono
      (fun i j => xs0d.l33 d (a : Int) (m : Int) (b : Int) (mid : Int) ((mid + m : Nat) : Int) (i : Int) (j : Int) ((mid + m - 1 : Nat) : Int))
      (fun q => xs0d.l33 d (a : Int) (m : Int) (b : Int) (mid : Int) ((mid + m : Nat) : Int) (q : Int) (q : Int) ((mid + m - 1 : Nat) : Int)) (fun i r _ _ h => h) ?_ ?_ _ s0 r0 rfl (Nat.le_refl _) hsr.1 (Nat.le_refl _) (fun k h1 h2 => by omega) (fun k h1 h2 => by omega)) ?_
    · intro i j r g1 g2 g3 g4 hx
      obtain ⟨⟨k1, k2⟩, k3, k4⟩ := hbd ((i + j) / 2) (by omega) (by omega)
      have hm := mid_nat i j (by omega)
      have hh : (i + j) / 2 < d.length := by omega
      have hal : mid + m - 1 - (i + j) / 2 < d.length := by omega
      have hc : decide (cmpL (d.getD (mid + m - 1 - (i + j) / 2) ([], 0, 0)).1 (d.getD ((i + j) / 2) ([], 0, 0)).1 < 0) = false := by simpa [ltG] using g4
      refine xs0d.eq33 _ _ _ _ _ _ _ _ _ ?_
      simp only [xs0d.t33, ix_lt, dec_t g1, cond_true, hm, w_sub (show (i + j) / 2 ≤ mid + m - 1 by omega) (show mid + m - 1 < 4611686018427387904 by omega), ix_nn, ix_nat, dec_t hh, dec_t hal, xi1n_eq _ _ _ _ _ _ (hr _ (getD_mem ([], 0, 0) hal)) (hr _ (getD_mem ([], 0, 0) hh)), Option.bind_some, hc, bang_f, wrap_succ (show (i + j) / 2 < 9223372036854775807 by omega)]
      exact hx
    · intro i j r g1 g2 g3 g4 hx
      obtain ⟨⟨k1, k2⟩, k3, k4⟩ := hbd ((i + j) / 2) (by omega) (by omega)
      have hm := mid_nat i j (by omega)
      have hh : (i + j) / 2 < d.length := by omega
      have hal : mid + m - 1 - (i + j) / 2 < d.length := by omega
      have hc : decide (cmpL (d.getD (mid + m - 1 - (i + j) / 2) ([], 0, 0)).1 (d.getD ((i + j) / 2) ([], 0, 0)).1 < 0) = true := by simpa [ltG] using g4
      refine xs0d.eq33 _ _ _ _ _ _ _ _ _ ?_
      simp only [xs0d.t33, ix_lt, dec_t g1, cond_true, cond_false, hm, w_sub (show (i + j) / 2 ≤ mid + m - 1 by omega) (show mid + m - 1 < 4611686018427387904 by omega), ix_nn, ix_nat, dec_t hh, dec_t hal, xi1n_eq _ _ _ _ _ _ (hr _ (getD_mem ([], 0, 0) hal)) (hr _ (getD_mem ([], 0, 0) hh)), Option.bind_some, hc, bang_t]
      exact hx
    · rintro s ⟨q1, q2, q3, q4, q5⟩
      obtain ⟨t, ht⟩ : ∃ t, t = mid + m - s := ⟨_, rfl⟩
      have hst : a ≤ s ∧ s ≤ m ∧ m ≤ t ∧ t ≤ b ∧ s ≤ mid ∧ mid ≤ t := by
        split at hs0 <;> split at hr0 <;> omega
      obtain ⟨b1, b2, b3, b4, b5, b6⟩ := hst
      -- the rotation
      obtain ⟨e, he1, he2, he3, he4⟩ : ∃ e, Mv zG d e a b ∧ RotF (fun k => d.getD k zG) (fun k => e.getD k zG) s m t ∧ (s < m ∧ m < t → xs0e d (s : Int) (m : Int) (t : Int) = some e) ∧ (¬ (s < m ∧ m < t) → e = d) := by
        by_cases c : s < m ∧ m < t
        · obtain ⟨e, k1, k2, k3⟩ := rotate_ok (d := d) c.1 c.2 (by omega) hl
          exact ⟨e, k2.mono b1 b4, k3, fun _ => k1, fun h => absurd c h⟩
        · exact ⟨d, .refl _ _ _, RotF.none (by omega) b2 b3, fun h => absurd h c, fun _ => rfl⟩
      obtain ⟨_, x1, x2, x3, x4, x5⟩ := sym_halves ltG_ord ltG_asym hmid ham hmb h1 h2 hs0 hr0 q1 q2 ht (fun c g1 g2 => by simpa using q3 c g1 g2) (fun c g1 g2 => by simpa using q4 c g1 g2) he2
      have hel : e.length = d.length := he1.len
      have her : Rows e := hr.perm he1.perm
      -- the left half
      obtain ⟨f, hf1, hf2, hf3, hf4⟩ : ∃ f, Mv zG e f a mid ∧ SortS zG ltG f a mid ∧ (a < s ∧ s < mid → xs0d e (a : Int) (s : Int) (mid : Int) = some f) ∧ (¬ (a < s ∧ s < mid) → f = e) := by
        by_cases c : a < s ∧ s < mid
        · obtain ⟨f, k1, k2, k3⟩ := ih (mid - a) (by omega) e a s mid rfl c.1 c.2 (by omega) (by omega) her x1 x2
          exact ⟨f, k2, k3, fun _ => k1, fun h => absurd c h⟩
        · refine ⟨e, .refl _ _ _, ?_, fun h => absurd h c, fun _ => rfl⟩
          by_cases c2 : a = s
          · rw [c2]; exact x2
          · have : s = mid := by omega
            rw [← this]; exact x1
      have hfl : f.length = e.length := hf1.len
      have hfr : Rows f := her.perm hf1.perm
      have hout : ∀ k, mid ≤ k → f.getD k zG = e.getD k zG := fun k hk => hf1.out k (.inr hk)
      have y3 : SortS zG ltG f mid t := x3.congr fun k g _ => hout k g
      have y4 : SortS zG ltG f t b := x4.congr fun k g _ => hout k (by omega)
      -- the right half
      obtain ⟨g, hg1, hg2, hg3, hg4⟩ : ∃ g, Mv zG f g mid b ∧ SortS zG ltG g mid b ∧ (mid < t ∧ t < b → xs0d f (mid : Int) (t : Int) (b : Int) = some g) ∧ (¬ (mid < t ∧ t < b) → g = f) := by
        by_cases c : mid < t ∧ t < b
        · obtain ⟨g, k1, k2, k3⟩ := ih (b - mid) (by omega) f mid t b rfl c.1 c.2 (by omega) (by omega) hfr y3 y4
          exact ⟨g, k2, k3, fun _ => k1, fun h => absurd c h⟩
        · refine ⟨f, .refl _ _ _, ?_, fun h => absurd h c, fun _ => rfl⟩
          by_cases c2 : mid = t
          · rw [c2]; exact y4
          · have : t = b := by omega
            rw [← this]; exact y3
      have hmidb : a < mid ∧ mid < b := by omega
      have hfg : Mv zG e g a b := (hf1.mono (Nat.le_refl _) (by omega)).trans (hg1.mono (by omega) (Nat.le_refl _))
      have hin : ∀ k, k < mid → g.getD k zG = f.getD k zG := fun k hk => hg1.out k (.inl hk)
      refine ⟨g, ?_, he1.trans hfg, ?_⟩
      · refine xs0d.eq _ _ _ _ ?_
        have hm := mid_nat a b (by omega)
        rw [← hmid] at hm
        have hres : xs0d.l33 d (a : Int) (m : Int) (b : Int) (mid : Int) ((mid + m : Nat) : Int) (s : Int) (s : Int) ((mid + m - 1 : Nat) : Int) = some g := by
          refine xs0d.eq33 _ _ _ _ _ _ _ _ _ ?_
          have hsub : IntKind.i64.wrap (((mid + m : Nat) : Int) - (s : Int)) = (t : Int) := by rw [w_sub (by omega) (by omega), ht]
          simp only [xs0d.t33, ix_lt, Nat.lt_irrefl, decide_false, cond_false, hsub]
          by_cases c1 : s < m ∧ m < t
          · have z1 := he3 c1
            simp only [dec_t c1.1, dec_t c1.2, cond_true, z1, Option.bind_some]
            by_cases c2 : a < s ∧ s < mid
            · have z2 := hf3 c2
              simp only [dec_t c2.1, dec_t c2.2, cond_true, z2, Option.bind_some]
              by_cases c3 : mid < t ∧ t < b
              · simp only [dec_t c3.1, dec_t c3.2, cond_true, hg3 c3, Option.bind_some]
              · rw [hg4 c3]
                by_cases c4 : mid < t
                · simp only [dec_t c4, dec_f (show ¬ t < b from fun h => c3 ⟨c4, h⟩), cond_true, cond_false]
                · simp only [dec_f c4, cond_false]
            · have z2 := hf4 c2
              subst z2
              by_cases c5 : a < s
              · simp only [dec_t c5, dec_f (show ¬ s < mid from fun h => c2 ⟨c5, h⟩), cond_true, cond_false]
                by_cases c3 : mid < t ∧ t < b
                · simp only [dec_t c3.1, dec_t c3.2, cond_true, hg3 c3, Option.bind_some]
                · rw [hg4 c3]
                  by_cases c4 : mid < t
                  · simp only [dec_t c4, dec_f (show ¬ t < b from fun h => c3 ⟨c4, h⟩), cond_true, cond_false]
                  · simp only [dec_f c4, cond_false]
              · simp only [dec_f c5, cond_false]
                by_cases c3 : mid < t ∧ t < b
                · simp only [dec_t c3.1, dec_t c3.2, cond_true, hg3 c3, Option.bind_some]
                · rw [hg4 c3]
                  by_cases c4 : mid < t
                  · simp only [dec_t c4, dec_f (show ¬ t < b from fun h => c3 ⟨c4, h⟩), cond_true, cond_false]
                  · simp only [dec_f c4, cond_false]
          · have z1 := he4 c1
            subst z1
            have hno : (decide (s < m) && decide (m < t)) = false := by
              by_cases c6 : s < m
              · rw [dec_f (show ¬ m < t from fun h => c1 ⟨c6, h⟩), Bool.and_false]
              · rw [dec_f c6, Bool.false_and]
            by_cases c6 : s < m
            · simp only [dec_t c6, dec_f (show ¬ m < t from fun h => c1 ⟨c6, h⟩), cond_true, cond_false]
              by_cases c2 : a < s ∧ s < mid
              · have z2 := hf3 c2
                simp only [dec_t c2.1, dec_t c2.2, cond_true, z2, Option.bind_some]
                by_cases c3 : mid < t ∧ t < b
                · simp only [dec_t c3.1, dec_t c3.2, cond_true, hg3 c3, Option.bind_some]
                · rw [hg4 c3]
                  by_cases c4 : mid < t
                  · simp only [dec_t c4, dec_f (show ¬ t < b from fun h => c3 ⟨c4, h⟩), cond_true, cond_false]
                  · simp only [dec_f c4, cond_false]
              · have z2 := hf4 c2
                subst z2
                by_cases c5 : a < s
                · simp only [dec_t c5, dec_f (show ¬ s < mid from fun h => c2 ⟨c5, h⟩), cond_true, cond_false]
                  by_cases c3 : mid < t ∧ t < b
                  · simp only [dec_t c3.1, dec_t c3.2, cond_true, hg3 c3, Option.bind_some]
                  · rw [hg4 c3]
                    by_cases c4 : mid < t
                    · simp only [dec_t c4, dec_f (show ¬ t < b from fun h => c3 ⟨c4, h⟩), cond_true, cond_false]
                    · simp only [dec_f c4, cond_false]
                · simp only [dec_f c5, cond_false]
                  by_cases c3 : mid < t ∧ t < b
                  · simp only [dec_t c3.1, dec_t c3.2, cond_true, hg3 c3, Option.bind_some]
                  · rw [hg4 c3]
                    by_cases c4 : mid < t
                    · simp only [dec_t c4, dec_f (show ¬ t < b from fun h => c3 ⟨c4, h⟩), cond_true, cond_false]
                    · simp only [dec_f c4, cond_false]
            · simp only [dec_f c6, cond_false]
              by_cases c2 : a < s ∧ s < mid
              · have z2 := hf3 c2
                simp only [dec_t c2.1, dec_t c2.2, cond_true, z2, Option.bind_some]
                by_cases c3 : mid < t ∧ t < b
                · simp only [dec_t c3.1, dec_t c3.2, cond_true, hg3 c3, Option.bind_some]
                · rw [hg4 c3]
                  by_cases c4 : mid < t
                  · simp only [dec_t c4, dec_f (show ¬ t < b from fun h => c3 ⟨c4, h⟩), cond_true, cond_false]
                  · simp only [dec_f c4, cond_false]
              · have z2 := hf4 c2
                subst z2
                by_cases c5 : a < s
                · simp only [dec_t c5, dec_f (show ¬ s < mid from fun h => c2 ⟨c5, h⟩), cond_true, cond_false]
                  by_cases c3 : mid < t ∧ t < b
                  · simp only [dec_t c3.1, dec_t c3.2, cond_true, hg3 c3, Option.bind_some]
                  · rw [hg4 c3]
                    by_cases c4 : mid < t
                    · simp only [dec_t c4, dec_f (show ¬ t < b from fun h => c3 ⟨c4, h⟩), cond_true, cond_false]
                    · simp only [dec_f c4, cond_false]
                · simp only [dec_f c5, cond_false]
                  by_cases c3 : mid < t ∧ t < b
                  · simp only [dec_t c3.1, dec_t c3.2, cond_true, hg3 c3, Option.bind_some]
                  · rw [hg4 c3]
                    by_cases c4 : mid < t
                    · simp only [dec_t c4, dec_f (show ¬ t < b from fun h => c3 ⟨c4, h⟩), cond_true, cond_false]
                    · simp only [dec_f c4, cond_false]
        have hq := q5 _ hres
        have hn : IntKind.i64.wrap ((mid : Int) + (m : Int)) = ((mid + m : Nat) : Int) := w_add (by omega)
        have hp : IntKind.i64.wrap (((mid + m : Nat) : Int) - (1 : Int)) = ((mid + m - 1 : Nat) : Int) := wrap_pred (by omega) (by omega)
        simp only [xs0d.t, one_eq _ _ (show a ≤ m by omega) (show m < 4611686018427387904 by omega), dec_f (show ¬ m - a = 1 by omega), cond_false, one_eq _ _ (show m ≤ b by omega) (show b < 4611686018427387904 by omega), dec_f (show ¬ b - m = 1 by omega), hm, hn, hp, gt_dec]
        by_cases c : m > mid
        · rw [if_pos c] at hs0 hr0
          have hs : IntKind.i64.wrap (((mid + m : Nat) : Int) - (b : Int)) = (s0 : Int) := by rw [w_sub (by omega) (by omega), hs0]
          simp only [dec_t (show mid < m from c), cond_true, hs]
          rw [hr0] at hq
          exact hq
        · rw [if_neg c] at hs0 hr0
          simp only [dec_f (show ¬ mid < m from c), cond_false]
          rw [hs0, hr0] at hq
          exact hq
      · refine sym_join (mid := mid) hfg (fun k g1 g2 => ?_) (fun k g1 g2 => ?_) (hf2.congr fun k _ g2 => hin k g2) hg2 x5
        · obtain ⟨j, k1, k2, k3⟩ := hf1.from' k g1 g2
          exact ⟨j, k1, k2, by rw [hin k g2]; exact k3⟩
        · obtain ⟨j, k1, k2, k3⟩ := hg1.from' k g1 g2
          exact ⟨j, k1, k2, by rw [k3]; exact hout j k1⟩
end GoV

/- The library's stable sort of rows with weights: blocks sorted, then merged. -/
namespace GoV
open Go
/-- The first A blocks of s are sorted, each in itself. -/
def LoB (d : List GRow) (s A n : Nat) : Prop := ∀ q, q < A → q * s < n → SortS zG ltG d (q * s) (min (q * s + s) n)
/-- The blocks from the A-th on. -/
def HiB (d : List GRow) (s A n : Nat) : Prop := ∀ q, A ≤ q → q * s < n → SortS zG ltG d (q * s) (min (q * s + s) n)
theorem mul_le_of_lt {q A s : Nat} (h : q < A) : q * s + s ≤ A * s := by
  have := Nat.mul_le_mul_right s (show q + 1 ≤ A by omega)
  rwa [Nat.succ_mul] at this
theorem LoB.keep {d d' : List GRow} {s A n a b : Nat} (h : LoB d s A n) (hm : Mv zG d d' a b) (ha : A * s ≤ a) : LoB d' s A n := fun q h1 h2 =>
  (h q h1 h2).congr fun k _ g2 => hm.out k (.inl (by have := mul_le_of_lt (s := s) h1; omega))
theorem HiB.keep {d d' : List GRow} {s A n a b : Nat} (h : HiB d s A n) (hm : Mv zG d d' a b) (hb : b ≤ A * s) : HiB d' s A n := fun q h1 h2 =>
  (h q h1 h2).congr fun k g1 _ => hm.out k (.inr (by have := Nat.mul_le_mul_right s h1; omega))
theorem blocks_ok {n : Nat} {β : Type} (L : List GRow → Nat → Option β) (K : List GRow → Option β) (hn : n ≤ 1073741824)
    (hs : ∀ d d' A r, d.length = n → Rows d → A * 20 + 20 ≤ n → xs08 d ((A * 20 : Nat) : Int) ((A * 20 + 20 : Nat) : Int) = some d' → L d' (A + 1) = some r → L d A = some r)
    (he : ∀ d d' A r, d.length = n → Rows d → A * 20 ≤ n → n < A * 20 + 20 → xs08 d ((A * 20 : Nat) : Int) (n : Int) = some d' → K d' = some r → L d A = some r) :
    ∀ m A d, n - A * 20 = m → A * 20 ≤ n → d.length = n → Rows d → LoB d 20 A n → ∃ d' B, Mv zG d d' 0 n ∧ LoB d' 20 B n ∧ n < B * 20 ∧ ∀ r, K d' = some r → L d A = some r := by
  intro m
  induction m using Nat.strongRecOn with
  | ind m ih =>
    intro A d hm hA hd hr hlo
    by_cases c : A * 20 + 20 ≤ n
    · obtain ⟨d1, k1, k2, k3⟩ := ins_ok (d := d) (a := A * 20) (b := A * 20 + 20) (by omega) (by omega) hr (by omega)
      have hlo1 : LoB d1 20 (A + 1) n := by
        intro q h1 h2
        by_cases e : q < A
        · exact (hlo.keep k2 (Nat.le_refl _)) q e h2
        · obtain rfl : q = A := by omega
          rw [Nat.min_eq_left c]
          exact k3
      obtain ⟨d', B, g1, g2, g3, g4⟩ := ih (n - (A + 1) * 20) (by omega) (A + 1) d1 rfl (by omega) (k2.len.trans hd) (hr.perm k2.perm) hlo1
      exact ⟨d', B, (k2.mono (by omega) c).trans g1, g2, g3, fun r hr' => hs d d1 A r hd hr c k1 (g4 r hr')⟩
    · obtain ⟨d1, k1, k2, k3⟩ := ins_ok (d := d) (a := A * 20) (b := n) (by omega) (by omega) hr (by omega)
      refine ⟨d1, A + 1, k2.mono (by omega) (Nat.le_refl _), ?_, by omega, fun r hr' => he d d1 A r hd hr hA (by omega) k1 hr'⟩
      intro q h1 h2
      by_cases e : q < A
      · exact (hlo.keep k2 (Nat.le_refl _)) q e h2
      · obtain rfl : q = A := by omega
        rw [Nat.min_eq_right (by omega)]
        exact k3
theorem twice (A s : Nat) : 2 * A * s = A * (2 * s) := by rw [Nat.mul_comm 2 A, Nat.mul_assoc]
theorem twice1 (A s : Nat) : (2 * A + 1) * s = A * (2 * s) + s := by rw [Nat.succ_mul, twice]
theorem twice2 (A s : Nat) : 2 * (A + 1) * s = A * (2 * s) + 2 * s := by rw [twice, Nat.succ_mul]
theorem merges_ok {n s : Nat} {β : Type} (hs0 : 0 < s) (L : List GRow → Nat → Option β) (K : List GRow → Option β) (hn : n ≤ 1073741824)
    (hs : ∀ d d' A r, d.length = n → Rows d → A * (2 * s) + 2 * s ≤ n → xs0d d ((A * (2 * s) : Nat) : Int) ((A * (2 * s) + s : Nat) : Int) ((A * (2 * s) + 2 * s : Nat) : Int) = some d' → L d' (A + 1) = some r → L d A = some r)
    (he1 : ∀ d d' A r, d.length = n → Rows d → n < A * (2 * s) + 2 * s → A * (2 * s) + s < n → xs0d d ((A * (2 * s) : Nat) : Int) ((A * (2 * s) + s : Nat) : Int) (n : Int) = some d' → K d' = some r → L d A = some r)
    (he2 : ∀ d A r, d.length = n → Rows d → A * (2 * s) ≤ n → n ≤ A * (2 * s) + s → K d = some r → L d A = some r) :
    ∀ m A d, n - A * (2 * s) = m → A * (2 * s) ≤ n → d.length = n → Rows d → LoB d (2 * s) A n → HiB d s (2 * A) n → ∃ d', Mv zG d d' 0 n ∧ HiB d' (2 * s) 0 n ∧ ∀ r, K d' = some r → L d A = some r := by
  intro m
  induction m using Nat.strongRecOn with
  | ind m ih =>
    intro A d hm hA hd hr hlo hhi
    have hfin : ∀ d' : List GRow, LoB d' (2 * s) (A + 1) n → n ≤ A * (2 * s) + 2 * s → HiB d' (2 * s) 0 n := by
      intro d' h hle q _ h2
      refine h q ?_ h2
      rcases Nat.lt_or_ge q (A + 1) with g | g
      · exact g
      · have := Nat.mul_le_mul_right (2 * s) g
        rw [Nat.succ_mul] at this
        omega
    have h1 : A * (2 * s) < n → SortS zG ltG d (A * (2 * s)) (min (A * (2 * s) + s) n) := fun h => by
      have := hhi (2 * A) (Nat.le_refl _) (by rw [twice]; exact h)
      rwa [twice] at this
    have h2 : A * (2 * s) + s < n → SortS zG ltG d (A * (2 * s) + s) (min (A * (2 * s) + 2 * s) n) := fun h => by
      have := hhi (2 * A + 1) (by omega) (by rw [twice1]; exact h)
      rw [twice1] at this
      rwa [show A * (2 * s) + s + s = A * (2 * s) + 2 * s by omega] at this
    by_cases c : A * (2 * s) + 2 * s ≤ n
    · have g1 := h1 (by omega)
      have g2 := h2 (by omega)
      rw [Nat.min_eq_left (by omega)] at g1 g2
      obtain ⟨d1, k1, k2, k3⟩ := sym_ok _ d (A * (2 * s)) (A * (2 * s) + s) (A * (2 * s) + 2 * s) rfl (by omega) (by omega) (by omega) (by omega) hr g1 g2
      have hlo1 : LoB d1 (2 * s) (A + 1) n := by
        intro q h1 h2
        by_cases e : q < A
        · exact (hlo.keep k2 (Nat.le_refl _)) q e h2
        · obtain rfl : q = A := by omega
          rw [Nat.min_eq_left c]
          exact k3
      have hhi1 : HiB d1 s (2 * (A + 1)) n := HiB.keep (A := 2 * (A + 1)) (fun q h1 h2 => hhi q (by omega) h2) k2 (by rw [twice2]; exact Nat.le_refl _)
      obtain ⟨d', g3, g4, g5⟩ := ih (n - (A + 1) * (2 * s)) (by rw [Nat.succ_mul]; omega) (A + 1) d1 rfl (by rw [Nat.succ_mul]; exact c) (k2.len.trans hd) (hr.perm k2.perm) hlo1 hhi1
      exact ⟨d', (k2.mono (by omega) c).trans g3, g4, fun r hr' => hs d d1 A r hd hr c k1 (g5 r hr')⟩
    · by_cases c2 : A * (2 * s) + s < n
      · have g1 := h1 (by omega)
        have g2 := h2 c2
        rw [Nat.min_eq_left (by omega)] at g1
        rw [Nat.min_eq_right (by omega)] at g2
        obtain ⟨d1, k1, k2, k3⟩ := sym_ok _ d (A * (2 * s)) (A * (2 * s) + s) n rfl (by omega) (by omega) (by omega) (by omega) hr g1 g2
        refine ⟨d1, k2.mono (by omega) (Nat.le_refl _), hfin d1 ?_ (by omega), fun r hr' => he1 d d1 A r hd hr (by omega) c2 k1 hr'⟩
        intro q h1 h2
        by_cases e : q < A
        · exact (hlo.keep k2 (Nat.le_refl _)) q e h2
        · obtain rfl : q = A := by omega
          rw [Nat.min_eq_right (by omega)]
          exact k3
      · refine ⟨d, .refl _ _ _, hfin d ?_ (by omega), fun r hr' => he2 d A r hd hr hA (by omega) hr'⟩
        intro q g1 g2
        by_cases e : q < A
        · exact hlo q e g2
        · obtain rfl : q = A := by omega
          have := h1 g2
          rw [Nat.min_eq_right (by omega)] at this ⊢
          exact this
end GoV

/- The library's stable sort of rows with weights. -/
namespace GoV
open Go
theorem double_ok {n : Nat} (hn : n ≤ 1073741824) : ∀ (m s : Nat) (d : List GRow), n - s = m → 0 < s → s ≤ 2147483648 → d.length = n → Rows d → HiB d s 0 n →
    ∃ d', xs0f.l7 d (n : Int) (s : Int) = some d' ∧ Mv zG d d' 0 n ∧ SortS zG ltG d' 0 n := by
  intro m
  induction m using Nat.strongRecOn with
  | ind m ih =>
    intro s d hm hs0 hs hd hr hB
    by_cases c : s < n
    · have hd2 : IntKind.i64.wrap ((2 : Int) * (s : Int)) = ((2 * s : Nat) : Int) := by rw [wrap_id] <;> omega
      have hd3 : IntKind.i64.wrap ((s : Int) * (2 : Int)) = ((2 * s : Nat) : Int) := by rw [wrap_id] <;> omega
      refine Exists.elim (merges_ok (n := n) (s := s) hs0 (fun d A => xs0f.l9 d (n : Int) (s : Int) ((A * (2 * s) : Nat) : Int) ((A * (2 * s) + 2 * s : Nat) : Int)) (fun d => xs0f.l7 d (n : Int) ((2 * s : Nat) : Int)) hn ?_ ?_ ?_ _ 0 d rfl (by omega) hd hr (fun q h => by omega) hB) ?_
      · intro d1 d2 A r h1 h2 h3 h4 hx
        refine xs0f.eq9 _ _ _ _ _ ?_
        have hle : ((A * (2 * s) + 2 * s : Nat) : Int) ≤ (n : Int) := by omega
        simp only [xs0f.t9, dec_t hle, cond_true, w_add (show A * (2 * s) + s < 4611686018427387904 by omega), h4, Option.bind_some, hd2, w_add (show A * (2 * s) + 2 * s + 2 * s < 4611686018427387904 by omega)]
        rw [Nat.succ_mul] at hx
        exact hx
      · intro d1 d2 A r h1 h2 h3 h3' h4 hx
        refine xs0f.eq9 _ _ _ _ _ ?_
        have hle : ¬ ((A * (2 * s) + 2 * s : Nat) : Int) ≤ (n : Int) := by omega
        simp only [xs0f.t9, dec_f hle, cond_false, w_add (show A * (2 * s) + s < 4611686018427387904 by omega), ix_lt, dec_t h3', cond_true, h4, Option.bind_some, hd3]
        exact hx
      · intro d1 A r h1 h2 h3 h3' hx
        refine xs0f.eq9 _ _ _ _ _ ?_
        have hle : ¬ ((A * (2 * s) + 2 * s : Nat) : Int) ≤ (n : Int) := by omega
        simp only [xs0f.t9, dec_f hle, cond_false, w_add (show A * (2 * s) + s < 4611686018427387904 by omega), ix_lt, dec_f (show ¬ A * (2 * s) + s < n by omega), hd3]
        exact hx
      · rintro d1 ⟨k1, k2, k3⟩
        obtain ⟨d', g1, g2, g3⟩ := ih (n - 2 * s) (by omega) (2 * s) d1 rfl (by omega) (by omega) (k1.len.trans hd) (hr.perm k1.perm) k2
        refine ⟨d', xs0f.eq7 _ _ _ ?_, k1.trans g2, g3⟩
        have := k3 d' g1
        simp only [Nat.zero_mul, Nat.zero_add] at this
        simp only [xs0f.t7, ix_lt, dec_t c, cond_true, hd2]
        exact this
    · refine ⟨d, xs0f.eq7 _ _ _ ?_, .refl _ _ _, ?_⟩
      · simp only [xs0f.t7, ix_lt, dec_f c, cond_false]
      · intro i j h1 h2 h3
        have := hB 0 (Nat.le_refl _) (by omega)
        rw [Nat.zero_mul, Nat.zero_add, Nat.min_eq_right (by omega)] at this
        exact this i j h1 h2 h3
theorem sort_ok {d : List GRow} (hl : d.length ≤ 1073741824) (hr : Rows d) :
    ∃ d', xs03 d = some d' ∧ d'.Perm d ∧ SortS zG ltG d' 0 d'.length := by
  refine Exists.elim (blocks_ok (n := d.length) (fun d1 A => xs0f.l2 d1 (d.length : Int) 20 ((A * 20 : Nat) : Int) ((A * 20 + 20 : Nat) : Int)) (fun d1 => xs0f.l7 d1 (d.length : Int) 20) hl ?_ ?_ _ 0 d rfl (by omega) rfl hr (fun q h => by omega)) ?_
  · intro d1 d2 A r h1 h2 h3 h4 hx
    refine xs0f.eq2 _ _ _ _ _ ?_
    have hle : ((A * 20 + 20 : Nat) : Int) ≤ (d.length : Int) := by omega
    have hw : IntKind.i64.wrap (((A * 20 + 20 : Nat) : Int) + (20 : Int)) = (((A + 1) * 20 + 20 : Nat) : Int) := by rw [wrap_id] <;> omega
    have e : (A + 1) * 20 = A * 20 + 20 := by omega
    simp only [xs0f.t2, dec_t hle, cond_true, h4, Option.bind_some, hw]
    rw [← e]
    exact hx
  · intro d1 d2 A r h1 h2 h3 h3' h4 hx
    refine xs0f.eq2 _ _ _ _ _ ?_
    have hle : ¬ ((A * 20 + 20 : Nat) : Int) ≤ (d.length : Int) := by omega
    simp only [xs0f.t2, dec_f hle, cond_false, h4, Option.bind_some]
    exact hx
  · rintro d1 ⟨B, k1, k2, k3, k4⟩
    have hB : HiB d1 20 0 d.length := fun q _ h2 => k2 q (by omega) h2
    obtain ⟨d', g1, g2, g3⟩ := double_ok hl _ 20 d1 rfl (by omega) (by omega) k1.len (hr.perm k1.perm) hB
    have hm := k1.trans g2
    refine ⟨d', xs03.eq _ ?_, hm.perm, by rw [hm.len]; exact g3⟩
    have h2 := k4 d' g1
    have h3 := xs0f.eq d (d.length : Int) (b := d') (by simp only [xs0f.t]; exact h2)
    simp only [xs03.t, h3, Option.bind_some]
end GoV
