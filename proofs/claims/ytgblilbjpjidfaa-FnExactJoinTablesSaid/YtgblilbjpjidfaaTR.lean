/- A part of the proof of FnExactJoinTables: an interpreter of the model over plain data, its soundness, and what it makes of the functions that the statement reaches. Conditions: none beyond what the given statement itself says. -/
import Derived.Test.YtgblilbjpjidfaaTQ
set_option linter.unusedVariables false
set_option linter.unusedSimpArgs false
set_option linter.unnecessarySimpa false
set_option linter.unusedSectionVars false
/- The library's stable sort of rows with weights. -/
namespace GoV
open Go
def Rows (d : List WRow) : Prop := ∀ w, w ∈ d → w.1.length ≤ 1073741824
theorem Rows.perm {d d' : List WRow} (h : Rows d) (hp : d'.Perm d) : Rows d' := fun w hw => h w (hp.mem_iff.1 hw)
open Classical in
/-- An answer that counts where the rows are no longer than they were. -/
noncomputable def gd {β : Type} (d : List WRow) (x : Option β) : Option β := if Rows d then x else none
theorem gd_some {β : Type} {d : List WRow} {x : Option β} {r : β} : gd d x = some r ↔ Rows d ∧ x = some r := by
  unfold gd
  split
  · rename_i h; exact ⟨fun e => ⟨h, e⟩, fun e => e.2⟩
  · rename_i h; exact ⟨fun e => (by cases e), fun e => absurd e.1 h⟩
theorem gd_swap {d : List WRow} {i j : Nat} (hi : i < d.length) (hj : j < d.length) (h : Rows (swapL ([], 0) d i j)) : Rows d := h.perm (swapL_perm hi hj).symm
theorem impl_summed_1_eq (a : List Int) (n : Int) (b : List Int) (m : Int) (ha : a.length ≤ 1073741824) (hb : b.length ≤ 1073741824) : impl_summed_1 a n b m = some (cmpL a b) := impl_summed_1.eq _ _ _ _ (by simp only [impl_summed_1.t, impl_compareRows_eq _ _ ha hb, Option.bind_some])
theorem gt_dec (i j : Nat) : decide ((i : Int) > (j : Int)) = decide (j < i) := ix_lt j i
theorem ins_ok {d : List WRow} {a b : Nat} (hb : b ≤ d.length) (hl : d.length ≤ 1073741824) (hr : Rows d) (ha : a ≤ 1073741824) :
    ∃ d', xs03 d (a : Int) (b : Int) = some d' ∧ Mv ([], 0) d d' a b ∧ SortS ([], 0) ltW d' a b := by
  refine Exists.elim (ins_outer (z := (([] : List Int), (0 : Int))) ltW_ord ltW_asym (a := a) (b := b) (N := d.length) hb
    (fun d i => gd d (xs03.l1 d (a : Int) (b : Int) (i : Int)))
    (fun i d j => gd d (xs03.l4 d (a : Int) (b : Int) (i : Int) (j : Int))) (fun d => gd d (some d)) ?_ ?_ ?_ ?_ ?_ _ (a + 1) d rfl (by omega) rfl (.one (by omega))) ?_
  · intro d i r h hx
    obtain ⟨g1, g2⟩ := gd_some.1 hx
    exact gd_some.2 ⟨g1, xs03.eq1 _ _ _ _ (by simp only [xs03.t1, ix_lt, dec_f (show ¬ i < b by omega), cond_false]; exact g2)⟩
  · intro d i r h1 h2 _ hx
    obtain ⟨g1, g2⟩ := gd_some.1 hx
    exact gd_some.2 ⟨g1, xs03.eq1 _ _ _ _ (by simp only [xs03.t1, ix_lt, dec_t h2, cond_true]; exact g2)⟩
  · intro d i r h1 hx
    obtain ⟨g1, g2⟩ := gd_some.1 hx
    exact gd_some.2 ⟨g1, xs03.eq4 _ _ _ _ _ (by simp only [xs03.t4, gt_dec, Nat.lt_irrefl, decide_false, cond_false, wrap_succ (show i < 9223372036854775807 by omega)]; exact g2)⟩
  · intro d1 i j r h1 h2 h3 h4 h5 hx
    obtain ⟨g1, g2⟩ := gd_some.1 hx
    have hj : j < d1.length := by omega
    have hj1 : j - 1 < d1.length := by omega
    have hc : decide (cmpL (d1.getD j ([], 0)).1 (d1.getD (j - 1) ([], 0)).1 < 0) = false := h5
    exact gd_some.2 ⟨g1, xs03.eq4 _ _ _ _ _ (by
      simp only [xs03.t4, gt_dec, dec_t h1, wrap_pred (show 0 < j by omega) (show j < 9223372036854775807 by omega), ix_nn, ix_nat, dec_t hj, dec_t hj1, cond_true, impl_summed_1_eq _ _ _ _ (g1 _ (getD_mem ([], 0) hj)) (g1 _ (getD_mem ([], 0) hj1)), Option.bind_some, hc, cond_false, wrap_succ (show i < 9223372036854775807 by omega)]
      exact g2)⟩
  · intro d1 i j r h1 h2 h3 h4 h5 hx
    obtain ⟨g1, g2⟩ := gd_some.1 hx
    have hj : j < d1.length := by omega
    have hj1 : j - 1 < d1.length := by omega
    have g1 := gd_swap hj hj1 g1
    have hc : decide (cmpL (d1.getD j ([], 0)).1 (d1.getD (j - 1) ([], 0)).1 < 0) = true := h5
    have hs : ∀ x : WRow, decide (j - 1 < (d1.set j x).length) = true := fun x => by rw [List.length_set]; exact dec_t hj1
    exact gd_some.2 ⟨g1, xs03.eq4 _ _ _ _ _ (by
      simp only [xs03.t4, gt_dec, dec_t h1, wrap_pred (show 0 < j by omega) (show j < 9223372036854775807 by omega), ix_nn, ix_nat, dec_t hj, dec_t hj1, cond_true, impl_summed_1_eq _ _ _ _ (g1 _ (getD_mem ([], 0) hj)) (g1 _ (getD_mem ([], 0) hj1)), Option.bind_some, hc, hs]
      exact g2)⟩
  · rintro d' ⟨h1, h2, h3⟩
    refine ⟨d', ?_, h1, h2⟩
    have := (gd_some.1 (h3 d' (gd_some.2 ⟨hr.perm h1.perm, rfl⟩))).2
    exact xs03.eq _ _ _ (by simp only [xs03.t, wrap_succ (show a < 9223372036854775807 by omega)]; exact this)
theorem w_add {i j : Nat} (h : i + j < 4611686018427387904) : IntKind.i64.wrap ((i : Int) + (j : Int)) = ((i + j : Nat) : Int) := by rw [wrap_id] <;> omega
theorem w_sub {i j : Nat} (h : j ≤ i) (h2 : i < 4611686018427387904) : IntKind.i64.wrap ((i : Int) - (j : Int)) = ((i - j : Nat) : Int) := by rw [wrap_id] <;> omega
theorem swapRange_ok {d : List WRow} {a b n : Nat} (h2 : b + n ≤ d.length) (h3 : a + n ≤ d.length) (hl : d.length ≤ 1073741824) :
    xs07 d (a : Int) (b : Int) (n : Int) = some (swapR ([], 0) n d a b) := by
  refine xs07.eq _ _ _ _ ?_
  simp only [xs07.t]
  refine swap_loop (z := (([] : List Int), (0 : Int))) (n := n) (a := a) (b := b) (N := d.length) (fun d i => xs07.l1 d (a : Int) (b : Int) (n : Int) (i : Int)) some ?_ ?_ n 0 d rfl rfl (Nat.zero_le _) _ rfl
  · intro d1 r _ hx
    exact xs07.eq1 _ _ _ _ _ (by simp only [xs07.t1, ix_lt, Nat.lt_irrefl, decide_false, cond_false]; exact hx)
  · intro d1 i r hi hd hx
    have ha : a + i < d1.length := by omega
    have hb : b + i < d1.length := by omega
    have hs : ∀ x : WRow, decide (b + i < (d1.set (a + i) x).length) = true := fun x => by rw [List.length_set]; exact dec_t hb
    exact xs07.eq1 _ _ _ _ _ (by
      simp only [xs07.t1, ix_lt, dec_t hi, cond_true, w_add (show a + i < 4611686018427387904 by omega), w_add (show b + i < 4611686018427387904 by omega), ix_nn, ix_nat, dec_t ha, dec_t hb, hs, wrap_succ (show i < 9223372036854775807 by omega)]
      exact hx)
theorem rotate_ok {d : List WRow} {a m b : Nat} (ha : a < m) (hb : m < b) (hbl : b ≤ d.length) (hl : d.length ≤ 1073741824) :
    ∃ d', xs0a d (a : Int) (m : Int) (b : Int) = some d' ∧ Mv ([], 0) d d' a b ∧ RotF (fun k => d.getD k ([], 0)) (fun k => d'.getD k ([], 0)) a m b := by
  refine Exists.elim (rot_loop (z := (([] : List Int), (0 : Int))) (m := m) (N := d.length) (fun d i j => xs0a.l2 d (m : Int) (i : Int) (j : Int)) some ?_ ?_ ?_ _ (m - a) (b - m) d rfl (by omega) (by omega) (by omega) (by omega) rfl) ?_
  · intro d1 i r h1 h2 h3 h4 hx
    refine xs0a.eq2 _ _ _ _ ?_
    have e := swapRange_ok (d := d1) (a := m - i) (b := m) (n := i) (by omega) (by omega) (by omega)
    simp only [xs0a.t2, bne_ref, cond_false, w_sub (show i ≤ m by omega) (show m < 4611686018427387904 by omega), e, Option.bind_some]
    exact hx
  · intro d1 i j r h1 h2 h3 h4 h5 hx
    refine xs0a.eq2 _ _ _ _ ?_
    have e := swapRange_ok (d := d1) (a := m - i) (b := m) (n := j) (by omega) (by omega) (by omega)
    simp only [xs0a.t2, bneI, dec_f (show ¬ i = j by omega), bang_f, cond_true, gt_dec, dec_t h1, w_sub (show i ≤ m by omega) (show m < 4611686018427387904 by omega), e, Option.bind_some, w_sub (show j ≤ i by omega) (show i < 4611686018427387904 by omega)]
    exact hx
  · intro d1 i j r h1 h2 h3 h4 h5 hx
    refine xs0a.eq2 _ _ _ _ ?_
    have e := swapRange_ok (d := d1) (a := m - i) (b := m + j - i) (n := i) (by omega) (by omega) (by omega)
    simp only [xs0a.t2, bneI, dec_f (show ¬ i = j by omega), bang_f, cond_true, cond_false, gt_dec, dec_f (show ¬ j < i by omega), w_sub (show i ≤ m by omega) (show m < 4611686018427387904 by omega), w_add (show m + j < 4611686018427387904 by omega), w_sub (show i ≤ m + j by omega) (show m + j < 4611686018427387904 by omega), e, Option.bind_some, w_sub (show i ≤ j by omega) (show j < 4611686018427387904 by omega)]
    exact hx
  · rintro d' ⟨h1, h2, h3⟩
    rw [show m - (m - a) = a by omega, show m + (b - m) = b by omega] at h1 h2
    refine ⟨d', xs0a.eq _ _ _ _ ?_, h1, h2⟩
    simp only [xs0a.t, w_sub (show a ≤ m by omega) (show m < 4611686018427387904 by omega), w_sub (show m ≤ b by omega) (show b < 4611686018427387904 by omega)]
    exact h3 d' rfl
end GoV

/- The weight of a row: by binary search, and one by one. -/
namespace GoV
open Go
def weightP (l : List WRow) (r : List Int) : Int := match l.find? (fun w => cmpL w.1 r == 0) with | some w => w.2 | none => 0
/-- The middle of two numbers, as Go reckons it. -/
theorem mid_nat (i j : Nat) (h : i + j < 4611686018427387904) : IntKind.i64.wrap ((IntKind.u64.wrap (IntKind.i64.wrap ((i : Int) + (j : Int)))).fdiv ((2 : Int) ^ Min.min (Int.toNat (1 : Int)) IntKind.u64.bits)) = (((i + j) / 2 : Nat) : Int) := by
  have e1 : IntKind.i64.wrap ((i : Int) + (j : Int)) = ((i + j : Nat) : Int) := by rw [wrap_id] <;> omega
  have e2 : IntKind.u64.wrap ((i + j : Nat) : Int) = ((i + j : Nat) : Int) := by
    have : IntKind.u64.wrap ((i + j : Nat) : Int) = ((i + j : Nat) : Int) % 18446744073709551616 := by simp [IntKind.wrap, IntKind.bits, IntKind.signed]
    rw [this]
    omega
  have e3 : Min.min (Int.toNat (1 : Int)) IntKind.u64.bits = 1 := rfl
  rw [e1, e2, e3, Int.pow_one, Int.fdiv_eq_ediv_of_nonneg _ (by omega)]
  rw [wrap_id] <;> omega
section
variable {l : List WRow} {r : List Int} (hl : l.length ≤ 1073741824) (hr : ∀ w, w ∈ l → w.1.length ≤ 1073741824) (hx : r.length ≤ 1073741824) (hs : sortedW l)
include hl hr hx hs
end
end GoV

/- The library's stable sort of rows with weights: merging in place, and all of it. -/
namespace GoV
open Go
theorem RotF.none {f : Nat → WRow} {s m t : Nat} (h : s = m ∨ t = m) (h1 : s ≤ m) (h2 : m ≤ t) : RotF f f s m t := by
  intro k
  by_cases c1 : s ≤ k ∧ k < s + (t - m)
  · rw [if_pos c1]; congr 1; omega
  · rw [if_neg c1]
    by_cases c2 : s + (t - m) ≤ k ∧ k < t
    · rw [if_pos c2]; congr 1; omega
    · rw [if_neg c2]
theorem one_eq (i j : Nat) (h : j ≤ i) (h2 : i < 4611686018427387904) : (IntKind.i64.wrap ((i : Int) - (j : Int)) == (1 : Int)) = decide (i - j = 1) := by
  rw [w_sub h h2]
  by_cases e : i - j = 1
  · rw [e]; rfl
  · rw [dec_f e]
    exact beq_eq_false_iff_ne.2 (by omega)
abbrev zW : WRow := ([], 0)
/-- One element alone to the left. -/
theorem sym_left {d : List WRow} {a b : Nat} (hab : a + 1 < b) (hb : b ≤ d.length) (hl : d.length ≤ 1073741824) (hr : Rows d) (hs : SortS zW ltW d (a + 1) b) :
    ∃ d', xs09 d (a : Int) ((a + 1 : Nat) : Int) (b : Int) = some d' ∧ Mv zW d d' a b ∧ SortS zW ltW d' a b := by
  have hmono : ∀ h k, a + 1 ≤ k → k ≤ h → h < b → ltW (d.getD h zW) (d.getD a zW) = true → ltW (d.getD k zW) (d.getD a zW) = true := by
    intro h k h1 h2 h3 h4
    cases e : ltW (d.getD k zW) (d.getD a zW) with
    | true => rfl
    | false =>
      have := ltW_ord.tr _ _ _ e (hs.le ltW_ord h1 h2 h3)
      rw [this] at h4; cases h4
  refine Exists.elim (bs_loop (p := fun h => ltW (d.getD h zW) (d.getD a zW)) (lo := a + 1) (hi := b) hmono (fun i j => xs09.l3 d (a : Int) (i : Int) (j : Int)) (fun q => xs09.l9 d (q : Int) (a : Int)) ?_ ?_ ?_ _ (a + 1) b rfl (Nat.le_refl _) (by omega) (Nat.le_refl _) (fun k h1 h2 => by omega) (fun k h1 h2 => by omega)) ?_
  · intro i r h1 h2 hx
    exact xs09.eq3 _ _ _ _ (by simp only [xs09.t3, ix_lt, Nat.lt_irrefl, decide_false, cond_false]; exact hx)
  · intro i j r h1 h2 h3 h4 hx
    have hm := mid_nat i j (by omega)
    have hh : (i + j) / 2 < d.length := by omega
    have hal : a < d.length := by omega
    have hc : decide (cmpL (d.getD ((i + j) / 2) ([], 0)).1 (d.getD a ([], 0)).1 < 0) = true := h4
    refine xs09.eq3 _ _ _ _ ?_
    simp only [xs09.t3, ix_lt, dec_t h1, cond_true, hm, ix_nn, ix_nat, dec_t hh, dec_t hal, impl_summed_1_eq _ _ _ _ (hr _ (getD_mem ([], 0) hh)) (hr _ (getD_mem ([], 0) hal)), Option.bind_some, hc, wrap_succ (show (i + j) / 2 < 9223372036854775807 by omega)]
    exact hx
  · intro i j r h1 h2 h3 h4 hx
    have hm := mid_nat i j (by omega)
    have hh : (i + j) / 2 < d.length := by omega
    have hal : a < d.length := by omega
    have hc : decide (cmpL (d.getD ((i + j) / 2) ([], 0)).1 (d.getD a ([], 0)).1 < 0) = false := h4
    refine xs09.eq3 _ _ _ _ ?_
    simp only [xs09.t3, ix_lt, dec_t h1, cond_true, hm, ix_nn, ix_nat, dec_t hh, dec_t hal, impl_summed_1_eq _ _ _ _ (hr _ (getD_mem ([], 0) hh)) (hr _ (getD_mem ([], 0) hal)), Option.bind_some, hc, cond_false]
    exact hx
  · rintro q ⟨q1, q2, q3, q4, q5⟩
    refine Exists.elim (up_loop (z := zW) (e := q - 1) (N := d.length) (by omega) (fun d k => xs09.l9 d (q : Int) (k : Int)) some ?_ ?_ _ a d rfl (by omega) rfl) ?_
    · intro d1 r _ hx
      refine xs09.eq9 _ _ _ ?_
      simp only [xs09.t9, wrap_pred (show 0 < q by omega) (show q < 9223372036854775807 by omega), ix_lt, Nat.lt_irrefl, decide_false, cond_false]
      exact hx
    · intro d1 k r h1 h2 hx
      have hk : k < d1.length := by omega
      have hk1 : k + 1 < d1.length := by omega
      have hset : ∀ x : WRow, decide (k + 1 < (d1.set k x).length) = true := fun x => by rw [List.length_set]; exact dec_t hk1
      refine xs09.eq9 _ _ _ ?_
      simp only [xs09.t9, wrap_pred (show 0 < q by omega) (show q < 9223372036854775807 by omega), ix_lt, dec_t h1, cond_true, wrap_succ (show k < 9223372036854775807 by omega), ix_nn, ix_nat, dec_t hk, dec_t hk1, hset]
      exact hx
    · rintro d' ⟨k1, k2, k3⟩
      refine ⟨d', xs09.eq _ _ _ _ ?_, k1.mono (Nat.le_refl _) (by omega), ?_⟩
      · simp only [xs09.t, one_eq _ _ (show a ≤ a + 1 by omega) (show a + 1 < 4611686018427387904 by omega), dec_t (show a + 1 - a = 1 by omega), cond_true]
        exact q5 _ (k3 d' rfl)
      · refine sort_up (i := q) ltW_asym hs (by omega) q2 (fun k h1 h2 => q3 k (by omega) h2) (fun k h1 h2 => q4 k h1 h2) ?_
        intro k
        exact k2 k
/-- One element alone to the right. -/
theorem sym_right {d : List WRow} {a m : Nat} (ham : a + 1 < m) (hb : m + 1 ≤ d.length) (hl : d.length ≤ 1073741824) (hr : Rows d) (hs : SortS zW ltW d a m) :
    ∃ d', xs09 d (a : Int) (m : Int) ((m + 1 : Nat) : Int) = some d' ∧ Mv zW d d' a (m + 1) ∧ SortS zW ltW d' a (m + 1) := by
  have hmono : ∀ h k, a ≤ k → k ≤ h → h < m → (!ltW (d.getD m zW) (d.getD h zW)) = true → (!ltW (d.getD m zW) (d.getD k zW)) = true := by
    intro h k h1 h2 h3 h4
    have h4' : ltW (d.getD m zW) (d.getD h zW) = false := by simpa using h4
    have := ltW_ord.tr _ _ _ (hs.le ltW_ord h1 h2 h3) h4'
    rw [this]; rfl
  refine Exists.elim (bs_loop (p := fun h => !ltW (d.getD m zW) (d.getD h zW)) (lo := a) (hi := m) hmono (fun i j => xs09.l15 d (m : Int) (i : Int) (j : Int)) (fun q => xs09.l21 d (q : Int) (m : Int)) ?_ ?_ ?_ _ a m rfl (Nat.le_refl _) (by omega) (Nat.le_refl _) (fun k h1 h2 => by omega) (fun k h1 h2 => by omega)) ?_
  · intro i r h1 h2 hx
    exact xs09.eq15 _ _ _ _ (by simp only [xs09.t15, ix_lt, Nat.lt_irrefl, decide_false, cond_false]; exact hx)
  · intro i j r h1 h2 h3 h4 hx
    have hm := mid_nat i j (by omega)
    have hh : (i + j) / 2 < d.length := by omega
    have hal : m < d.length := by omega
    have hc : decide (cmpL (d.getD m ([], 0)).1 (d.getD ((i + j) / 2) ([], 0)).1 < 0) = false := by simpa [ltW] using h4
    refine xs09.eq15 _ _ _ _ ?_
    simp only [xs09.t15, ix_lt, dec_t h1, cond_true, hm, ix_nn, ix_nat, dec_t hh, dec_t hal, impl_summed_1_eq _ _ _ _ (hr _ (getD_mem ([], 0) hal)) (hr _ (getD_mem ([], 0) hh)), Option.bind_some, hc, bang_f, wrap_succ (show (i + j) / 2 < 9223372036854775807 by omega)]
    exact hx
  · intro i j r h1 h2 h3 h4 hx
    have hm := mid_nat i j (by omega)
    have hh : (i + j) / 2 < d.length := by omega
    have hal : m < d.length := by omega
    have hc : decide (cmpL (d.getD m ([], 0)).1 (d.getD ((i + j) / 2) ([], 0)).1 < 0) = true := by simpa [ltW] using h4
    refine xs09.eq15 _ _ _ _ ?_
    simp only [xs09.t15, ix_lt, dec_t h1, cond_true, cond_false, hm, ix_nn, ix_nat, dec_t hh, dec_t hal, impl_summed_1_eq _ _ _ _ (hr _ (getD_mem ([], 0) hal)) (hr _ (getD_mem ([], 0) hh)), Option.bind_some, hc, bang_t]
    exact hx
  · rintro q ⟨q1, q2, q3, q4, q5⟩
    refine Exists.elim (down_loop (z := zW) (e := q) (N := d.length) (fun d k => xs09.l21 d (q : Int) (k : Int)) some ?_ ?_ _ m d rfl q2 (by omega) rfl) ?_
    · intro d1 r _ hx
      refine xs09.eq21 _ _ _ ?_
      simp only [xs09.t21, gt_dec, Nat.lt_irrefl, decide_false, cond_false]
      exact hx
    · intro d1 k r h1 h1' h2 hx
      have hk : k < d1.length := by omega
      have hk1 : k - 1 < d1.length := by omega
      have hset : ∀ x : WRow, decide (k - 1 < (d1.set k x).length) = true := fun x => by rw [List.length_set]; exact dec_t hk1
      refine xs09.eq21 _ _ _ ?_
      simp only [xs09.t21, gt_dec, dec_t h1, cond_true, wrap_pred (show 0 < k by omega) (show k < 9223372036854775807 by omega), ix_nn, ix_nat, dec_t hk, dec_t hk1, hset]
      exact hx
    · rintro d' ⟨k1, k2, k3⟩
      refine ⟨d', xs09.eq _ _ _ _ ?_, k1.mono q1 (Nat.le_refl _), ?_⟩
      · simp only [xs09.t, one_eq _ _ (show a ≤ m by omega) (show m < 4611686018427387904 by omega), dec_f (show ¬ m - a = 1 by omega), cond_false, one_eq _ _ (show m ≤ m + 1 by omega) (show m + 1 < 4611686018427387904 by omega), dec_t (show m + 1 - m = 1 by omega), cond_true]
        exact q5 _ (k3 d' rfl)
      · refine sort_down (i := q) ltW_asym hs q1 q2 (fun k h1 h2 => by simpa using q3 k h1 h2) (fun k h1 h2 => by simpa using q4 k h1 h2) ?_
        intro k
        exact k2 k
end GoV

/- The library's stable sort of rows with weights: merging in place. -/
namespace GoV
open Go
theorem sym_ok : ∀ (n : Nat) (d : List WRow) (a m b : Nat), b - a = n → a < m → m < b → b ≤ d.length → d.length ≤ 1073741824 → Rows d → SortS zW ltW d a m → SortS zW ltW d m b →
    ∃ d', xs09 d (a : Int) (m : Int) (b : Int) = some d' ∧ Mv zW d d' a b ∧ SortS zW ltW d' a b := by
  intro n
  induction n using Nat.strongRecOn with
  | ind n ih =>
    intro d a m b hn ham hmb hb hl hr h1 h2
    by_cases e1 : m = a + 1
    · subst e1
      exact sym_left (by omega) hb hl hr h2
    by_cases e2 : b = m + 1
    · subst e2
      exact sym_right (by omega) hb hl hr h1
    obtain ⟨mid, hmid⟩ : ∃ mid, mid = (a + b) / 2 := ⟨_, rfl⟩
    obtain ⟨s0, hs0⟩ : ∃ s0, s0 = if m > mid then mid + m - b else a := ⟨_, rfl⟩
    obtain ⟨r0, hr0⟩ : ∃ r0, r0 = if m > mid then mid else m := ⟨_, rfl⟩
    have hbd : ∀ c, s0 ≤ c → c < r0 → (a ≤ c ∧ c < m) ∧ m ≤ mid + m - 1 - c ∧ mid + m - 1 - c < b := by
      intro c g1 g2
      split at hs0 <;> split at hr0 <;> omega
    have hsr : s0 ≤ r0 ∧ r0 < 1073741824 := by
      split at hs0 <;> split at hr0 <;> omega
    have hmono : ∀ h k, s0 ≤ k → k ≤ h → h < r0 → (!ltW (d.getD (mid + m - 1 - h) zW) (d.getD h zW)) = true → (!ltW (d.getD (mid + m - 1 - k) zW) (d.getD k zW)) = true := by
      intro h k g1 g2 g3 g4
      have g4' : ltW (d.getD (mid + m - 1 - h) zW) (d.getD h zW) = false := by simpa using g4
      obtain ⟨⟨k1, k2⟩, k3, k4⟩ := hbd k g1 (by omega)
      obtain ⟨⟨k5, k6⟩, k7, k8⟩ := hbd h (by omega) g3
      have := ltW_ord.tr _ _ _ (ltW_ord.tr _ _ _ (h1.le ltW_ord k1 g2 k6) g4') (h2.le ltW_ord k7 (show mid + m - 1 - h ≤ mid + m - 1 - k by omega) k4)
      rw [this]; rfl
    refine Exists.elim (bs_loop (p := fun c => !ltW (d.getD (mid + m - 1 - c) zW) (d.getD c zW)) (lo := s0) (hi := r0) hmono
      (fun i j => xs09.l33 d (a : Int) (m : Int) (b : Int) (mid : Int) ((mid + m : Nat) : Int) (i : Int) (j : Int) ((mid + m - 1 : Nat) : Int))
      (fun q => xs09.l33 d (a : Int) (m : Int) (b : Int) (mid : Int) ((mid + m : Nat) : Int) (q : Int) (q : Int) ((mid + m - 1 : Nat) : Int)) (fun i r _ _ h => h) ?_ ?_ _ s0 r0 rfl (Nat.le_refl _) hsr.1 (Nat.le_refl _) (fun k h1 h2 => by omega) (fun k h1 h2 => by omega)) ?_
    · intro i j r g1 g2 g3 g4 hx
      obtain ⟨⟨k1, k2⟩, k3, k4⟩ := hbd ((i + j) / 2) (by omega) (by omega)
      have hm := mid_nat i j (by omega)
      have hh : (i + j) / 2 < d.length := by omega
      have hal : mid + m - 1 - (i + j) / 2 < d.length := by omega
      have hc : decide (cmpL (d.getD (mid + m - 1 - (i + j) / 2) ([], 0)).1 (d.getD ((i + j) / 2) ([], 0)).1 < 0) = false := by simpa [ltW] using g4
      refine xs09.eq33 _ _ _ _ _ _ _ _ _ ?_
      simp only [xs09.t33, ix_lt, dec_t g1, cond_true, hm, w_sub (show (i + j) / 2 ≤ mid + m - 1 by omega) (show mid + m - 1 < 4611686018427387904 by omega), ix_nn, ix_nat, dec_t hh, dec_t hal, impl_summed_1_eq _ _ _ _ (hr _ (getD_mem ([], 0) hal)) (hr _ (getD_mem ([], 0) hh)), Option.bind_some, hc, bang_f, wrap_succ (show (i + j) / 2 < 9223372036854775807 by omega)]
      exact hx
    · intro i j r g1 g2 g3 g4 hx
      obtain ⟨⟨k1, k2⟩, k3, k4⟩ := hbd ((i + j) / 2) (by omega) (by omega)
      have hm := mid_nat i j (by omega)
      have hh : (i + j) / 2 < d.length := by omega
      have hal : mid + m - 1 - (i + j) / 2 < d.length := by omega
      have hc : decide (cmpL (d.getD (mid + m - 1 - (i + j) / 2) ([], 0)).1 (d.getD ((i + j) / 2) ([], 0)).1 < 0) = true := by simpa [ltW] using g4
      refine xs09.eq33 _ _ _ _ _ _ _ _ _ ?_
      simp only [xs09.t33, ix_lt, dec_t g1, cond_true, cond_false, hm, w_sub (show (i + j) / 2 ≤ mid + m - 1 by omega) (show mid + m - 1 < 4611686018427387904 by omega), ix_nn, ix_nat, dec_t hh, dec_t hal, impl_summed_1_eq _ _ _ _ (hr _ (getD_mem ([], 0) hal)) (hr _ (getD_mem ([], 0) hh)), Option.bind_some, hc, bang_t]
      exact hx
    · rintro s ⟨q1, q2, q3, q4, q5⟩
      obtain ⟨t, ht⟩ : ∃ t, t = mid + m - s := ⟨_, rfl⟩
      have hst : a ≤ s ∧ s ≤ m ∧ m ≤ t ∧ t ≤ b ∧ s ≤ mid ∧ mid ≤ t := by
        split at hs0 <;> split at hr0 <;> omega
      obtain ⟨b1, b2, b3, b4, b5, b6⟩ := hst
      -- the rotation
      obtain ⟨e, he1, he2, he3, he4⟩ : ∃ e, Mv zW d e a b ∧ RotF (fun k => d.getD k zW) (fun k => e.getD k zW) s m t ∧ (s < m ∧ m < t → xs0a d (s : Int) (m : Int) (t : Int) = some e) ∧ (¬ (s < m ∧ m < t) → e = d) := by
        by_cases c : s < m ∧ m < t
        · obtain ⟨e, k1, k2, k3⟩ := rotate_ok (d := d) c.1 c.2 (by omega) hl
          exact ⟨e, k2.mono b1 b4, k3, fun _ => k1, fun h => absurd c h⟩
        · exact ⟨d, .refl _ _ _, RotF.none (by omega) b2 b3, fun h => absurd h c, fun _ => rfl⟩
      obtain ⟨_, x1, x2, x3, x4, x5⟩ := sym_halves ltW_ord ltW_asym hmid ham hmb h1 h2 hs0 hr0 q1 q2 ht (fun c g1 g2 => by simpa using q3 c g1 g2) (fun c g1 g2 => by simpa using q4 c g1 g2) he2
      have hel : e.length = d.length := he1.len
      have her : Rows e := hr.perm he1.perm
      -- the left half
      obtain ⟨f, hf1, hf2, hf3, hf4⟩ : ∃ f, Mv zW e f a mid ∧ SortS zW ltW f a mid ∧ (a < s ∧ s < mid → xs09 e (a : Int) (s : Int) (mid : Int) = some f) ∧ (¬ (a < s ∧ s < mid) → f = e) := by
        by_cases c : a < s ∧ s < mid
        · obtain ⟨f, k1, k2, k3⟩ := ih (mid - a) (by omega) e a s mid rfl c.1 c.2 (by omega) (by omega) her x1 x2
          exact ⟨f, k2, k3, fun _ => k1, fun h => absurd c h⟩
        · refine ⟨e, .refl _ _ _, ?_, fun h => absurd h c, fun _ => rfl⟩
          by_cases c2 : a = s
          · rw [c2]; exact x2
          · have : s = mid := by omega
            rw [← this]; exact x1
      have hfl : f.length = e.length := hf1.len
      have hfr : Rows f := her.perm hf1.perm
      have hout : ∀ k, mid ≤ k → f.getD k zW = e.getD k zW := fun k hk => hf1.out k (.inr hk)
      have y3 : SortS zW ltW f mid t := x3.congr fun k g _ => hout k g
      have y4 : SortS zW ltW f t b := x4.congr fun k g _ => hout k (by omega)
      -- the right half
      obtain ⟨g, hg1, hg2, hg3, hg4⟩ : ∃ g, Mv zW f g mid b ∧ SortS zW ltW g mid b ∧ (mid < t ∧ t < b → xs09 f (mid : Int) (t : Int) (b : Int) = some g) ∧ (¬ (mid < t ∧ t < b) → g = f) := by
        by_cases c : mid < t ∧ t < b
        · obtain ⟨g, k1, k2, k3⟩ := ih (b - mid) (by omega) f mid t b rfl c.1 c.2 (by omega) (by omega) hfr y3 y4
          exact ⟨g, k2, k3, fun _ => k1, fun h => absurd c h⟩
        · refine ⟨f, .refl _ _ _, ?_, fun h => absurd h c, fun _ => rfl⟩
          by_cases c2 : mid = t
          · rw [c2]; exact y4
          · have : t = b := by omega
            rw [← this]; exact y3
      have hmidb : a < mid ∧ mid < b := by omega
      have hfg : Mv zW e g a b := (hf1.mono (Nat.le_refl _) (by omega)).trans (hg1.mono (by omega) (Nat.le_refl _))
      have hin : ∀ k, k < mid → g.getD k zW = f.getD k zW := fun k hk => hg1.out k (.inl hk)
      refine ⟨g, ?_, he1.trans hfg, ?_⟩
      · refine xs09.eq _ _ _ _ ?_
        have hm := mid_nat a b (by omega)
        rw [← hmid] at hm
        have hres : xs09.l33 d (a : Int) (m : Int) (b : Int) (mid : Int) ((mid + m : Nat) : Int) (s : Int) (s : Int) ((mid + m - 1 : Nat) : Int) = some g := by
          refine xs09.eq33 _ _ _ _ _ _ _ _ _ ?_
          have hsub : IntKind.i64.wrap (((mid + m : Nat) : Int) - (s : Int)) = (t : Int) := by rw [w_sub (by omega) (by omega), ht]
          simp only [xs09.t33, ix_lt, Nat.lt_irrefl, decide_false, cond_false, hsub]
          by_cases c1 : s < m ∧ m < t
          · have z1 := he3 c1
            simp only [dec_t c1.1, dec_t c1.2, cond_true, z1, Option.bind_some]
            by_cases c2 : a < s ∧ s < mid
            · have z2 := hf3 c2
              simp only [dec_t c2.1, dec_t c2.2, cond_true, z2, Option.bind_some]
              by_cases c3 : mid < t ∧ t < b
              · simp only [dec_t c3.1, dec_t c3.2, cond_true, hg3 c3, Option.bind_some]
              · rw [hg4 c3]
                by_cases c4 : mid < t
                · simp only [dec_t c4, dec_f (show ¬ t < b from fun h => c3 ⟨c4, h⟩), cond_true, cond_false]
                · simp only [dec_f c4, cond_false]
            · have z2 := hf4 c2
              subst z2
              by_cases c5 : a < s
              · simp only [dec_t c5, dec_f (show ¬ s < mid from fun h => c2 ⟨c5, h⟩), cond_true, cond_false]
                by_cases c3 : mid < t ∧ t < b
                · simp only [dec_t c3.1, dec_t c3.2, cond_true, hg3 c3, Option.bind_some]
                · rw [hg4 c3]
                  by_cases c4 : mid < t
                  · simp only [dec_t c4, dec_f (show ¬ t < b from fun h => c3 ⟨c4, h⟩), cond_true, cond_false]
                  · simp only [dec_f c4, cond_false]
              · simp only [dec_f c5, cond_false]
                by_cases c3 : mid < t ∧ t < b
                · simp only [dec_t c3.1, dec_t c3.2, cond_true, hg3 c3, Option.bind_some]
                · rw [hg4 c3]
                  by_cases c4 : mid < t
                  · simp only [dec_t c4, dec_f (show ¬ t < b from fun h => c3 ⟨c4, h⟩), cond_true, cond_false]
                  · simp only [dec_f c4, cond_false]
          · have z1 := he4 c1
            subst z1
            have hno : (decide (s < m) && decide (m < t)) = false := by
              by_cases c6 : s < m
              · rw [dec_f (show ¬ m < t from fun h => c1 ⟨c6, h⟩), Bool.and_false]
              · rw [dec_f c6, Bool.false_and]
            by_cases c6 : s < m
            · simp only [dec_t c6, dec_f (show ¬ m < t from fun h => c1 ⟨c6, h⟩), cond_true, cond_false]
              by_cases c2 : a < s ∧ s < mid
              · have z2 := hf3 c2
                simp only [dec_t c2.1, dec_t c2.2, cond_true, z2, Option.bind_some]
                by_cases c3 : mid < t ∧ t < b
                · simp only [dec_t c3.1, dec_t c3.2, cond_true, hg3 c3, Option.bind_some]
                · rw [hg4 c3]
                  by_cases c4 : mid < t
                  · simp only [dec_t c4, dec_f (show ¬ t < b from fun h => c3 ⟨c4, h⟩), cond_true, cond_false]
                  · simp only [dec_f c4, cond_false]
              · have z2 := hf4 c2
                subst z2
                by_cases c5 : a < s
                · simp only [dec_t c5, dec_f (show ¬ s < mid from fun h => c2 ⟨c5, h⟩), cond_true, cond_false]
                  by_cases c3 : mid < t ∧ t < b
                  · simp only [dec_t c3.1, dec_t c3.2, cond_true, hg3 c3, Option.bind_some]
                  · rw [hg4 c3]
                    by_cases c4 : mid < t
                    · simp only [dec_t c4, dec_f (show ¬ t < b from fun h => c3 ⟨c4, h⟩), cond_true, cond_false]
                    · simp only [dec_f c4, cond_false]
                · simp only [dec_f c5, cond_false]
                  by_cases c3 : mid < t ∧ t < b
                  · simp only [dec_t c3.1, dec_t c3.2, cond_true, hg3 c3, Option.bind_some]
                  · rw [hg4 c3]
                    by_cases c4 : mid < t
                    · simp only [dec_t c4, dec_f (show ¬ t < b from fun h => c3 ⟨c4, h⟩), cond_true, cond_false]
                    · simp only [dec_f c4, cond_false]
            · simp only [dec_f c6, cond_false]
              by_cases c2 : a < s ∧ s < mid
              · have z2 := hf3 c2
                simp only [dec_t c2.1, dec_t c2.2, cond_true, z2, Option.bind_some]
                by_cases c3 : mid < t ∧ t < b
                · simp only [dec_t c3.1, dec_t c3.2, cond_true, hg3 c3, Option.bind_some]
                · rw [hg4 c3]
                  by_cases c4 : mid < t
                  · simp only [dec_t c4, dec_f (show ¬ t < b from fun h => c3 ⟨c4, h⟩), cond_true, cond_false]
                  · simp only [dec_f c4, cond_false]
              · have z2 := hf4 c2
                subst z2
                by_cases c5 : a < s
                · simp only [dec_t c5, dec_f (show ¬ s < mid from fun h => c2 ⟨c5, h⟩), cond_true, cond_false]
                  by_cases c3 : mid < t ∧ t < b
                  · simp only [dec_t c3.1, dec_t c3.2, cond_true, hg3 c3, Option.bind_some]
                  · rw [hg4 c3]
                    by_cases c4 : mid < t
                    · simp only [dec_t c4, dec_f (show ¬ t < b from fun h => c3 ⟨c4, h⟩), cond_true, cond_false]
                    · simp only [dec_f c4, cond_false]
                · simp only [dec_f c5, cond_false]
                  by_cases c3 : mid < t ∧ t < b
                  · simp only [dec_t c3.1, dec_t c3.2, cond_true, hg3 c3, Option.bind_some]
                  · rw [hg4 c3]
                    by_cases c4 : mid < t
                    · simp only [dec_t c4, dec_f (show ¬ t < b from fun h => c3 ⟨c4, h⟩), cond_true, cond_false]
                    · simp only [dec_f c4, cond_false]
        have hq := q5 _ hres
        have hn : IntKind.i64.wrap ((mid : Int) + (m : Int)) = ((mid + m : Nat) : Int) := w_add (by omega)
        have hp : IntKind.i64.wrap (((mid + m : Nat) : Int) - (1 : Int)) = ((mid + m - 1 : Nat) : Int) := wrap_pred (by omega) (by omega)
        simp only [xs09.t, one_eq _ _ (show a ≤ m by omega) (show m < 4611686018427387904 by omega), dec_f (show ¬ m - a = 1 by omega), cond_false, one_eq _ _ (show m ≤ b by omega) (show b < 4611686018427387904 by omega), dec_f (show ¬ b - m = 1 by omega), hm, hn, hp, gt_dec]
        by_cases c : m > mid
        · rw [if_pos c] at hs0 hr0
          have hs : IntKind.i64.wrap (((mid + m : Nat) : Int) - (b : Int)) = (s0 : Int) := by rw [w_sub (by omega) (by omega), hs0]
          simp only [dec_t (show mid < m from c), cond_true, hs]
          rw [hr0] at hq
          exact hq
        · rw [if_neg c] at hs0 hr0
          simp only [dec_f (show ¬ mid < m from c), cond_false]
          rw [hs0, hr0] at hq
          exact hq
      · refine sym_join (mid := mid) hfg (fun k g1 g2 => ?_) (fun k g1 g2 => ?_) (hf2.congr fun k _ g2 => hin k g2) hg2 x5
        · obtain ⟨j, k1, k2, k3⟩ := hf1.from' k g1 g2
          exact ⟨j, k1, k2, by rw [hin k g2]; exact k3⟩
        · obtain ⟨j, k1, k2, k3⟩ := hg1.from' k g1 g2
          exact ⟨j, k1, k2, by rw [k3]; exact hout j k1⟩
end GoV

/- The library's stable sort of rows with weights: blocks sorted, then merged. -/
namespace GoV
open Go
/-- The first A blocks of s are sorted, each in itself. -/
def LoB (d : List WRow) (s A n : Nat) : Prop := ∀ q, q < A → q * s < n → SortS zW ltW d (q * s) (min (q * s + s) n)
/-- The blocks from the A-th on. -/
def HiB (d : List WRow) (s A n : Nat) : Prop := ∀ q, A ≤ q → q * s < n → SortS zW ltW d (q * s) (min (q * s + s) n)
theorem mul_le_of_lt {q A s : Nat} (h : q < A) : q * s + s ≤ A * s := by
  have := Nat.mul_le_mul_right s (show q + 1 ≤ A by omega)
  rwa [Nat.succ_mul] at this
theorem LoB.keep {d d' : List WRow} {s A n a b : Nat} (h : LoB d s A n) (hm : Mv zW d d' a b) (ha : A * s ≤ a) : LoB d' s A n := fun q h1 h2 =>
  (h q h1 h2).congr fun k _ g2 => hm.out k (.inl (by have := mul_le_of_lt (s := s) h1; omega))
theorem HiB.keep {d d' : List WRow} {s A n a b : Nat} (h : HiB d s A n) (hm : Mv zW d d' a b) (hb : b ≤ A * s) : HiB d' s A n := fun q h1 h2 =>
  (h q h1 h2).congr fun k g1 _ => hm.out k (.inr (by have := Nat.mul_le_mul_right s h1; omega))
theorem blocks_ok {n : Nat} {β : Type} (L : List WRow → Nat → Option β) (K : List WRow → Option β) (hn : n ≤ 1073741824)
    (hs : ∀ d d' A r, d.length = n → Rows d → A * 20 + 20 ≤ n → xs03 d ((A * 20 : Nat) : Int) ((A * 20 + 20 : Nat) : Int) = some d' → L d' (A + 1) = some r → L d A = some r)
    (he : ∀ d d' A r, d.length = n → Rows d → A * 20 ≤ n → n < A * 20 + 20 → xs03 d ((A * 20 : Nat) : Int) (n : Int) = some d' → K d' = some r → L d A = some r) :
    ∀ m A d, n - A * 20 = m → A * 20 ≤ n → d.length = n → Rows d → LoB d 20 A n → ∃ d' B, Mv zW d d' 0 n ∧ LoB d' 20 B n ∧ n < B * 20 ∧ ∀ r, K d' = some r → L d A = some r := by
  intro m
  induction m using Nat.strongRecOn with
  | ind m ih =>
    intro A d hm hA hd hr hlo
    by_cases c : A * 20 + 20 ≤ n
    · obtain ⟨d1, k1, k2, k3⟩ := ins_ok (d := d) (a := A * 20) (b := A * 20 + 20) (by omega) (by omega) hr (by omega)
      have hlo1 : LoB d1 20 (A + 1) n := by
        intro q h1 h2
        by_cases e : q < A
        · exact (hlo.keep k2 (Nat.le_refl _)) q e h2
        · obtain rfl : q = A := by omega
          rw [Nat.min_eq_left c]
          exact k3
      obtain ⟨d', B, g1, g2, g3, g4⟩ := ih (n - (A + 1) * 20) (by omega) (A + 1) d1 rfl (by omega) (k2.len.trans hd) (hr.perm k2.perm) hlo1
      exact ⟨d', B, (k2.mono (by omega) c).trans g1, g2, g3, fun r hr' => hs d d1 A r hd hr c k1 (g4 r hr')⟩
    · obtain ⟨d1, k1, k2, k3⟩ := ins_ok (d := d) (a := A * 20) (b := n) (by omega) (by omega) hr (by omega)
      refine ⟨d1, A + 1, k2.mono (by omega) (Nat.le_refl _), ?_, by omega, fun r hr' => he d d1 A r hd hr hA (by omega) k1 hr'⟩
      intro q h1 h2
      by_cases e : q < A
      · exact (hlo.keep k2 (Nat.le_refl _)) q e h2
      · obtain rfl : q = A := by omega
        rw [Nat.min_eq_right (by omega)]
        exact k3
theorem twice (A s : Nat) : 2 * A * s = A * (2 * s) := by rw [Nat.mul_comm 2 A, Nat.mul_assoc]
theorem twice1 (A s : Nat) : (2 * A + 1) * s = A * (2 * s) + s := by rw [Nat.succ_mul, twice]
theorem twice2 (A s : Nat) : 2 * (A + 1) * s = A * (2 * s) + 2 * s := by rw [twice, Nat.succ_mul]
theorem merges_ok {n s : Nat} {β : Type} (hs0 : 0 < s) (L : List WRow → Nat → Option β) (K : List WRow → Option β) (hn : n ≤ 1073741824)
    (hs : ∀ d d' A r, d.length = n → Rows d → A * (2 * s) + 2 * s ≤ n → xs09 d ((A * (2 * s) : Nat) : Int) ((A * (2 * s) + s : Nat) : Int) ((A * (2 * s) + 2 * s : Nat) : Int) = some d' → L d' (A + 1) = some r → L d A = some r)
    (he1 : ∀ d d' A r, d.length = n → Rows d → n < A * (2 * s) + 2 * s → A * (2 * s) + s < n → xs09 d ((A * (2 * s) : Nat) : Int) ((A * (2 * s) + s : Nat) : Int) (n : Int) = some d' → K d' = some r → L d A = some r)
    (he2 : ∀ d A r, d.length = n → Rows d → A * (2 * s) ≤ n → n ≤ A * (2 * s) + s → K d = some r → L d A = some r) :
    ∀ m A d, n - A * (2 * s) = m → A * (2 * s) ≤ n → d.length = n → Rows d → LoB d (2 * s) A n → HiB d s (2 * A) n → ∃ d', Mv zW d d' 0 n ∧ HiB d' (2 * s) 0 n ∧ ∀ r, K d' = some r → L d A = some r := by
  intro m
  induction m using Nat.strongRecOn with
  | ind m ih =>
    intro A d hm hA hd hr hlo hhi
    have hfin : ∀ d' : List WRow, LoB d' (2 * s) (A + 1) n → n ≤ A * (2 * s) + 2 * s → HiB d' (2 * s) 0 n := by
      intro d' h hle q _ h2
      refine h q ?_ h2
      rcases Nat.lt_or_ge q (A + 1) with g | g
      · exact g
      · have := Nat.mul_le_mul_right (2 * s) g
        rw [Nat.succ_mul] at this
        omega
    have h1 : A * (2 * s) < n → SortS zW ltW d (A * (2 * s)) (min (A * (2 * s) + s) n) := fun h => by
      have := hhi (2 * A) (Nat.le_refl _) (by rw [twice]; exact h)
      rwa [twice] at this
    have h2 : A * (2 * s) + s < n → SortS zW ltW d (A * (2 * s) + s) (min (A * (2 * s) + 2 * s) n) := fun h => by
      have := hhi (2 * A + 1) (by omega) (by rw [twice1]; exact h)
      rw [twice1] at this
      rwa [show A * (2 * s) + s + s = A * (2 * s) + 2 * s by omega] at this
    by_cases c : A * (2 * s) + 2 * s ≤ n
    · have g1 := h1 (by omega)
      have g2 := h2 (by omega)
      rw [Nat.min_eq_left (by omega)] at g1 g2
      obtain ⟨d1, k1, k2, k3⟩ := sym_ok _ d (A * (2 * s)) (A * (2 * s) + s) (A * (2 * s) + 2 * s) rfl (by omega) (by omega) (by omega) (by omega) hr g1 g2
      have hlo1 : LoB d1 (2 * s) (A + 1) n := by
        intro q h1 h2
        by_cases e : q < A
        · exact (hlo.keep k2 (Nat.le_refl _)) q e h2
        · obtain rfl : q = A := by omega
          rw [Nat.min_eq_left c]
          exact k3
      have hhi1 : HiB d1 s (2 * (A + 1)) n := HiB.keep (A := 2 * (A + 1)) (fun q h1 h2 => hhi q (by omega) h2) k2 (by rw [twice2]; exact Nat.le_refl _)
      obtain ⟨d', g3, g4, g5⟩ := ih (n - (A + 1) * (2 * s)) (by rw [Nat.succ_mul]; omega) (A + 1) d1 rfl (by rw [Nat.succ_mul]; exact c) (k2.len.trans hd) (hr.perm k2.perm) hlo1 hhi1
      exact ⟨d', (k2.mono (by omega) c).trans g3, g4, fun r hr' => hs d d1 A r hd hr c k1 (g5 r hr')⟩
    · by_cases c2 : A * (2 * s) + s < n
      · have g1 := h1 (by omega)
        have g2 := h2 c2
        rw [Nat.min_eq_left (by omega)] at g1
        rw [Nat.min_eq_right (by omega)] at g2
        obtain ⟨d1, k1, k2, k3⟩ := sym_ok _ d (A * (2 * s)) (A * (2 * s) + s) n rfl (by omega) (by omega) (by omega) (by omega) hr g1 g2
        refine ⟨d1, k2.mono (by omega) (Nat.le_refl _), hfin d1 ?_ (by omega), fun r hr' => he1 d d1 A r hd hr (by omega) c2 k1 hr'⟩
        intro q h1 h2
        by_cases e : q < A
        · exact (hlo.keep k2 (Nat.le_refl _)) q e h2
        · obtain rfl : q = A := by omega
          rw [Nat.min_eq_right (by omega)]
          exact k3
      · refine ⟨d, .refl _ _ _, hfin d ?_ (by omega), fun r hr' => he2 d A r hd hr hA (by omega) hr'⟩
        intro q g1 g2
        by_cases e : q < A
        · exact hlo q e g2
        · obtain rfl : q = A := by omega
          have := h1 g2
          rw [Nat.min_eq_right (by omega)] at this ⊢
          exact this
end GoV

/- The library's stable sort of rows with weights. -/
namespace GoV
open Go
theorem double_ok {n : Nat} (hn : n ≤ 1073741824) : ∀ (m s : Nat) (d : List WRow), n - s = m → 0 < s → s ≤ 2147483648 → d.length = n → Rows d → HiB d s 0 n →
    ∃ d', xs0b.l7 d (n : Int) (s : Int) = some d' ∧ Mv zW d d' 0 n ∧ SortS zW ltW d' 0 n := by
  intro m
  induction m using Nat.strongRecOn with
  | ind m ih =>
    intro s d hm hs0 hs hd hr hB
    by_cases c : s < n
    · have hd2 : IntKind.i64.wrap ((2 : Int) * (s : Int)) = ((2 * s : Nat) : Int) := by rw [wrap_id] <;> omega
      have hd3 : IntKind.i64.wrap ((s : Int) * (2 : Int)) = ((2 * s : Nat) : Int) := by rw [wrap_id] <;> omega
      refine Exists.elim (merges_ok (n := n) (s := s) hs0 (fun d A => xs0b.l9 d (n : Int) (s : Int) ((A * (2 * s) : Nat) : Int) ((A * (2 * s) + 2 * s : Nat) : Int)) (fun d => xs0b.l7 d (n : Int) ((2 * s : Nat) : Int)) hn ?_ ?_ ?_ _ 0 d rfl (by omega) hd hr (fun q h => by omega) hB) ?_
      · intro d1 d2 A r h1 h2 h3 h4 hx
        refine xs0b.eq9 _ _ _ _ _ ?_
        have hle : ((A * (2 * s) + 2 * s : Nat) : Int) ≤ (n : Int) := by omega
        simp only [xs0b.t9, dec_t hle, cond_true, w_add (show A * (2 * s) + s < 4611686018427387904 by omega), h4, Option.bind_some, hd2, w_add (show A * (2 * s) + 2 * s + 2 * s < 4611686018427387904 by omega)]
        rw [Nat.succ_mul] at hx
        exact hx
      · intro d1 d2 A r h1 h2 h3 h3' h4 hx
        refine xs0b.eq9 _ _ _ _ _ ?_
        have hle : ¬ ((A * (2 * s) + 2 * s : Nat) : Int) ≤ (n : Int) := by omega
        simp only [xs0b.t9, dec_f hle, cond_false, w_add (show A * (2 * s) + s < 4611686018427387904 by omega), ix_lt, dec_t h3', cond_true, h4, Option.bind_some, hd3]
        exact hx
      · intro d1 A r h1 h2 h3 h3' hx
        refine xs0b.eq9 _ _ _ _ _ ?_
        have hle : ¬ ((A * (2 * s) + 2 * s : Nat) : Int) ≤ (n : Int) := by omega
        simp only [xs0b.t9, dec_f hle, cond_false, w_add (show A * (2 * s) + s < 4611686018427387904 by omega), ix_lt, dec_f (show ¬ A * (2 * s) + s < n by omega), hd3]
        exact hx
      · rintro d1 ⟨k1, k2, k3⟩
        obtain ⟨d', g1, g2, g3⟩ := ih (n - 2 * s) (by omega) (2 * s) d1 rfl (by omega) (by omega) (k1.len.trans hd) (hr.perm k1.perm) k2
        refine ⟨d', xs0b.eq7 _ _ _ ?_, k1.trans g2, g3⟩
        have := k3 d' g1
        simp only [Nat.zero_mul, Nat.zero_add] at this
        simp only [xs0b.t7, ix_lt, dec_t c, cond_true, hd2]
        exact this
    · refine ⟨d, xs0b.eq7 _ _ _ ?_, .refl _ _ _, ?_⟩
      · simp only [xs0b.t7, ix_lt, dec_f c, cond_false]
      · intro i j h1 h2 h3
        have := hB 0 (Nat.le_refl _) (by omega)
        rw [Nat.zero_mul, Nat.zero_add, Nat.min_eq_right (by omega)] at this
        exact this i j h1 h2 h3
theorem sort_ok {d : List WRow} (hl : d.length ≤ 1073741824) (hr : Rows d) :
    ∃ d', xs00 d = some d' ∧ d'.Perm d ∧ SortS zW ltW d' 0 d'.length := by
  refine Exists.elim (blocks_ok (n := d.length) (fun d1 A => xs0b.l2 d1 (d.length : Int) 20 ((A * 20 : Nat) : Int) ((A * 20 + 20 : Nat) : Int)) (fun d1 => xs0b.l7 d1 (d.length : Int) 20) hl ?_ ?_ _ 0 d rfl (by omega) rfl hr (fun q h => by omega)) ?_
  · intro d1 d2 A r h1 h2 h3 h4 hx
    refine xs0b.eq2 _ _ _ _ _ ?_
    have hle : ((A * 20 + 20 : Nat) : Int) ≤ (d.length : Int) := by omega
    have hw : IntKind.i64.wrap (((A * 20 + 20 : Nat) : Int) + (20 : Int)) = (((A + 1) * 20 + 20 : Nat) : Int) := by rw [wrap_id] <;> omega
    have e : (A + 1) * 20 = A * 20 + 20 := by omega
    simp only [xs0b.t2, dec_t hle, cond_true, h4, Option.bind_some, hw]
    rw [← e]
    exact hx
  · intro d1 d2 A r h1 h2 h3 h3' h4 hx
    refine xs0b.eq2 _ _ _ _ _ ?_
    have hle : ¬ ((A * 20 + 20 : Nat) : Int) ≤ (d.length : Int) := by omega
    simp only [xs0b.t2, dec_f hle, cond_false, h4, Option.bind_some]
    exact hx
  · rintro d1 ⟨B, k1, k2, k3, k4⟩
    have hB : HiB d1 20 0 d.length := fun q _ h2 => k2 q (by omega) h2
    obtain ⟨d', g1, g2, g3⟩ := double_ok hl _ 20 d1 rfl (by omega) (by omega) k1.len (hr.perm k1.perm) hB
    have hm := k1.trans g2
    refine ⟨d', xs00.eq _ ?_, hm.perm, by rw [hm.len]; exact g3⟩
    have h2 := k4 d' g1
    have h3 := xs0b.eq d (d.length : Int) (b := d') (by simp only [xs0b.t]; exact h2)
    simp only [xs00.t, h3, Option.bind_some]
end GoV

/- A table handed on if it is good. -/
namespace GoV
open Go
theorem xi0s_eq (c : Int) (l : List WRow) (hl : l.length ≤ 1073741824) (hr : ∀ w, w ∈ l → w.1.length ≤ 1073741824) : xi0s c l = some (bif goodT c l then (c, l, true) else (0, [], false)) := by
  refine xi0s.eq c l ?_
  simp only [xi0s.t, impl_GoodTable_eq hl hr, Option.bind_some]
  cases goodT c l <;> rfl
end GoV

/- Lists of rows summed: what the program's 'summed' gives. -/
namespace GoV
open Go
theorem impl_summed_eq {c M : Int} {ls : List (List WRow)} {a b : List WRow} (he : ls.flatten = a ++ b) (hn : ls.length ≤ 1073741824) (hl : ls.flatten.length ≤ 1073741824) (hr : Rows ls.flatten) (hM : 0 ≤ M) (hw : ∀ w, w ∈ ls.flatten → -M ≤ w.2 ∧ w.2 ≤ M) (hbig : M * (ls.flatten.length : Int) ≤ 9223372036854775807)
    (h1 : sortedW a) (h2 : nzW a) : impl_summed c ls = some (c, putsL a b) := by
  have e1 := slices_Concat_W_eq ls hl hn
  obtain ⟨d, e2, hp, hs⟩ := sort_ok (d := ls.flatten) hl hr
  have hlen : d.length = ls.flatten.length := hp.length_eq
  have e3 := (groups_ok (d := d) (c := c) (M := M) (by omega) (hr.perm hp) hM (fun w hw' => hw w (hp.mem_iff.1 hw')) (by rw [hlen]; exact hbig) 0 (Nat.zero_le _)).1 [] (by simp)
  rw [List.drop_zero, List.nil_append, group_puts (by rw [← he]; exact hp) hs h1 h2] at e3
  refine impl_summed.eq c ls ?_
  simp only [impl_summed.t, e1, e2, Option.bind_some]
  exact e3
end GoV

/- Tables that are good, with as many columns. -/
namespace GoV
open Go
def alikeB (c : Int) (a : List WRow) (d : Int) (b : List WRow) : Bool := goodT c a && (goodT d b && (c == d))
end GoV

/- Some cells of a row; numbers of columns. -/
namespace GoV
open Go
def pickR (r cs : List Int) : List Int := cs.map fun k => r.getD k.toNat 0
def pickG (r : List Int) (k : Int) : List Int := [r.getD k.toNat 0]
theorem pickG_map (r : List Int) : ∀ cs : List Int, cs.flatMap (pickG r) = pickR r cs
  | [] => rfl
  | k :: cs => by rw [List.flatMap_cons, pickG_map r cs]; rfl
theorem pickR_len (r cs : List Int) : (pickR r cs).length = cs.length := by simp [pickR]
theorem impl_Row_picked_eq {r cs : List Int} (hl : cs.length ≤ 1073741824) (h : ∀ k, k ∈ cs → 0 ≤ k ∧ k.toNat < r.length) : impl_Row_picked r cs = some (pickR r cs) := by
  refine impl_Row_picked.eq r cs ?_
  simp only [impl_Row_picked.t]
  rw [← pickG_map]
  refine push_loop cs 0 (fun acc i => impl_Row_picked.l3 r [] acc cs (cs.length : Int) (i : Int)) (pickG r) (fun _ => Nat.le_refl _) some ?_ ?_ _ rfl
  · intro acc b _ hb
    exact impl_Row_picked.eq3 _ _ _ _ _ _ (by simp only [impl_Row_picked.t3, ix_lt, Nat.lt_irrefl, decide_false, cond_false]; exact hb)
  · intro acc i b hi ha hb
    obtain ⟨h1, h2⟩ := h _ (getD_mem 0 hi)
    refine impl_Row_picked.eq3 _ _ _ _ _ _ ?_
    have h3 : acc.length + [r.getD (cs.getD i 0).toNat 0].length ≤ 4294967296 := by simp only [List.length_cons, List.length_nil]; omega
    simp only [impl_Row_picked.t3, ix_lt, ix_nn, ix_nat, dec_t hi, dec_t h1, dec_t h2, dec_t h3, cond_true, wrap_succ (show i < 9223372036854775807 by omega)]
    exact hb
def plB (n k : Int) : Bool := decide (0 ≤ k) && decide (k < n)
theorem plB_iff {n k : Int} : plB n k = true ↔ 0 ≤ k ∧ k < n := by simp [plB]
def colsB (n : Int) (cs : List Int) : Bool := cs.all (plB n) && decide (cs.length ≤ 6)
theorem impl_isPlace_eq' (x c : Int) : impl_isPlace x c = some (plB c x) := by
  refine impl_isPlace.eq x c ?_
  simp only [impl_isPlace.t, plB]
  by_cases h : 0 ≤ x
  · have h' : x ≥ 0 := h
    simp only [dec_t h, dec_t h', cond_true, Bool.true_and]
  · have h' : ¬ x ≥ 0 := h
    simp only [dec_f h, dec_f h', cond_false, Bool.false_and]
theorem lenDec (n k : Nat) : decide ((n : Int) ≤ (k : Int)) = decide (n ≤ k) := by
  by_cases h : n ≤ k
  · rw [dec_t h, dec_t (by omega)]
  · rw [dec_f h, dec_f (by omega)]
/-- A row that is put in counts with a bound for all. -/
theorem puts_all_loop {α β : Type} (l : List α) (z : α) (p : α → Bool) (row : α → List Int) (wt : α → Int) (L : List WRow → Nat → Option β) (res : List WRow → Option β) (bad : β) {M m : Int} {N : Nat} (hM : 0 ≤ M) (hm : 0 ≤ m)
    (hp : ∀ x, x ∈ l → p x = true → (row x).length ≤ 1073741824 ∧ (-m ≤ wt x ∧ wt x ≤ m))
    (he : ∀ acc b, PutOK (M + m * l.length) (N + l.length) acc → res acc = some b → L acc l.length = some b)
    (hf : ∀ acc i, i < l.length → p (l.getD i z) = false → L acc i = some bad)
    (hs : ∀ acc i b, i < l.length → p (l.getD i z) = true → PutOK (M + m * i) (N + i) acc → L (putL acc (row (l.getD i z)) (wt (l.getD i z))) (i + 1) = some b → L acc i = some b) :
    ∀ acc b, PutOK M N acc → (bif l.all p then res (l.foldl (fun acc x => putL acc (row x) (wt x)) acc) else some bad) = some b → L acc 0 = some b := by
  have key : ∀ i, i ≤ l.length → ∀ acc b, PutOK (M + m * i) (N + i) acc → (bif (l.drop i).all p then res ((l.drop i).foldl (fun acc x => putL acc (row x) (wt x)) acc) else some bad) = some b → L acc i = some b := by
    refine upto ?_ ?_
    · intro acc b ha hb
      rw [List.drop_length] at hb
      exact he acc b ha hb
    · intro i hi ih acc b ha hb
      rw [drop_getD z hi, List.foldl_cons, List.all_cons] at hb
      cases hq : p (l.getD i z) with
      | false =>
        rw [hq, Bool.false_and, cond_false] at hb
        rw [← hb]
        exact hf acc i hi hq
      | true =>
        rw [hq, Bool.true_and] at hb
        refine hs acc i b hi hq ha (ih _ b ?_ hb)
        obtain ⟨k1, k2⟩ := hp _ (getD_mem z hi) hq
        have h0 : 0 ≤ m * (i : Int) := Int.mul_nonneg hm (by omega)
        have := ha.put k1 k2 (by omega) hm
        have e : M + m * ((i + 1 : Nat) : Int) = M + m * (i : Int) + m := by
          rw [Int.natCast_succ, Int.mul_add, Int.mul_one]; omega
        rw [e]
        exact this
  intro acc b ha hb
  refine key 0 (Nat.zero_le _) acc b ?_ (by rw [List.drop_zero]; exact hb)
  simpa using ha
theorem PutOK.nil : PutOK 0 0 [] := ⟨Nat.le_refl _, fun _ h => (by cases h), fun _ h => (by cases h)⟩
theorem putsL_rows {c : Nat} {b : List WRow} (h : ∀ w, w ∈ b → w.1.length ≤ c) : (putsL [] b).length ≤ b.length ∧ ∀ w, w ∈ putsL [] b → w.1.length ≤ c := by
  obtain ⟨_, _, _, h1, h2⟩ := putsL_ok b (l := []) .nil (fun _ h => (by cases h))
  refine ⟨by simpa using h2, fun w hw => ?_⟩
  rcases h1 w hw with h3 | ⟨u, hu, e⟩
  · cases h3
  · rw [e]; exact h u hu
/-- Rows summed, none ahead. -/
theorem impl_summed_one {c M : Int} {b : List WRow} (hl : b.length ≤ 1073741824) (hr : Rows b) (hM : 0 ≤ M) (hw : ∀ w, w ∈ b → -M ≤ w.2 ∧ w.2 ≤ M) (hbig : M * (b.length : Int) ≤ 9223372036854775807) : impl_summed c [b] = some (c, putsL [] b) := by
  have e : [b].flatten = [] ++ b := by simp
  have e' : [b].flatten = b := by simp
  exact impl_summed_eq (M := M) e (by simp) (by rw [e']; exact hl) (by rw [e']; exact hr) hM (by rw [e']; exact hw) (by rw [e']; exact hbig) .nil (fun _ h => (by cases h))
end GoV

/- Pairs of columns; rows joined: alike for the program and its specification. -/
namespace GoV
open Go
theorem toNat0 : Int.toNat (0 : Int) = 0 := rfl
theorem toNat1 : Int.toNat (1 : Int) = 1 := rfl
def pairB (a b : Int) (p : List Int) : Bool := ((p.length : Int) == 2) && (plB a (p.getD 0 0) && plB b (p.getD 1 0))
def pairsB (a b : Int) (ps : List (List Int)) : Bool := ps.all (pairB a b) && decide (ps.length ≤ 6)
theorem pairB_iff {a b : Int} {p : List Int} : pairB a b p = true ↔ p.length = 2 ∧ (0 ≤ p.getD 0 0 ∧ p.getD 0 0 < a) ∧ 0 ≤ p.getD 1 0 ∧ p.getD 1 0 < b := by
  simp only [pairB, Bool.and_eq_true, plB_iff, beq_iff_eq]
  constructor
  · intro h; exact ⟨by omega, h.2⟩
  · intro h; exact ⟨by omega, h.2⟩
theorem spec_l1Pairs_eq (ps : List (List Int)) (a b : Int) (hl : ps.length ≤ 1073741824) : spec_l1Pairs ps a b = some (pairsB a b ps) := by
  refine spec_l1Pairs.eq ps a b ?_
  simp only [spec_l1Pairs.t]
  have := all_loop ps [] (fun i => spec_l1Pairs.l2 ps a b ps (ps.length : Int) (i : Int)) (pairB a b) false (decide (ps.length ≤ 6)) ?_ ?_ ?_
  · refine Eq.trans this ?_
    simp only [pairsB]
    cases ps.all (pairB a b) <;> rfl
  · exact spec_l1Pairs.eq2 _ _ _ _ _ _ (by simp only [spec_l1Pairs.t2, ix_lt, Nat.lt_irrefl, decide_false, cond_false]; exact congrArg some (lenDec ps.length 6))
  · intro i hi hb
    refine spec_l1Pairs.eq2 _ _ _ _ _ _ ?_
    simp only [spec_l1Pairs.t2, ix_lt, ix_nn, ix_nat, dec_t hi, cond_true, toNat0, toNat1, bne]
    cases h0 : ((ps.getD i []).length : Int) == 2
    · rfl
    · have h1 := beq_iff_eq.1 h0
      have h2 : 0 < (ps.getD i []).length := by omega
      have h3 : 1 < (ps.getD i []).length := by omega
      simp only [pairB, h0, Bool.true_and] at hb
      simp only [bang_t, cond_false, dec_t h2, dec_t h3, cond_true]
      by_cases g1 : (ps.getD i []).getD 0 0 < 0
      · simp only [dec_t g1, cond_true]
      · by_cases g2 : (ps.getD i []).getD 0 0 ≥ a
        · simp only [dec_f g1, dec_t g2, cond_true, cond_false]
        · have g0 : plB a ((ps.getD i []).getD 0 0) = true := plB_iff.2 ⟨by omega, by omega⟩
          rw [g0, Bool.true_and] at hb
          by_cases g3 : (ps.getD i []).getD 1 0 < 0
          · simp only [dec_f g1, dec_f g2, dec_t g3, cond_true, cond_false]
          · have g4 : (ps.getD i []).getD 1 0 ≥ b := by
              apply Classical.byContradiction
              intro g4
              have g5 : plB b ((ps.getD i []).getD 1 0) = true := plB_iff.2 ⟨by omega, by omega⟩
              rw [g5] at hb
              cases hb
            simp only [dec_f g1, dec_f g2, dec_f g3, dec_t g4, cond_true, cond_false]
  · intro i c hi hb hc
    refine spec_l1Pairs.eq2 _ _ _ _ _ _ ?_
    obtain ⟨h0, ⟨g1, g2⟩, g3, g4⟩ := pairB_iff.1 hb
    have h1 : (((ps.getD i []).length : Int) == 2) = true := beq_iff_eq.2 (by omega)
    have h2 : 0 < (ps.getD i []).length := by omega
    have h3 : 1 < (ps.getD i []).length := by omega
    have k1 : ¬ (ps.getD i []).getD 0 0 < 0 := by omega
    have k2 : ¬ (ps.getD i []).getD 0 0 ≥ a := by omega
    have k3 : ¬ (ps.getD i []).getD 1 0 < 0 := by omega
    have k4 : ¬ (ps.getD i []).getD 1 0 ≥ b := by omega
    simp only [spec_l1Pairs.t2, ix_lt, ix_nn, ix_nat, dec_t hi, cond_true, toNat0, toNat1, bne, h1, bang_t, cond_false, dec_t h2, dec_t h3, dec_f k1, dec_f k2, dec_f k3, dec_f k4, wrap_succ (show i < 9223372036854775807 by omega)]
    exact hc
theorem impl_arePairs_1_eq (p : List Int) (a b : Int) : impl_arePairs_1 p a b = some (pairB a b p) := by
  refine impl_arePairs_1.eq _ _ _ ?_
  simp only [impl_arePairs_1.t, toNat0, toNat1, impl_isPlace_eq', Option.bind_some, pairB]
  cases h0 : (p.length : Int) == 2
  · rfl
  · have h1 := beq_iff_eq.1 h0
    have h2 : 0 < p.length := by omega
    have h3 : 1 < p.length := by omega
    simp only [dec_t h2, dec_t h3, cond_true, Bool.true_and]
    cases plB a (p.getD 0 0) <;> rfl
theorem impl_arePairs_eq (ps : List (List Int)) (a b : Int) (hl : ps.length ≤ 1073741824) : impl_arePairs ps a b = some (pairsB a b ps) := by
  refine impl_arePairs.eq ps a b ?_
  have e := xi0i_ok ps a b (pairB a b) (by omega) (fun x _ => impl_arePairs_1_eq x a b)
  have e2 : decide ((ps.length : Int) ≤ 6) = decide (ps.length ≤ 6) := lenDec ps.length 6
  simp only [impl_arePairs.t, e, e2, Option.bind_some, pairsB]
  by_cases h : ps.length ≤ 6
  · simp only [dec_t h, cond_true, Bool.and_true]
  · simp only [dec_f h, cond_false, Bool.and_false]
/-! ## Columns that are in no pair -/
def isP (k : Int) (p : List Int) : Bool := p.getD 1 0 == k
def unpG (ps : List (List Int)) (k : Nat) : List Int := bif ps.any (isP (k : Int)) then [] else [(k : Int)]
def unpL (n : Nat) (ps : List (List Int)) : List Int := (List.range n).flatMap (unpG ps)
theorem unpG_len (ps : List (List Int)) (k : Nat) : (unpG ps k).length ≤ 1 := by
  unfold unpG
  cases ps.any (isP (k : Int)) <;> simp
theorem unpL_len (n : Nat) (ps : List (List Int)) : (unpL n ps).length ≤ n := by
  have := flatMap_len (unpG_len ps) (List.range n)
  rwa [List.length_range] at this
theorem unpL_mem {n : Nat} {ps : List (List Int)} {k : Int} (h : k ∈ unpL n ps) : 0 ≤ k ∧ k.toNat < n := by
  obtain ⟨j, hj, hk⟩ := List.mem_flatMap.1 h
  rw [List.mem_range] at hj
  simp only [unpG] at hk
  cases ha : ps.any (isP (j : Int)) with
  | true => rw [ha] at hk; cases hk
  | false =>
    rw [ha, cond_false, List.mem_singleton] at hk
    omega
theorem range_getD {n i : Nat} (h : i < n) : (List.range n).getD i 0 = i := by rw [getD_of_lt (by simpa using h)]; simp
def flagF (k : Int) (s : Bool) (p : List Int) : Bool := bif s then true else isP k p
theorem flag_any (k : Int) : ∀ (ps : List (List Int)) (s : Bool), ps.foldl (flagF k) s = (s || ps.any (isP k))
  | [], s => by simp
  | p :: ps, s => by
    rw [List.foldl_cons, flag_any k ps, List.any_cons, flagF]
    cases s <;> simp
section
variable {ps : List (List Int)} (hl : ps.length ≤ 1073741824) (hp : ∀ p, p ∈ ps → 1 < p.length)
include hl hp
theorem impl_unpaired_eq (n : Nat) (hn : n ≤ 1073741824) : impl_unpaired (n : Int) ps = some (unpL n ps) := by
  refine impl_unpaired.eq _ _ ?_
  simp only [impl_unpaired.t]
  have hc : ∀ k : Int, xs0c ps k = some (ps.any (isP k)) := fun k => xs0c_ok ps k (isP k) (by omega) (fun p h => impl_unpaired_1.eq _ _ (by simp only [impl_unpaired_1.t, toNat1, dec_t (hp p h), cond_true]; rfl))
  refine push_loop (List.range n) 0 (fun acc i => impl_unpaired.l3 ps acc (n : Int) (i : Int)) (unpG ps) (unpG_len ps) some ?_ ?_ _ rfl
  · intro acc b _ hb
    rw [List.length_range]
    exact impl_unpaired.eq3 _ _ _ _ (by simp only [impl_unpaired.t3, ix_lt, Nat.lt_irrefl, decide_false, cond_false]; exact hb)
  · intro acc i b hi ha hb
    rw [List.length_range] at hi
    rw [range_getD hi] at hb
    refine impl_unpaired.eq3 _ _ _ _ ?_
    simp only [impl_unpaired.t3, ix_lt, dec_t hi, cond_true, hc, Option.bind_some, wrap_succ (show i < 9223372036854775807 by omega)]
    simp only [unpG] at hb
    cases h : ps.any (isP (i : Int)) with
    | true =>
      rw [h, cond_true, List.append_nil] at hb
      exact hb
    | false =>
      rw [h, cond_false] at hb
      have h2 : acc.length + [(i : Int)].length ≤ 4294967296 := by simp only [List.length_cons, List.length_nil]; omega
      simp only [bang_f, cond_true, dec_t h2]
      exact hb
theorem spec_l3Left_eq (n : Nat) (hn : n ≤ 1073741824) : spec_l3Left ps (n : Int) = some ((unpL n ps).length : Int) := by
  have inner : ∀ (cnt k : Int) (b : Int), (bif !(ps.any (isP k)) then spec_l3Left.l3 ps (n : Int) (IntKind.i64.wrap (cnt + 1)) (IntKind.i64.wrap (k + 1)) else spec_l3Left.l3 ps (n : Int) cnt (IntKind.i64.wrap (k + 1))) = some b → spec_l3Left.l7 ps (n : Int) cnt k false ps (ps.length : Int) 0 = some b := by
    intro cnt k b hb
    refine fold_loop ps [] (fun s i => spec_l3Left.l7 ps (n : Int) cnt k s ps (ps.length : Int) (i : Int)) (flagF k) (fun _ => True) (fun s => bif !s then spec_l3Left.l3 ps (n : Int) (IntKind.i64.wrap (cnt + 1)) (IntKind.i64.wrap (k + 1)) else spec_l3Left.l3 ps (n : Int) cnt (IntKind.i64.wrap (k + 1))) ?_ ?_ ?_ false b trivial ?_
    · intro s c _ hc
      exact spec_l3Left.eq7 _ _ _ _ _ _ _ _ (by simp only [spec_l3Left.t7, ix_lt, Nat.lt_irrefl, decide_false, cond_false]; exact hc)
    · intros; trivial
    · intro s i c hi _ hc
      have h1 := hp _ (getD_mem [] hi)
      refine spec_l3Left.eq7 _ _ _ _ _ _ _ _ ?_
      simp only [spec_l3Left.t7, ix_lt, ix_nn, ix_nat, dec_t hi, cond_true, toNat1, dec_t h1, wrap_succ (show i < 9223372036854775807 by omega)]
      cases s
      · exact hc
      · exact hc
    · rw [flag_any, Bool.false_or]; exact hb
  refine spec_l3Left.eq _ _ ?_
  simp only [spec_l3Left.t]
  refine push_loop (List.range n) 0 (fun acc i => spec_l3Left.l3 ps (n : Int) (acc.length : Int) (i : Int)) (unpG ps) (unpG_len ps) (fun acc => some (acc.length : Int)) ?_ ?_ _ rfl
  · intro acc b _ hb
    rw [List.length_range]
    exact spec_l3Left.eq3 _ _ _ _ (by simp only [spec_l3Left.t3, ix_lt, Nat.lt_irrefl, decide_false, cond_false]; exact hb)
  · intro acc i b hi ha hb
    rw [List.length_range] at hi
    rw [range_getD hi] at hb
    refine spec_l3Left.eq3 _ _ _ _ ?_
    simp only [spec_l3Left.t3, ix_lt, dec_t hi, cond_true]
    refine inner _ _ _ ?_
    simp only [unpG] at hb
    cases h : ps.any (isP (i : Int)) with
    | true =>
      rw [h, cond_true, List.append_nil] at hb
      simp only [bang_t, cond_false, wrap_succ (show i < 9223372036854775807 by omega)]
      exact hb
    | false =>
      rw [h, cond_false, List.length_append, List.length_singleton] at hb
      simp only [bang_f, cond_true, wrap_succ (show i < 9223372036854775807 by omega), wrap_succ (show acc.length < 9223372036854775807 by omega)]
      exact hb
end
/-! ## Rows joined -/
def eqP (a b : List Int) (p : List Int) : Bool := a.getD (p.getD 0 0).toNat 0 == b.getD (p.getD 1 0).toNat 0
def joinR (a b : List Int) (ps : List (List Int)) : List Int := a ++ pickR b (unpL b.length ps)
def joinG (b : List Int) (ps : List (List Int)) (k : Nat) : List Int := bif ps.any (isP (k : Int)) then [] else [b.getD k 0]
theorem joinG_len (b : List Int) (ps : List (List Int)) (k : Nat) : (joinG b ps k).length ≤ 1 := by
  unfold joinG
  cases ps.any (isP (k : Int)) <;> simp
theorem joinG_map (b : List Int) (ps : List (List Int)) (n : Nat) : (List.range n).flatMap (joinG b ps) = pickR b (unpL n ps) := by
  rw [pickR, unpL, List.map_flatMap]
  congr 1
  funext k
  simp only [joinG, unpG]
  cases ps.any (isP (k : Int)) <;> rfl
theorem joinR_len (a b : List Int) (ps : List (List Int)) : (joinR a b ps).length = a.length + (unpL b.length ps).length := by rw [joinR, List.length_append, pickR_len]
section
variable {a b : List Int} {ps : List (List Int)} (hl : ps.length ≤ 1073741824) (hal : a.length ≤ 536870912) (hbl : b.length ≤ 536870912)
  (hp : ∀ p, p ∈ ps → p.length = 2 ∧ (0 ≤ p.getD 0 0 ∧ (p.getD 0 0).toNat < a.length) ∧ 0 ≤ p.getD 1 0 ∧ (p.getD 1 0).toNat < b.length)
include hl hal hbl hp
theorem spec_l1Join_eq : spec_l1Join a b ps = some (bif ps.all (eqP a b) then (joinR a b ps, decide ((joinR a b ps).length ≤ 6)) else ([], false)) := by
  have inner : ∀ (x out : List Int) (k c : Int) (v6 : List Int) (v7 v8 : Int) (r : List Int × Bool), out.length ≤ 1073741824 → (bif !(ps.any (isP k)) then spec_l1Join.l9 ps x (out ++ [c]) v6 v7 (IntKind.i64.wrap (v8 + 1)) else spec_l1Join.l9 ps x out v6 v7 (IntKind.i64.wrap (v8 + 1))) = some r → spec_l1Join.l13 ps x out k c false v6 v7 v8 ps (ps.length : Int) 0 = some r := by
    intro x out k c v6 v7 v8 r ho hr
    have h2 : out.length + [c].length ≤ 4294967296 := by simp only [List.length_cons, List.length_nil]; omega
    refine fold_loop ps [] (fun s i => spec_l1Join.l13 ps x out k c s v6 v7 v8 ps (ps.length : Int) (i : Int)) (flagF k) (fun _ => True) (fun s => bif !s then spec_l1Join.l9 ps x (out ++ [c]) v6 v7 (IntKind.i64.wrap (v8 + 1)) else spec_l1Join.l9 ps x out v6 v7 (IntKind.i64.wrap (v8 + 1))) ?_ ?_ ?_ false r trivial ?_
    · intro s d _ hd
      exact spec_l1Join.eq13 _ _ _ _ _ _ _ _ _ _ _ _ (by simp only [spec_l1Join.t13, ix_lt, Nat.lt_irrefl, decide_false, cond_false, dec_t h2, cond_true]; exact hd)
    · intros; trivial
    · intro s i d hi _ hd
      have h1 : 1 < (ps.getD i []).length := by have := (hp _ (getD_mem [] hi)).1; omega
      refine spec_l1Join.eq13 _ _ _ _ _ _ _ _ _ _ _ _ ?_
      simp only [spec_l1Join.t13, ix_lt, ix_nn, ix_nat, dec_t hi, cond_true, toNat1, dec_t h1, wrap_succ (show i < 9223372036854775807 by omega)]
      cases s
      · exact hd
      · exact hd
    · rw [flag_any, Bool.false_or]; exact hr
  have outer : spec_l1Join.l9 ps [] a b (b.length : Int) 0 = some (joinR a b ps, decide ((joinR a b ps).length ≤ 6)) := by
    have := push_loop (List.range b.length) 0 (fun acc i => spec_l1Join.l9 ps [] (a ++ acc) b (b.length : Int) (i : Int)) (joinG b ps) (joinG_len b ps) (fun acc => some (a ++ acc, decide ((a ++ acc).length ≤ 6))) ?_ ?_ (joinR a b ps, decide ((joinR a b ps).length ≤ 6)) ?_
    · simpa using this
    · intro acc r _ hr
      rw [List.length_range]
      have e := lenDec (a ++ acc).length 6
      exact spec_l1Join.eq9 _ _ _ _ _ _ (by simp only [spec_l1Join.t9, ix_lt, Nat.lt_irrefl, decide_false, cond_false]; rw [← hr, ← e]; rfl)
    · intro acc i r hi ha hr
      rw [List.length_range] at hi
      rw [range_getD hi] at hr
      refine spec_l1Join.eq9 _ _ _ _ _ _ ?_
      simp only [spec_l1Join.t9, ix_lt, ix_nn, ix_nat, dec_t hi, cond_true]
      refine inner _ _ _ _ _ _ _ _ (by rw [List.length_append]; omega) ?_
      simp only [joinG] at hr
      cases h : ps.any (isP (i : Int)) with
      | true =>
        rw [h, cond_true, List.append_nil] at hr
        simp only [bang_t, cond_false, wrap_succ (show i < 9223372036854775807 by omega)]
        exact hr
      | false =>
        rw [h, cond_false, ← List.append_assoc] at hr
        simp only [bang_f, cond_true, wrap_succ (show i < 9223372036854775807 by omega)]
        exact hr
    · rw [joinG_map]; rfl
  refine spec_l1Join.eq a b ps ?_
  have h0 : ([] : List Int).length + a.length ≤ 4294967296 := by simp only [List.length_nil]; omega
  simp only [spec_l1Join.t, dec_t h0, cond_true, List.nil_append]
  refine all_loop ps [] (fun i => spec_l1Join.l3 ps a b [] a ps (ps.length : Int) (i : Int)) (eqP a b) ([], false) (joinR a b ps, decide ((joinR a b ps).length ≤ 6)) ?_ ?_ ?_
  · exact spec_l1Join.eq3 _ _ _ _ _ _ _ _ (by simp only [spec_l1Join.t3, ix_lt, Nat.lt_irrefl, decide_false, cond_false]; exact outer)
  · intro i hi hb
    obtain ⟨g0, ⟨g1, g2⟩, g3, g4⟩ := hp _ (getD_mem [] hi)
    have h2 : 0 < (ps.getD i []).length := by omega
    have h3 : 1 < (ps.getD i []).length := by omega
    refine spec_l1Join.eq3 _ _ _ _ _ _ _ _ ?_
    simp only [eqP] at hb
    simp only [spec_l1Join.t3, ix_lt, ix_nn, ix_nat, dec_t hi, cond_true, toNat0, toNat1, dec_t h2, dec_t h3, dec_t g1, dec_t g2, dec_t g3, dec_t g4, bne, hb, bang_f]
  · intro i c hi hb hc
    obtain ⟨g0, ⟨g1, g2⟩, g3, g4⟩ := hp _ (getD_mem [] hi)
    have h2 : 0 < (ps.getD i []).length := by omega
    have h3 : 1 < (ps.getD i []).length := by omega
    refine spec_l1Join.eq3 _ _ _ _ _ _ _ _ ?_
    simp only [eqP] at hb
    simp only [spec_l1Join.t3, ix_lt, ix_nn, ix_nat, dec_t hi, cond_true, toNat0, toNat1, dec_t h2, dec_t h3, dec_t g1, dec_t g2, dec_t g3, dec_t g4, bne, hb, bang_t, cond_false, wrap_succ (show i < 9223372036854775807 by omega)]
    exact hc
theorem impl_joined_eq : impl_joined a b ps = some (bif ps.all (eqP a b) then (joinR a b ps, true) else ([], false)) := by
  have e1 := xi0k_ok ps a b (eqP a b) (by omega) (fun p hp' => by
    obtain ⟨g0, ⟨g1, g2⟩, g3, g4⟩ := hp p hp'
    have h2 : 0 < p.length := by omega
    have h3 : 1 < p.length := by omega
    exact impl_joined_1.eq _ _ _ (by simp only [impl_joined_1.t, toNat0, toNat1, dec_t h2, dec_t h3, dec_t g1, dec_t g2, dec_t g3, dec_t g4, cond_true, eqP]))
  have e2 := impl_unpaired_eq hl (fun p h => by have := (hp p h).1; omega) b.length (by omega)
  have hu := unpL_len b.length ps
  have e3 := impl_Row_picked_eq (r := b) (cs := unpL b.length ps) (by omega) (fun k hk => unpL_mem hk)
  have e4 := slices_Concat_int_eq [a, pickR b (unpL b.length ps)] (by simp only [List.flatten_cons, List.flatten_nil, List.append_nil, List.length_append, pickR_len]; omega) (by simp)
  have e5 : [a, pickR b (unpL b.length ps)].flatten = joinR a b ps := by simp [joinR]
  rw [e5] at e4
  refine impl_joined.eq a b ps ?_
  simp only [impl_joined.t, e1, Option.bind_some]
  cases ps.all (eqP a b)
  · rfl
  · simp only [bang_t, cond_false, e2, e3, e4, Option.bind_some, cond_true]
end
end GoV

/- Tables joined: the program's answer is the specification's. -/
namespace GoV
open Go
/-! ## Loops that put in, or push, many rows for each element -/
theorem PutOK.mono {M M' : Int} {N N' : Nat} {l : List WRow} (h : PutOK M N l) (hM : M ≤ M') (hN : N ≤ N') : PutOK M' N' l :=
  ⟨Nat.le_trans h.len hN, h.row, fun w hw => by have := h.wt w hw; omega⟩
theorem PutOK.puts {m : Int} (hm : 0 ≤ m) : ∀ (b : List WRow) {M : Int} {N : Nat} {l : List WRow}, 0 ≤ M → PutOK M N l → (∀ w, w ∈ b → w.1.length ≤ 1073741824 ∧ (-m ≤ w.2 ∧ w.2 ≤ m)) → PutOK (M + m * (b.length : Int)) (N + b.length) (putsL l b)
  | [], M, N, l, hM, h, _ => by simpa [putsL] using h
  | w :: b, M, N, l, hM, h, hb => by
    obtain ⟨h1, h2⟩ := hb w (by simp)
    have k := PutOK.puts hm b (by omega) (h.put h1 h2 hM hm) fun x hx => hb x (List.mem_cons_of_mem _ hx)
    have e : M + m + m * (b.length : Int) = M + m * ((w :: b).length : Int) := by
      rw [List.length_cons, Int.natCast_succ, Int.mul_add, Int.mul_one]; omega
    rw [e] at k
    exact k.mono (Int.le_refl _) (by simp only [List.length_cons]; omega)
theorem putsL_append (l a b : List WRow) : putsL l (a ++ b) = putsL (putsL l a) b := by rw [putsL, List.foldl_append]; rfl
theorem putsK_loop {α β : Type} (l : List α) (z : α) (g : α → List WRow) (L : List WRow → Nat → Option β) (res : List WRow → Option β) {M m : Int} {N K : Nat} (hM : 0 ≤ M) (hm : 0 ≤ m)
    (hg : ∀ x, x ∈ l → (g x).length ≤ K ∧ ∀ w, w ∈ g x → w.1.length ≤ 1073741824 ∧ (-m ≤ w.2 ∧ w.2 ≤ m))
    (he : ∀ acc b, PutOK (M + m * ((K * l.length : Nat) : Int)) (N + K * l.length) acc → res acc = some b → L acc l.length = some b)
    (hs : ∀ acc i b, i < l.length → PutOK (M + m * ((K * i : Nat) : Int)) (N + K * i) acc → L (putsL acc (g (l.getD i z))) (i + 1) = some b → L acc i = some b) :
    ∀ acc b, PutOK M N acc → res (putsL acc (l.flatMap g)) = some b → L acc 0 = some b := by
  have key : ∀ i, i ≤ l.length → ∀ acc b, PutOK (M + m * ((K * i : Nat) : Int)) (N + K * i) acc → res (putsL acc ((l.drop i).flatMap g)) = some b → L acc i = some b := by
    refine upto ?_ ?_
    · intro acc b ha hb
      rw [List.drop_length] at hb
      exact he acc b ha hb
    · intro i hi ih acc b ha hb
      rw [drop_getD z hi, List.flatMap_cons, putsL_append] at hb
      refine hs acc i b hi ha (ih _ b ?_ hb)
      obtain ⟨k1, k2⟩ := hg _ (getD_mem z hi)
      have h0 : 0 ≤ m * ((K * i : Nat) : Int) := Int.mul_nonneg hm (by omega)
      have k3 := PutOK.puts hm (g (l.getD i z)) (by omega) ha k2
      have h1 : m * ((g (l.getD i z)).length : Int) ≤ m * (K : Int) := Int.mul_le_mul_of_nonneg_left (by omega) hm
      have e1 : K * (i + 1) = K * i + K := Nat.mul_succ K i
      have e2 : m * ((K * (i + 1) : Nat) : Int) = m * ((K * i : Nat) : Int) + m * (K : Int) := by rw [e1, Int.natCast_add, Int.mul_add]
      rw [e2]
      exact k3.mono (by omega) (by omega)
  intro acc b ha hb
  refine key 0 (Nat.zero_le _) acc b ?_ (by rw [List.drop_zero]; exact hb)
  simpa using ha
theorem pushK_loop {α β γ : Type} (l : List α) (z : α) (g : α → List γ) (L : List γ → Nat → Option β) (res : List γ → Option β) {N K : Nat}
    (hg : ∀ x, x ∈ l → (g x).length ≤ K)
    (he : ∀ acc b, acc.length ≤ N + K * l.length → res acc = some b → L acc l.length = some b)
    (hs : ∀ acc i b, i < l.length → acc.length ≤ N + K * i → L (acc ++ g (l.getD i z)) (i + 1) = some b → L acc i = some b) :
    ∀ acc b, acc.length ≤ N → res (acc ++ l.flatMap g) = some b → L acc 0 = some b := by
  have key : ∀ i, i ≤ l.length → ∀ acc b, acc.length ≤ N + K * i → res (acc ++ (l.drop i).flatMap g) = some b → L acc i = some b := by
    refine upto ?_ ?_
    · intro acc b ha hb
      rw [List.drop_length, List.flatMap_nil, List.append_nil] at hb
      exact he acc b ha hb
    · intro i hi ih acc b ha hb
      rw [drop_getD z hi, List.flatMap_cons, ← List.append_assoc] at hb
      refine hs acc i b hi ha (ih _ b ?_ hb)
      have k1 := hg _ (getD_mem z hi)
      have e1 : K * (i + 1) = K * i + K := Nat.mul_succ K i
      rw [List.length_append]
      omega
  intro acc b ha hb
  exact key 0 (Nat.zero_le _) acc b (by omega) (by rw [List.drop_zero]; exact hb)
/-! ## The join -/
def joinW (ps : List (List Int)) (x y : WRow) : List WRow := bif ps.all (eqP x.1 y.1) then [(joinR x.1 y.1 ps, IntKind.i64.wrap (x.2 * y.2))] else []
def joinL (l u : List WRow) (ps : List (List Int)) : List WRow := l.flatMap fun x => u.flatMap (joinW ps x)
theorem joinW_len (ps : List (List Int)) (x y : WRow) : (joinW ps x y).length ≤ 1 := by
  unfold joinW
  cases ps.all (eqP x.1 y.1) <;> simp
theorem prod_abs {a b : Int} (ha : -1000000 ≤ a ∧ a ≤ 1000000) (hb : -1000000 ≤ b ∧ b ≤ 1000000) : -1000000000000 ≤ a * b ∧ a * b ≤ 1000000000000 := by
  have key : ∀ x y : Int, 0 ≤ x → x ≤ 1000000 → 0 ≤ y → y ≤ 1000000 → 0 ≤ x * y ∧ x * y ≤ 1000000000000 := by
    intro x y h1 h2 h3 h4
    have := Int.mul_le_mul h2 h4 h3 (by omega)
    exact ⟨Int.mul_nonneg h1 h3, by omega⟩
  by_cases h1 : 0 ≤ a
  · by_cases h2 : 0 ≤ b
    · have := key a b h1 ha.2 h2 hb.2; omega
    · have := key a (-b) h1 ha.2 (by omega) (by omega)
      rw [Int.mul_neg] at this; omega
  · by_cases h2 : 0 ≤ b
    · have := key (-a) b (by omega) (by omega) h2 hb.2
      rw [Int.neg_mul] at this; omega
    · have := key (-a) (-b) (by omega) (by omega) (by omega) (by omega)
      rw [Int.neg_mul_neg] at this; omega
/-- Rows of tables that fit, and pairs of their columns. -/
structure JoinOK (c d : Int) (l u : List WRow) (ps : List (List Int)) : Prop where
  c0 : 0 ≤ c ∧ c ≤ 6
  d0 : 0 ≤ d ∧ d ≤ 6
  ln : l.length ≤ 60
  un : u.length ≤ 60
  pn : ps.length ≤ 6
  lr : ∀ x, x ∈ l → (x.1.length : Int) = c ∧ (-1000000 ≤ x.2 ∧ x.2 ≤ 1000000)
  ur : ∀ x, x ∈ u → (x.1.length : Int) = d ∧ (-1000000 ≤ x.2 ∧ x.2 ≤ 1000000)
  pr : ∀ p, p ∈ ps → p.length = 2 ∧ (0 ≤ p.getD 0 0 ∧ p.getD 0 0 < c) ∧ 0 ≤ p.getD 1 0 ∧ p.getD 1 0 < d
theorem JoinOK.of {c d : Int} {l u : List WRow} {ps : List (List Int)} (h1 : goodT c l = true) (h2 : goodT d u = true) (h3 : pairsB c d ps = true) : JoinOK c d l u ps := by
  obtain ⟨a1, a2, a3, _⟩ := goodT_iff.1 h1
  obtain ⟨b1, b2, b3, _⟩ := goodT_iff.1 h2
  simp only [pairsB, Bool.and_eq_true, decide_eq_true_eq] at h3
  exact ⟨a1, b1, a2, b2, h3.2, fun x hx => by have := rowB_iff.1 (a3 x hx); exact ⟨this.2.1, this.2.2.1⟩, fun x hx => by have := rowB_iff.1 (b3 x hx); exact ⟨this.2.1, this.2.2.1⟩, fun p hp => pairB_iff.1 (List.all_eq_true.1 h3.1 p hp)⟩
section
variable {c d : Int} {l u : List WRow} {ps : List (List Int)} (H : JoinOK c d l u ps)
include H
theorem join_fit {x y : WRow} (hx : x ∈ l) (hy : y ∈ u) : ∀ p, p ∈ ps → p.length = 2 ∧ (0 ≤ p.getD 0 0 ∧ (p.getD 0 0).toNat < x.1.length) ∧ 0 ≤ p.getD 1 0 ∧ (p.getD 1 0).toNat < y.1.length := fun p hp => by
  have h1 := (H.lr x hx).1
  have h2 := (H.ur y hy).1
  obtain ⟨g0, ⟨g1, g2⟩, g3, g4⟩ := H.pr p hp
  exact ⟨g0, ⟨g1, by omega⟩, g3, by omega⟩
theorem join_rows {x y w : WRow} (hx : x ∈ l) (hy : y ∈ u) (hw : w ∈ joinW ps x y) : (w.1.length : Int) = c + ((unpL d.toNat ps).length : Int) ∧ (-1000000000000 ≤ w.2 ∧ w.2 ≤ 1000000000000) := by
  have h1 := H.lr x hx
  have h2 := H.ur y hy
  simp only [joinW] at hw
  cases hh : ps.all (eqP x.1 y.1) with
  | false => rw [hh] at hw; cases hw
  | true =>
    rw [hh, cond_true, List.mem_singleton] at hw
    subst hw
    have e : y.1.length = d.toNat := by omega
    have k := prod_abs h1.2 h2.2
    refine ⟨?_, ?_⟩
    · show ((joinR x.1 y.1 ps).length : Int) = _
      rw [joinR_len, e]; omega
    · show -1000000000000 ≤ IntKind.i64.wrap (x.2 * y.2) ∧ _
      rw [wrap_id (by omega) (by omega)]; exact k
theorem join_len : (joinL l u ps).length ≤ 3600 := by
  have h1 : ∀ x, (u.flatMap (joinW ps x)).length ≤ 60 := fun x => Nat.le_trans (flatMap_len (joinW_len ps x) u) H.un
  have key : ∀ l : List WRow, (joinL l u ps).length ≤ 60 * l.length := by
    intro l
    induction l with
    | nil => simp [joinL]
    | cons x l ih =>
      have := h1 x
      rw [joinL] at ih ⊢
      rw [List.flatMap_cons, List.length_append, List.length_cons]
      omega
  have := key l
  have := H.ln
  omega
theorem join_mem {w : WRow} (hw : w ∈ joinL l u ps) : (w.1.length : Int) = c + ((unpL d.toNat ps).length : Int) ∧ (-1000000000000 ≤ w.2 ∧ w.2 ≤ 1000000000000) := by
  obtain ⟨x, hx, h⟩ := List.mem_flatMap.1 hw
  obtain ⟨y, hy, h⟩ := List.mem_flatMap.1 h
  exact join_rows H hx hy h
theorem spec_l3Left_at : spec_l3Left ps d = some ((unpL d.toNat ps).length : Int) := by
  have e : d = ((d.toNat : Nat) : Int) := by have := H.d0; omega
  have h := H.pn
  have k := spec_l3Left_eq (ps := ps) (by omega) (fun p hp => by have := (H.pr p hp).1; omega) d.toNat (by have := H.d0; omega)
  rwa [← e] at k
theorem impl_joinedColumns_at : impl_joinedColumns c d ps = some (c + ((unpL d.toNat ps).length : Int)) := by
  have e : d = ((d.toNat : Nat) : Int) := by have := H.d0; omega
  have h := H.pn
  have hc := H.c0
  have hd := H.d0
  have hu := unpL_len d.toNat ps
  have k := impl_unpaired_eq (ps := ps) (by omega) (fun p hp => by have := (H.pr p hp).1; omega) d.toNat (by omega)
  rw [← e] at k
  exact impl_joinedColumns.eq c d ps (by simp only [impl_joinedColumns.t, k, Option.bind_some]; rw [wrap_id (by omega) (by omega)])
theorem spec_l3Join_eq (hc : c + ((unpL d.toNat ps).length : Int) ≤ 6) : spec_l3Join l u ps = some (putsL [] (joinL l u ps)) := by
  have hln := H.ln
  have hun := H.un
  have hpn := H.pn
  have inner : ∀ (x : WRow) (i : Nat) (acc b : List WRow), x ∈ l → i < l.length → PutOK (0 + 1000000000000 * ((60 * i : Nat) : Int)) (0 + 60 * i) acc → spec_l3Join.l3 u ps (putsL acc (u.flatMap (joinW ps x))) l (l.length : Int) ((i + 1 : Nat) : Int) = some b → spec_l3Join.l6 u ps acc x.1 x.2 l (l.length : Int) (i : Int) u (u.length : Int) 0 = some b := by
    intro x i acc b hx hi ha hb
    refine putsK_loop u ([], 0) (joinW ps x) (fun acc j => spec_l3Join.l6 u ps acc x.1 x.2 l (l.length : Int) (i : Int) u (u.length : Int) (j : Int)) (fun acc => spec_l3Join.l3 u ps acc l (l.length : Int) ((i + 1 : Nat) : Int)) (M := 0 + 1000000000000 * ((60 * i : Nat) : Int)) (m := 1000000000000) (N := 0 + 60 * i) (K := 1) (by omega) (by omega) ?_ ?_ ?_ acc b ha hb
    · intro y hy
      refine ⟨joinW_len ps x y, fun w hw => ?_⟩
      obtain ⟨h1, h2⟩ := join_rows H hx hy hw
      exact ⟨by omega, h2⟩
    · intro acc b _ hb
      exact spec_l3Join.eq6 _ _ _ _ _ _ _ _ _ _ _ (by simp only [spec_l3Join.t6, ix_lt, Nat.lt_irrefl, decide_false, cond_false, wrap_succ (show i < 9223372036854775807 by omega)]; exact hb)
    · intro acc j b hj ha hb
      have hy := getD_mem (([] : List Int), (0 : Int)) hj
      have h1 := (H.lr x hx).1
      have h2 := (H.ur _ hy).1
      have hc0 := H.c0
      have hd0 := H.d0
      have e1 := spec_l1Join_eq (a := x.1) (b := (u.getD j ([], 0)).1) (ps := ps) (by omega) (by omega) (by omega) (join_fit H hx hy)
      refine spec_l3Join.eq6 _ _ _ _ _ _ _ _ _ _ _ ?_
      simp only [spec_l3Join.t6, ix_lt, ix_nn, ix_nat, dec_t hj, cond_true, e1, Option.bind_some, wrap_succ (show j < 9223372036854775807 by omega)]
      cases hh : ps.all (eqP x.1 (u.getD j ([], 0)).1) with
      | false =>
        simp only [joinW, hh, cond_false] at hb
        exact hb
      | true =>
        simp only [joinW, hh, cond_true] at hb
        have e2 : (unpL (u.getD j ([], 0)).1.length ps).length = (unpL d.toNat ps).length := by rw [show (u.getD j ([], 0)).1.length = d.toNat by omega]
        have e3 : (joinR x.1 (u.getD j ([], 0)).1 ps).length ≤ 6 := by rw [joinR_len, e2]; omega
        have hk := prod_abs (H.lr x hx).2 (H.ur _ hy).2
        have hw : IntKind.i64.wrap (x.2 * (u.getD j ([], 0)).2) = x.2 * (u.getD j ([], 0)).2 := wrap_id (by omega) (by omega)
        have hwr := ha.wraps (m := 1000000000000) (n := x.2 * (u.getD j ([], 0)).2) hk (by omega)
        rw [hw] at hb
        simp only [cond_true, dec_t e3, hw, spec_l2Put_eq (Nat.le_trans ha.len (by omega)) ha.row (Nat.le_trans e3 (by omega)) hwr, Option.bind_some]
        exact hb
  refine spec_l3Join.eq l u ps ?_
  simp only [spec_l3Join.t]
  refine putsK_loop l ([], 0) (fun x => u.flatMap (joinW ps x)) (fun acc i => spec_l3Join.l3 u ps acc l (l.length : Int) (i : Int)) some (M := 0) (m := 1000000000000) (N := 0) (K := 60) (Int.le_refl _) (by omega) ?_ ?_ ?_ [] _ PutOK.nil rfl
  · intro x hx
    refine ⟨Nat.le_trans (flatMap_len (joinW_len ps x) u) hun, fun w hw => ?_⟩
    obtain ⟨y, hy, h⟩ := List.mem_flatMap.1 hw
    obtain ⟨h1, h2⟩ := join_rows H hx hy h
    exact ⟨by omega, h2⟩
  · intro acc b _ hb
    exact spec_l3Join.eq3 _ _ _ _ _ _ (by simp only [spec_l3Join.t3, ix_lt, Nat.lt_irrefl, decide_false, cond_false]; exact hb)
  · intro acc i b hi ha hb
    refine spec_l3Join.eq3 _ _ _ _ _ _ ?_
    simp only [spec_l3Join.t3, ix_lt, ix_nn, ix_nat, dec_t hi, cond_true]
    exact inner _ i acc b (getD_mem _ hi) hi ha hb
theorem impl_Table_join_eq : impl_Table_join c l d u ps = some (c + ((unpL d.toNat ps).length : Int), putsL [] (joinL l u ps)) := by
  have hln := H.ln
  have hun := H.un
  have hpn := H.pn
  have hc0 := H.c0
  have hd0 := H.d0
  have hul := unpL_len d.toNat ps
  have hjl := join_len H
  have inner : ∀ (x : WRow) (i : Nat) (acc : List WRow) (b : Int × List WRow), x ∈ l → i < l.length → acc.length ≤ 0 + 60 * i → impl_Table_join.l3 ps c l d u 0 [] (acc ++ u.flatMap (joinW ps x)) l (l.length : Int) ((i + 1 : Nat) : Int) = some b → impl_Table_join.l6 ps c l d u 0 [] acc x.1 x.2 l (l.length : Int) (i : Int) u (u.length : Int) 0 = some b := by
    intro x i acc b hx hi ha hb
    refine pushK_loop u ([], 0) (joinW ps x) (fun acc j => impl_Table_join.l6 ps c l d u 0 [] acc x.1 x.2 l (l.length : Int) (i : Int) u (u.length : Int) (j : Int)) (fun acc => impl_Table_join.l3 ps c l d u 0 [] acc l (l.length : Int) ((i + 1 : Nat) : Int)) (N := 0 + 60 * i) (K := 1) (fun y _ => joinW_len ps x y) ?_ ?_ acc b ha hb
    · intro acc b _ hb
      exact impl_Table_join.eq6 _ _ _ _ _ _ _ _ _ _ _ _ _ _ _ _ (by simp only [impl_Table_join.t6, ix_lt, Nat.lt_irrefl, decide_false, cond_false, wrap_succ (show i < 9223372036854775807 by omega)]; exact hb)
    · intro acc j b hj ha hb
      have hy := getD_mem (([] : List Int), (0 : Int)) hj
      have h1 := (H.lr x hx).1
      have h2 := (H.ur _ hy).1
      have e1 := impl_joined_eq (a := x.1) (b := (u.getD j ([], 0)).1) (ps := ps) (by omega) (by omega) (by omega) (join_fit H hx hy)
      refine impl_Table_join.eq6 _ _ _ _ _ _ _ _ _ _ _ _ _ _ _ _ ?_
      simp only [impl_Table_join.t6, ix_lt, ix_nn, ix_nat, dec_t hj, cond_true, e1, Option.bind_some, wrap_succ (show j < 9223372036854775807 by omega)]
      cases hh : ps.all (eqP x.1 (u.getD j ([], 0)).1) with
      | false =>
        simp only [joinW, hh, cond_false, List.append_nil] at hb
        exact hb
      | true =>
        simp only [joinW, hh, cond_true] at hb
        have h6 : acc.length + [(joinR x.1 (u.getD j ([], 0)).1 ps, IntKind.i64.wrap (x.2 * (u.getD j ([], 0)).2))].length ≤ 4294967296 := by simp only [List.length_cons, List.length_nil]; omega
        simp only [cond_true, dec_t h6]
        exact hb
  have e5 := impl_summed_one (c := c + ((unpL d.toNat ps).length : Int)) (M := 1000000000000) (b := joinL l u ps) (by omega) (fun w hw => by have := (join_mem H hw).1; omega) (by omega) (fun w hw => (join_mem H hw).2) (by omega)
  refine impl_Table_join.eq c l d u ps ?_
  simp only [impl_Table_join.t]
  refine pushK_loop l ([], 0) (fun x => u.flatMap (joinW ps x)) (fun acc i => impl_Table_join.l3 ps c l d u 0 [] acc l (l.length : Int) (i : Int)) (fun acc => (impl_joinedColumns c d ps).bind fun r1 => (impl_summed r1 [acc]).bind fun r2 => some (r2.fst, r2.snd)) (N := 0) (K := 60) (fun x _ => Nat.le_trans (flatMap_len (joinW_len ps x) u) hun) ?_ ?_ [] _ (Nat.zero_le _) ?_
  · intro acc b _ hb
    exact impl_Table_join.eq3 _ _ _ _ _ _ _ _ _ _ _ (by simp only [impl_Table_join.t3, ix_lt, Nat.lt_irrefl, decide_false, cond_false]; exact hb)
  · intro acc i b hi ha hb
    refine impl_Table_join.eq3 _ _ _ _ _ _ _ _ _ _ _ ?_
    simp only [impl_Table_join.t3, ix_lt, ix_nn, ix_nat, dec_t hi, cond_true]
    exact inner _ i acc b (getD_mem _ hi) hi ha hb
  · have e6 : ([] : List WRow) ++ l.flatMap (fun x => u.flatMap (joinW ps x)) = joinL l u ps := rfl
    rw [e6, impl_joinedColumns_at H, Option.bind_some, e5]; rfl
end
theorem join_same (v0 : Int) (v1 : List (List Int × Int)) (v2 : Int) (v3 : List (List Int × Int)) (v4 : List (List Int)) (hz0 : szT (.pair (.int .i64) (.sl (.pair (.sl (.int .i64)) (.int .i64)))) (v0, v1) ≤ 1048576)
    (hz1 : szT (.pair (.int .i64) (.sl (.pair (.sl (.int .i64)) (.int .i64)))) (v2, v3) ≤ 1048576) (hp : v4.length ≤ 1073741824) :
    ∃ (a : Int) (b : List (List Int × Int)) (ok : Bool), spec_JoinTables v0 v1 v2 v3 v4 = some (a, b, ok) ∧ impl_JoinTables v0 v1 v2 v3 v4 = some (a, b, ok) ∧ szT (.pair (.int .i64) (.sl (.pair (.sl (.int .i64)) (.int .i64)))) (a, b) ≤ 1073741824 := by
  obtain ⟨h1, h2⟩ := tab_len hz0
  obtain ⟨h3, h4⟩ := tab_len hz1
  have hr : ∀ w, w ∈ v1 → w.1.length ≤ 1073741824 := fun w hw => by have := h2 w hw; omega
  have hr3 : ∀ w, w ∈ v3 → w.1.length ≤ 1073741824 := fun w hw => by have := h4 w hw; omega
  have e1 := spec_GoodTable_eq (c := v0) (l := v1) (by omega) hr
  have e2 := impl_GoodTable_eq (c := v0) (l := v1) (by omega) hr
  have e3 := spec_GoodTable_eq (c := v2) (l := v3) (by omega) hr3
  have e4 := impl_GoodTable_eq (c := v2) (l := v3) (by omega) hr3
  have e5 := spec_l1Pairs_eq v4 v0 v2 hp
  have e6 := impl_arePairs_eq v4 v0 v2 hp
  cases hg : goodT v0 v1 with
  | false => exact ⟨0, [], false, spec_JoinTables.eq _ _ _ _ _ (by simp only [spec_JoinTables.t, e1, hg, Option.bind_some, bang_f, cond_true]), impl_JoinTables.eq _ _ _ _ _ (by simp only [impl_JoinTables.t, e2, hg, Option.bind_some, bang_f, cond_true]), tab_none⟩
  | true =>
    cases hg2 : goodT v2 v3 with
    | false => exact ⟨0, [], false, spec_JoinTables.eq _ _ _ _ _ (by simp only [spec_JoinTables.t, e1, hg, e3, hg2, Option.bind_some, bang_t, bang_f, cond_true, cond_false]), impl_JoinTables.eq _ _ _ _ _ (by simp only [impl_JoinTables.t, e2, hg, e4, hg2, Option.bind_some, bang_t, bang_f, cond_true, cond_false]), tab_none⟩
    | true =>
      cases hg3 : pairsB v0 v2 v4 with
      | false => exact ⟨0, [], false, spec_JoinTables.eq _ _ _ _ _ (by simp only [spec_JoinTables.t, e1, hg, e3, hg2, e5, hg3, Option.bind_some, bang_t, bang_f, cond_true, cond_false]), impl_JoinTables.eq _ _ _ _ _ (by simp only [impl_JoinTables.t, e2, hg, e4, hg2, e6, hg3, Option.bind_some, bang_t, bang_f, cond_true, cond_false]), tab_none⟩
      | true =>
        have H := JoinOK.of hg hg2 hg3
        have hc0 := H.c0
        have hd0 := H.d0
        have hul := unpL_len v2.toNat v4
        have hjl := join_len H
        have e7 := spec_l3Left_at H
        have e8 := impl_Table_join_eq H
        have hw : IntKind.i64.wrap (v0 + ((unpL v2.toNat v4).length : Int)) = v0 + ((unpL v2.toNat v4).length : Int) := wrap_id (by omega) (by omega)
        obtain ⟨hpl, hpr⟩ := putsL_rows (c := 12) (b := joinL v1 v3 v4) fun w hw => by have := (join_mem H hw).1; omega
        have hpr' : ∀ w, w ∈ putsL [] (joinL v1 v3 v4) → w.1.length ≤ 1073741824 := fun w hw => by have := hpr w hw; omega
        have e9 := xi0s_eq (v0 + ((unpL v2.toNat v4).length : Int)) (putsL [] (joinL v1 v3 v4)) (by omega) hpr'
        by_cases hc : v0 + ((unpL v2.toNat v4).length : Int) > 6
        · have hb : goodT (v0 + ((unpL v2.toNat v4).length : Int)) (putsL [] (joinL v1 v3 v4)) = false := by
            cases hh : goodT (v0 + ((unpL v2.toNat v4).length : Int)) (putsL [] (joinL v1 v3 v4)) with
            | false => rfl
            | true => have := (goodT_iff.1 hh).1; omega
          rw [hb] at e9
          exact ⟨0, [], false, spec_JoinTables.eq _ _ _ _ _ (by simp only [spec_JoinTables.t, e1, hg, e3, hg2, e5, hg3, e7, hw, dec_t hc, Option.bind_some, bang_t, cond_true, cond_false]), impl_JoinTables.eq _ _ _ _ _ (by simp only [impl_JoinTables.t, e2, hg, e4, hg2, e6, hg3, e8, e9, Option.bind_some, bang_t, cond_false]), tab_none⟩
        · have e10 := spec_l3Join_eq H (by omega)
          have e11 := spec_l2Tell_eq (v0 + ((unpL v2.toNat v4).length : Int)) (putsL [] (joinL v1 v3 v4)) (by omega) hpr'
          cases hgood : goodT (v0 + ((unpL v2.toNat v4).length : Int)) (putsL [] (joinL v1 v3 v4)) with
          | false =>
            rw [hgood] at e9 e11
            exact ⟨0, [], false, spec_JoinTables.eq _ _ _ _ _ (by simp only [spec_JoinTables.t, e1, hg, e3, hg2, e5, hg3, e7, hw, dec_f hc, e10, e11, Option.bind_some, bang_t, cond_false]), impl_JoinTables.eq _ _ _ _ _ (by simp only [impl_JoinTables.t, e2, hg, e4, hg2, e6, hg3, e8, e9, Option.bind_some, bang_t, cond_false]), tab_none⟩
          | true =>
            rw [hgood] at e9 e11
            exact ⟨_, _, true, spec_JoinTables.eq _ _ _ _ _ (by simp only [spec_JoinTables.t, e1, hg, e3, hg2, e5, hg3, e7, hw, dec_f hc, e10, e11, Option.bind_some, bang_t, cond_true, cond_false]), impl_JoinTables.eq _ _ _ _ _ (by simp only [impl_JoinTables.t, e2, hg, e4, hg2, e6, hg3, e8, e9, Option.bind_some, bang_t, cond_true, cond_false]), tab_size hgood⟩
end GoV

/- JoinTables: the program's answer is the specification's. -/
namespace GoV
open Go
theorem FnExactJoinTables_same (v0 : Int) (v1 : List (List Int × Int)) (v2 : Int) (v3 : List (List Int × Int)) (v4 : List (List Int)) (w0 : WfT (.pair (.int .i64) (.sl (.pair (.sl (.int .i64)) (.int .i64)))) (v0, v1)) (hz0 : szT (.pair (.int .i64) (.sl (.pair (.sl (.int .i64)) (.int .i64)))) (v0, v1) ≤ 1048576)
    (w1 : WfT (.pair (.int .i64) (.sl (.pair (.sl (.int .i64)) (.int .i64)))) (v2, v3)) (hz1 : szT (.pair (.int .i64) (.sl (.pair (.sl (.int .i64)) (.int .i64)))) (v2, v3) ≤ 1048576) (w2 : WfT (.sl (.sl (.int .i64))) v4) (hz2 : szT (.sl (.sl (.int .i64))) v4 ≤ 1048576) :
    ∃ (a : Int) (b : List (List Int × Int)) (ok : Bool), spec_JoinTables v0 v1 v2 v3 v4 = some (a, b, ok) ∧ impl_JoinTables v0 v1 v2 v3 v4 = some (a, b, ok) ∧ szT (.pair (.int .i64) (.sl (.pair (.sl (.int .i64)) (.int .i64)))) (a, b) ≤ 1073741824 :=
  join_same v0 v1 v2 v3 v4 hz0 hz1 (by have := szT_len (t := .sl (.int .i64)) (l := v4); omega)
end GoV

/- FnExactJoinTables: the law out of its core. -/
namespace GoV
open Go
theorem FnExactJoinTables_true (v0 : Int) (v1 : List (List Int × Int)) (v2 : Int) (v3 : List (List Int × Int)) (v4 : List (List Int)) (w0 : WfT (.pair (.int .i64) (.sl (.pair (.sl (.int .i64)) (.int .i64)))) (v0, v1)) (w1 : WfT (.pair (.int .i64) (.sl (.pair (.sl (.int .i64)) (.int .i64)))) (v2, v3)) (w2 : WfT (.sl (.sl (.int .i64))) v4) : xl0n v0 v1 v2 v3 v4 = some true := by
  obtain ⟨left1, e1, a1, b1z⟩ := laws_szTable_ok (v0) (v1) ((1048576 : Int)) w0 (by omega) (by omega)
  by_cases n1 : left1 < 0
  · exact xl0n.eq v0 v1 v2 v3 v4 (by simp only [xl0n.t, e1, dec_t n1, cond_true, cond_false, Option.bind_some])
  have z1a := b1z (by omega)
  obtain ⟨left2, e2, a2, b2z⟩ := laws_szTable_ok (v2) (v3) (left1) w1 (by omega) (by omega)
  by_cases n2 : left2 < 0
  · exact xl0n.eq v0 v1 v2 v3 v4 (by simp only [xl0n.t, e1, dec_f n1, e2, dec_t n2, cond_true, cond_false, Option.bind_some])
  have z2a := b2z (by omega)
  obtain ⟨left3, e3, a3, b3z⟩ := laws_szIntSS_ok (v4) (left2) w2 (by omega) (by omega)
  by_cases n3 : left3 < 0
  · exact xl0n.eq v0 v1 v2 v3 v4 (by simp only [xl0n.t, e1, dec_f n1, e2, dec_f n2, e3, dec_t n3, cond_true, cond_false, Option.bind_some])
  have z3a := b3z (by omega)
  have hz0 : szT (.pair (.int .i64) (.sl (.pair (.sl (.int .i64)) (.int .i64)))) (v0, v1) ≤ 1048576 := by omega
  have hz1 : szT (.pair (.int .i64) (.sl (.pair (.sl (.int .i64)) (.int .i64)))) (v2, v3) ≤ 1048576 := by omega
  have hz2 : szT (.sl (.sl (.int .i64))) v4 ≤ 1048576 := by omega
  obtain ⟨ga, gb, gc, hspec, himpl, hsm⟩ := FnExactJoinTables_same v0 v1 v2 v3 v4 w0 hz0 w1 hz1 w2 hz2
  -- the answer is small
  have e4 := laws_toTable_id (v0) (v1) (by omega)
  have e5 := laws_toTable_id (v2) (v3) (by omega)
  have e6 := laws_toIntSS_id (v4) (by omega)
  have e8 := laws_toTable_id (v0) (v1) (by omega)
  have e9 := laws_toTable_id (v2) (v3) (by omega)
  have e10 := laws_toIntSS_id (v4) (by omega)
  have e12 := laws_eqTable_rf (ga) (gb) (by first | omega | (simp only [szT] at *; omega))
  have e13 := laws_toTable_id (v0) (v1) (by omega)
  have e14 := laws_eqTable_rf (v0) (v1) (by first | omega | (simp only [szT] at *; omega))
  have e15 := laws_toTable_id (v2) (v3) (by omega)
  have e16 := laws_eqTable_rf (v2) (v3) (by first | omega | (simp only [szT] at *; omega))
  have e17 := laws_toIntSS_id (v4) (by omega)
  have e18 := laws_eqIntSS_rf (v4) (by first | omega | (simp only [szT] at *; omega))
  have q19 := cntT_le (T := (.pair (.int .i64) (.sl (.pair (.sl (.int .i64)) (.int .i64))))) (v0, v1) rfl
  simp only [Ty.size] at q19
  have e19 := laws_markTable_d7a_ok (v0) (v1) ((1 : Int)) (by omega) (by omega) (by omega)
  have p19 := mrT_cnt (.pair (.int .i64) (.sl (.pair (.sl (.int .i64)) (.int .i64)))) (v0, v1) (1 : Int)
  have g19 : ¬ (mrT (.pair (.int .i64) (.sl (.pair (.sl (.int .i64)) (.int .i64)))) (v0, v1) (1 : Int)).2 < 0 := by omega
  have q20 := cntT_le (T := (.pair (.int .i64) (.sl (.pair (.sl (.int .i64)) (.int .i64))))) (v2, v3) rfl
  simp only [Ty.size] at q20
  have e20 := laws_markTable_d7a_ok (v2) (v3) ((mrT (.pair (.int .i64) (.sl (.pair (.sl (.int .i64)) (.int .i64)))) (v0, v1) (1 : Int)).2) (by omega) (by omega) (by omega)
  have p20 := mrT_cnt (.pair (.int .i64) (.sl (.pair (.sl (.int .i64)) (.int .i64)))) (v2, v3) (mrT (.pair (.int .i64) (.sl (.pair (.sl (.int .i64)) (.int .i64)))) (v0, v1) (1 : Int)).2
  have g20 : ¬ (mrT (.pair (.int .i64) (.sl (.pair (.sl (.int .i64)) (.int .i64)))) (v2, v3) (mrT (.pair (.int .i64) (.sl (.pair (.sl (.int .i64)) (.int .i64)))) (v0, v1) (1 : Int)).2).2 < 0 := by omega
  have q21 := cntT_le (T := (.sl (.sl (.int .i64)))) v4 rfl
  simp only [Ty.size] at q21
  have e21 := laws_markIntSS_1f6_ok (v4) ((mrT (.pair (.int .i64) (.sl (.pair (.sl (.int .i64)) (.int .i64)))) (v2, v3) (mrT (.pair (.int .i64) (.sl (.pair (.sl (.int .i64)) (.int .i64)))) (v0, v1) (1 : Int)).2).2) (by omega) (by omega) (by omega)
  have p21 := mrL_cnt (t := (.sl (.int .i64))) v4 (mrT (.pair (.int .i64) (.sl (.pair (.sl (.int .i64)) (.int .i64)))) (v2, v3) (mrT (.pair (.int .i64) (.sl (.pair (.sl (.int .i64)) (.int .i64)))) (v0, v1) (1 : Int)).2).2
  have g21 : ¬ (mrL (mrE (.sl (.int .i64))) v4 (mrT (.pair (.int .i64) (.sl (.pair (.sl (.int .i64)) (.int .i64)))) (v2, v3) (mrT (.pair (.int .i64) (.sl (.pair (.sl (.int .i64)) (.int .i64)))) (v0, v1) (1 : Int)).2).2).2 < 0 := by omega
  have e22 := laws_eqTable_rf (ga) (gb) (by first | omega | (simp only [szT] at *; omega))
  have q23 := cntT_le (T := (.pair (.int .i64) (.sl (.pair (.sl (.int .i64)) (.int .i64))))) (ga, gb) rfl
  simp only [Ty.size] at q23
  have e23 := laws_markTable_d7a_ok (ga) (gb) ((1 : Int)) (by omega) (by omega) (by omega)
  have p23 := mrT_cnt (.pair (.int .i64) (.sl (.pair (.sl (.int .i64)) (.int .i64)))) (ga, gb) (1 : Int)
  have g23 : ¬ (mrT (.pair (.int .i64) (.sl (.pair (.sl (.int .i64)) (.int .i64)))) (ga, gb) (1 : Int)).2 < 0 := by omega
  have e24 : laws_heldTable (ga) ((mrT (.pair (.int .i64) (.sl (.pair (.sl (.int .i64)) (.int .i64)))) (ga, gb) (1 : Int)).1.2) ((1 : Int)) = some (mrT (.pair (.int .i64) (.sl (.pair (.sl (.int .i64)) (.int .i64)))) (ga, gb) (1 : Int)).2 := laws_heldTable_ok (ga) (gb) (1 : Int) (by omega) (by omega) (by omega)
  have e25 := laws_toTable_id (v0) (v1) (by omega)
  have e26 := laws_toTable_id (v2) (v3) (by omega)
  have e27 := laws_toIntSS_id (v4) (by omega)
  have e29 := laws_eqTable_rf (ga) (gb) (by first | omega | (simp only [szT] at *; omega))
  have e30 : laws_heldTable (ga) ((mrT (.pair (.int .i64) (.sl (.pair (.sl (.int .i64)) (.int .i64)))) (ga, gb) (1 : Int)).1.2) ((1 : Int)) = some (mrT (.pair (.int .i64) (.sl (.pair (.sl (.int .i64)) (.int .i64)))) (ga, gb) (1 : Int)).2 := laws_heldTable_ok (ga) (gb) (1 : Int) (by omega) (by omega) (by omega)
  refine xl0n.eq v0 v1 v2 v3 v4 ?_
  simp only [xl0n.t, e1, dec_f n1, e2, dec_f n2, e3, dec_f n3, e4, e5, e6, e8, e9, e10, e12, e13, e14, e15, e16, e17, e18, e19, dec_f g19, e20, dec_f g20, e21, dec_f g21, e22, e23, dec_f g23, e24, e25, e26, e27, e29, e30, hspec, himpl, cond_true, cond_false, Option.bind_some, bne_ref, beq_ref, bang_t]
end GoV
