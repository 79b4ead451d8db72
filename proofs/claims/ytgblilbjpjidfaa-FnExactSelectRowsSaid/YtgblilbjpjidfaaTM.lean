/- A part of the proof of FnExactSelectRows: an interpreter of the model over plain data, its soundness, and what it makes of the functions that the statement reaches. Conditions: none beyond what the given statement itself says. -/
import Derived.Test.YtgblilbjpjidfaaTL
set_option linter.unusedVariables false
set_option linter.unusedSimpArgs false
set_option linter.unnecessarySimpa false
set_option linter.unusedSectionVars false
/- Rows compared, good rows, good tables: alike for the program and its specification. -/
namespace GoV
open Go
theorem spec_GoodRow_eq (r : List Int) (hl : r.length ≤ 1073741824) : spec_GoodRow r = some (goodR r) := by
  refine spec_GoodRow.eq r ?_
  simp only [spec_GoodRow.t]
  have := all_loop r 0 (fun i => spec_GoodRow.l2 r r (r.length : Int) (i : Int)) (inB (-100000) 100000) false (decide (r.length ≤ 6)) ?_ ?_ ?_
  · refine Eq.trans this ?_
    simp only [goodR]
    cases r.all (inB (-100000) 100000) <;> rfl
  · refine spec_GoodRow.eq2 _ _ _ _ ?_
    simp only [spec_GoodRow.t2, ix_lt, Nat.lt_irrefl, decide_false, cond_false]
    congr 1
    exact bool_eq (by simp only [decide_eq_true_eq]; omega)
  · intro i hi hb
    exact spec_GoodRow.eq2 _ _ _ _ (by simp only [spec_GoodRow.t2, ix_lt, ix_nn, ix_nat, dec_t hi, cond_true, spec_l1In_eq, Option.bind_some, hb, bang_f])
  · intro i c hi hb hc
    exact spec_GoodRow.eq2 _ _ _ _ (by simp only [spec_GoodRow.t2, ix_lt, ix_nn, ix_nat, dec_t hi, cond_true, cond_false, spec_l1In_eq, Option.bind_some, hb, bang_t, wrap_succ (show i < 9223372036854775807 by omega)]; exact hc)
theorem impl_isCell_eq (x : Int) : impl_isCell x = some (inB (-100000) 100000 x) := impl_isCell.eq x (by simp only [impl_isCell.t, impl_within_eq, Option.bind_some])
theorem impl_GoodRow_eq (r : List Int) (hl : r.length ≤ 1073741824) : impl_GoodRow r = some (goodR r) := by
  refine impl_GoodRow.eq r ?_
  simp only [impl_GoodRow.t, impl_areAll_int_impl_isCell_ok r (inB (-100000) 100000) (by omega) (fun x _ => impl_isCell_eq x), Option.bind_some, goodR]
  by_cases h : r.length ≤ 6
  · have : (r.length : Int) ≤ 6 := by omega
    simp only [dec_t h, dec_t this, cond_true, Bool.and_true]
  · have : ¬ (r.length : Int) ≤ 6 := by omega
    simp only [dec_f h, dec_f this, cond_false, Bool.and_false]
theorem cmpL_drop {a b : List Int} {i : Nat} (ha : i < a.length) (hb : i < b.length) : cmpL (a.drop i) (b.drop i) = if a.getD i 0 < b.getD i 0 then -1 else if a.getD i 0 > b.getD i 0 then 1 else cmpL (a.drop (i + 1)) (b.drop (i + 1)) := by
  rw [drop_getD 0 ha, drop_getD 0 hb]
  rfl
theorem cmpL_end {a b : List Int} {i : Nat} (ha : i ≤ a.length) (hb : i ≤ b.length) (h : i = a.length ∨ i = b.length) : cmpL (a.drop i) (b.drop i) = if a.length < b.length then -1 else if a.length > b.length then 1 else 0 := by
  rcases h with h | h
  · by_cases e : i < b.length
    · rw [h, List.drop_length, drop_getD 0 (by omega : a.length < b.length), if_pos (by omega)]
      rfl
    · have e1 : a.drop i = [] := by rw [h, List.drop_length]
      have e2 : b.drop i = [] := by rw [List.drop_eq_nil_iff]; omega
      rw [e1, e2, if_neg (by omega), if_neg (by omega)]
      rfl
  · by_cases e : i < a.length
    · rw [h, List.drop_length, drop_getD 0 (by omega : b.length < a.length), if_neg (by omega), if_pos (by omega)]
      rfl
    · have e1 : b.drop i = [] := by rw [h, List.drop_length]
      have e2 : a.drop i = [] := by rw [List.drop_eq_nil_iff]; omega
      rw [e1, e2, if_neg (by omega), if_neg (by omega)]
      rfl
theorem spec_l1Compare_eq (a b : List Int) (ha : a.length ≤ 1073741824) (hb : b.length ≤ 1073741824) : spec_l1Compare a b = some (cmpL a b) := by
  have key : ∀ i, i ≤ min a.length b.length → spec_l1Compare.l2 a b (i : Int) = some (cmpL (a.drop i) (b.drop i)) := by
    refine upto ?_ ?_
    · refine spec_l1Compare.eq2 _ _ _ ?_
      rw [cmpL_end (by omega) (by omega) (by omega)]
      have hlt : decide ((a.length : Int) < (b.length : Int)) = decide (a.length < b.length) := ix_lt _ _
      have hgt : decide ((a.length : Int) > (b.length : Int)) = decide (b.length < a.length) := ix_lt _ _
      simp only [spec_l1Compare.t2, ix_lt, hgt]
      by_cases h1 : a.length < b.length
      · have h2 : ¬ min a.length b.length < a.length := by omega
        simp only [dec_f h2, dec_t h1, cond_false, cond_true, if_pos h1]
      · have h2 : ¬ min a.length b.length < b.length := by omega
        by_cases h3 : b.length < a.length
        · have h4 : min a.length b.length < a.length := by omega
          have h5 : a.length > b.length := h3
          simp only [dec_t h4, dec_f h2, dec_f h1, dec_t h3, cond_false, cond_true, if_neg h1, if_pos h5]
        · have h4 : ¬ min a.length b.length < a.length := by omega
          have h5 : ¬ a.length > b.length := h3
          simp only [dec_f h4, dec_f h1, dec_f h3, cond_false, if_neg h1, if_neg h5]
    · intro i hi ih
      have h1 : i < a.length := by omega
      have h2 : i < b.length := by omega
      refine spec_l1Compare.eq2 _ _ _ ?_
      rw [cmpL_drop h1 h2]
      simp only [spec_l1Compare.t2, ix_lt, ix_nn, ix_nat, dec_t h1, dec_t h2, cond_true, wrap_succ (show i < 9223372036854775807 by omega), ih]
      by_cases h3 : a.getD i 0 < b.getD i 0
      · simp only [dec_t h3, cond_true, if_pos h3]
      · by_cases h4 : a.getD i 0 > b.getD i 0
        · simp only [dec_f h3, dec_t h4, cond_true, cond_false, if_neg h3, if_pos h4]
        · simp only [dec_f h3, dec_f h4, cond_false, if_neg h3, if_neg h4]
  exact spec_l1Compare.eq a b (by simp only [spec_l1Compare.t]; exact key 0 (Nat.zero_le _))
theorem cmp_Compare_int_eq (x y : Int) : cmp_Compare_int x y = some (if x < y then -1 else if x > y then 1 else 0) := by
  have e : ∀ z : Int, cmp_isNaN_int z = some false := fun z => cmp_isNaN_int.eq z (by simp only [cmp_isNaN_int.t, bne_ref])
  refine cmp_Compare_int.eq x y ?_
  simp only [cmp_Compare_int.t, e, Option.bind_some, cond_false]
  by_cases h3 : x < y
  · simp only [dec_t h3, cond_true, if_pos h3]
  · by_cases h4 : x > y
    · simp only [dec_f h3, dec_t h4, cond_true, cond_false, if_neg h3, if_pos h4]
    · simp only [dec_f h3, dec_f h4, cond_false, if_neg h3, if_neg h4]
theorem slices_Compare_int_int_eq (a b : List Int) (ha : a.length ≤ 1073741824) (hb : b.length ≤ 1073741824) : slices_Compare_int_int a b = some (cmpL a b) := by
  have stop : ∀ i, i ≤ a.length → b.length ≤ i → i = b.length → slices_Compare_int_int.l2 a b a (a.length : Int) (i : Int) = some (cmpL (a.drop i) (b.drop i)) := by
    intro i hi hbi hib
    refine slices_Compare_int_int.eq2 _ _ _ _ _ ?_
    rw [cmpL_end hi (by omega) (.inr hib)]
    have hge : decide ((i : Int) ≥ (b.length : Int)) = true := dec_t (by omega)
    by_cases h1 : i < a.length
    · have h2 : ¬ a.length < b.length := by omega
      have h3 : a.length > b.length := by omega
      simp only [slices_Compare_int_int.t2, ix_lt, ix_nn, ix_nat, dec_t h1, cond_true, hge, if_neg h2, if_pos h3]
    · have h2 : ¬ a.length < b.length := by omega
      have h3 : ¬ a.length > b.length := by omega
      simp only [slices_Compare_int_int.t2, ix_lt, dec_f h1, dec_f h2, cond_false, if_neg h2, if_neg h3]
  have key : ∀ i, i ≤ min a.length b.length → slices_Compare_int_int.l2 a b a (a.length : Int) (i : Int) = some (cmpL (a.drop i) (b.drop i)) := by
    refine upto ?_ ?_
    · by_cases hc : b.length ≤ a.length
      · exact stop _ (by omega) (by omega) (by omega)
      · have e : min a.length b.length = a.length := by omega
        rw [e]
        refine slices_Compare_int_int.eq2 _ _ _ _ _ ?_
        rw [cmpL_end (Nat.le_refl _) (by omega) (.inl rfl)]
        have h1 : a.length < b.length := by omega
        simp only [slices_Compare_int_int.t2, ix_lt, Nat.lt_irrefl, decide_false, cond_false, dec_t h1, cond_true, if_pos h1]
    · intro i hi ih
      have h1 : i < a.length := by omega
      have h2 : i < b.length := by omega
      have h2' : ¬ (i : Int) ≥ (b.length : Int) := by omega
      refine slices_Compare_int_int.eq2 _ _ _ _ _ ?_
      rw [cmpL_drop h1 h2]
      simp only [slices_Compare_int_int.t2, ix_lt, ix_nn, ix_nat, dec_t h1, dec_t h2, dec_f h2', cond_true, cond_false, cmp_Compare_int_eq, Option.bind_some, wrap_succ (show i < 9223372036854775807 by omega), ih]
      by_cases h3 : a.getD i 0 < b.getD i 0
      · simp only [if_pos h3]; rfl
      · by_cases h4 : a.getD i 0 > b.getD i 0
        · simp only [if_neg h3, if_pos h4]; rfl
        · simp only [if_neg h3, if_neg h4, bne_ref, cond_false]
  exact slices_Compare_int_int.eq a b (by simp only [slices_Compare_int_int.t]; exact key 0 (Nat.zero_le _))
theorem impl_compareRows_eq (a b : List Int) (ha : a.length ≤ 1073741824) (hb : b.length ≤ 1073741824) : impl_compareRows a b = some (cmpL a b) :=
  impl_compareRows.eq a b (by simp only [impl_compareRows.t, slices_Compare_int_int_eq a b ha hb, Option.bind_some])
/-! ## Tables -/
theorem spec_l2Weight_eq (n : Int) : spec_l2Weight n = some (inB (-1000000) 1000000 n) := spec_l2Weight.eq n (by simp only [spec_l2Weight.t, spec_l1In_eq, Option.bind_some])
theorem impl_isWeight_eq (n : Int) : impl_isWeight n = some (inB (-1000000) 1000000 n) := impl_isWeight.eq n (by simp only [impl_isWeight.t, impl_within_eq, Option.bind_some])
theorem impl_isColumns_eq (n : Int) : impl_isColumns n = some (inB 0 6 n) := impl_isColumns.eq n (by simp only [impl_isColumns.t, impl_within_eq, Option.bind_some])
theorem impl_isRowOf_eq (r : List Int) (c : Int) (hl : r.length ≤ 1073741824) : impl_isRowOf r c = some (goodR r && ((r.length : Int) == c)) := by
  refine impl_isRowOf.eq r c ?_
  simp only [impl_isRowOf.t, impl_GoodRow_eq r hl, Option.bind_some]
  cases goodR r <;> rfl
theorem tabB_split (c : Int) (l : List WRow) (i : Nat) : tabB c l i = (goodR (l.getD i ([], 0)).1 && (((l.getD i ([], 0)).1.length : Int) == c) && inB (-1000000) 1000000 (l.getD i ([], 0)).2 && !((l.getD i ([], 0)).2 == 0) && (decide (i = 0) || decide (cmpL (l.getD (i - 1) ([], 0)).1 (l.getD i ([], 0)).1 < 0))) := by
  simp only [tabB, rowB, goodW]
  refine bool_eq ?_
  simp only [Bool.and_eq_true, decide_eq_true_eq, beq_iff_eq, Bool.not_eq_true', beq_eq_false_iff_ne, ne_eq, and_assoc]
section
variable {c : Int} {l : List WRow} (hl : l.length ≤ 1073741824) (hr : ∀ w, w ∈ l → w.1.length ≤ 1073741824)
include hl hr
theorem spec_GoodTable_eq : spec_GoodTable c l = some (goodT c l) := by
  have key : ∀ i, i ≤ l.length → spec_GoodTable.l2 c l l (l.length : Int) (i : Int) = some (allR (tabB c l) i l.length && (inB 0 6 c && decide (l.length ≤ 60))) := by
    refine upto ?_ ?_
    · refine spec_GoodTable.eq2 _ _ _ _ _ ?_
      simp only [spec_GoodTable.t2, ix_lt, Nat.lt_irrefl, decide_false, cond_false, spec_l1In_eq, Option.bind_some, allR_end, Bool.true_and]
      have : decide ((l.length : Int) ≤ 60) = decide (l.length ≤ 60) := bool_eq (by simp only [decide_eq_true_eq]; omega)
      rw [this]
      cases inB 0 6 c <;> rfl
    · intro i hi ih
      have h1 := hr _ (getD_mem ([], 0) hi)
      refine spec_GoodTable.eq2 _ _ _ _ _ ?_
      rw [allR_step _ hi, tabB_split]
      simp only [spec_GoodTable.t2, ix_lt, ix_nn, ix_nat, dec_t hi, cond_true, spec_GoodRow_eq _ h1, spec_l2Weight_eq, Option.bind_some, wrap_succ (show i < 9223372036854775807 by omega), ih, bne]
      cases goodR (l.getD i ([], 0)).1
      · rfl
      · cases ((l.getD i ([], 0)).1.length : Int) == c
        · rfl
        · cases inB (-1000000) 1000000 (l.getD i ([], 0)).2
          · rfl
          · cases (l.getD i ([], 0)).2 == 0
            · by_cases h0 : i = 0
              · subst h0; simp
              · have h2 : 0 < i := by omega
                have h3 : i - 1 < l.length := by omega
                have h4 : (i : Int) > 0 := by omega
                have h5 := hr _ (getD_mem ([], 0) h3)
                simp only [dec_t h4, dec_f h0, bang_t, bang_f, cond_true, cond_false, wrap_pred h2 (by omega), ix_nn, ix_nat, dec_t h3, spec_l1Compare_eq _ _ h5 h1, Option.bind_some, Bool.true_and, Bool.false_or]
                by_cases h6 : cmpL (l.getD (i - 1) ([], 0)).1 (l.getD i ([], 0)).1 ≥ 0
                · have h7 : ¬ cmpL (l.getD (i - 1) ([], 0)).1 (l.getD i ([], 0)).1 < 0 := by omega
                  simp only [dec_t h6, dec_f h7, cond_true, Bool.false_and]
                · have h7 : cmpL (l.getD (i - 1) ([], 0)).1 (l.getD i ([], 0)).1 < 0 := by omega
                  simp only [dec_f h6, dec_t h7, cond_false, Bool.true_and]
            · rfl
  exact spec_GoodTable.eq c l (by simp only [spec_GoodTable.t]; exact key 0 (Nat.zero_le _))
theorem impl_GoodTable_eq : impl_GoodTable c l = some (goodT c l) := by
  have key : ∀ i, i ≤ l.length → impl_GoodTable.l4 c l l (l.length : Int) (i : Int) = some (allR (tabB c l) i l.length) := by
    refine upto ?_ ?_
    · exact impl_GoodTable.eq4 _ _ _ _ _ (by simp only [impl_GoodTable.t4, ix_lt, Nat.lt_irrefl, decide_false, cond_false, allR_end])
    · intro i hi ih
      have h1 := hr _ (getD_mem ([], 0) hi)
      refine impl_GoodTable.eq4 _ _ _ _ _ ?_
      rw [allR_step _ hi, tabB_split]
      simp only [impl_GoodTable.t4, ix_lt, ix_nn, ix_nat, dec_t hi, cond_true, impl_isRowOf_eq _ _ h1, impl_isWeight_eq, Option.bind_some, wrap_succ (show i < 9223372036854775807 by omega), ih]
      cases goodR (l.getD i ([], 0)).1
      · rfl
      · cases ((l.getD i ([], 0)).1.length : Int) == c
        · rfl
        · cases inB (-1000000) 1000000 (l.getD i ([], 0)).2
          · rfl
          · cases (l.getD i ([], 0)).2 == 0
            · by_cases h0 : i = 0
              · subst h0; simp
              · have h2 : 0 < i := by omega
                have h3 : i - 1 < l.length := by omega
                have h4 : (i : Int) > 0 := by omega
                have h5 := hr _ (getD_mem ([], 0) h3)
                simp only [dec_t h4, dec_f h0, bang_t, bang_f, cond_true, cond_false, wrap_pred h2 (by omega), ix_nn, ix_nat, dec_t h3, impl_compareRows_eq _ _ h5 h1, Option.bind_some, Bool.true_and, Bool.false_or]
                by_cases h6 : cmpL (l.getD (i - 1) ([], 0)).1 (l.getD i ([], 0)).1 ≥ 0
                · have h7 : ¬ cmpL (l.getD (i - 1) ([], 0)).1 (l.getD i ([], 0)).1 < 0 := by omega
                  simp only [dec_t h6, dec_f h7, cond_true, Bool.false_and]
                · have h7 : cmpL (l.getD (i - 1) ([], 0)).1 (l.getD i ([], 0)).1 < 0 := by omega
                  simp only [dec_f h6, dec_t h7, cond_false, Bool.true_and]
            · rfl
  refine impl_GoodTable.eq c l ?_
  simp only [impl_GoodTable.t, impl_isColumns_eq, Option.bind_some, goodT]
  cases inB 0 6 c
  · simp
  · by_cases h : l.length ≤ 60
    · have h' : ¬ (l.length : Int) > 60 := by omega
      simp only [dec_f h', dec_t h, bang_t, cond_false, Bool.and_true]
      exact key 0 (Nat.zero_le _)
    · have h' : (l.length : Int) > 60 := by omega
      simp only [dec_t h', dec_f h, bang_t, cond_false, cond_true, Bool.and_false]
end
/-! ## A table told anew -/
theorem spec_l2OwnRow_eq (r : List Int) (hl : r.length ≤ 1073741824) : spec_l2OwnRow r = some r := by
  refine spec_l2OwnRow.eq r ?_
  have : ([] : List Int).length + r.length ≤ 4294967296 := by simp; omega
  simp only [spec_l2OwnRow.t, dec_t this, cond_true, List.nil_append]
theorem spec_l2Tell_eq (c : Int) (l : List WRow) (hl : l.length ≤ 1073741824) (hr : ∀ w, w ∈ l → w.1.length ≤ 1073741824) : spec_l2Tell c l = some (bif goodT c l then (c, l, true) else (0, [], false)) := by
  have key : ∀ (rest pre : List WRow), l = pre ++ rest → spec_l2Tell.l3 0 [] c pre l (l.length : Int) (pre.length : Int) = some (bif goodT c l then (c, l, true) else (0, [], false)) := by
    intro rest
    induction rest with
    | nil =>
      intro pre hp
      have e : pre = l := by rw [hp]; simp
      subst e
      refine spec_l2Tell.eq3 _ _ _ _ _ _ _ ?_
      simp only [spec_l2Tell.t3, ix_lt, Nat.lt_irrefl, decide_false, cond_false, spec_GoodTable_eq hl hr, Option.bind_some]
      cases goodT c pre <;> rfl
    | cons w r ih =>
      intro pre hp
      have hi : pre.length < l.length := by rw [hp]; simp
      have hg : l.getD pre.length ([], 0) = w := by rw [hp]; exact getD_mid pre r w _
      have hw := hr w (by rw [hp]; simp)
      have hb : pre.length + [(w.1, w.2)].length ≤ 4294967296 := by simp only [List.length_cons, List.length_nil]; omega
      refine spec_l2Tell.eq3 _ _ _ _ _ _ _ ?_
      simp only [spec_l2Tell.t3, ix_lt, ix_nn, ix_nat, dec_t hi, cond_true, hg, spec_l2OwnRow_eq _ hw, Option.bind_some, dec_t hb, wrap_succ (show pre.length < 9223372036854775807 by omega)]
      have := ih (pre ++ [w]) (by rw [hp]; simp)
      rw [List.length_append, List.length_singleton] at this
      exact this
  exact spec_l2Tell.eq c l (by simp only [spec_l2Tell.t]; exact key l [] rfl)
end GoV

/- Tables with all weights times a number, and tables handed on if they are good. -/
namespace GoV
open Go
theorem slices_Clone_int_int_eq (r : List Int) (hl : r.length ≤ 1073741824) : slices_Clone_int_int r = some r := by
  refine slices_Clone_int_int.eq r ?_
  have : r.length ≤ 4294967296 := by omega
  simp only [slices_Clone_int_int.t, dec_t this, cond_true]
theorem impl_Row_own_eq (r : List Int) (hl : r.length ≤ 1073741824) : impl_Row_own r = some r := impl_Row_own.eq r (by simp only [impl_Row_own.t, slices_Clone_int_int_eq r hl, Option.bind_some])
end GoV

/- Tables kept with other weights (printed by wip/tools/lawgen.py). -/
namespace GoV
open Go
theorem impl_Table_kept_impl_Table_selected_1_ok (v0 : Int) (v1 : List (List Int × Int)) (v2 : List (Int × Int × Int)) (f : WRow → Int) (hl : v1.length ≤ 1073741824) (hr : ∀ w, w ∈ v1 → w.1.length ≤ 1073741824) (hf : ∀ w, w ∈ v1 → impl_Table_selected_1 (w.fst) (w.snd) (v2) = some (f w)) : impl_Table_kept_impl_Table_selected_1 v0 v1 v2 = some (v0, keptL f v1) := by
  refine impl_Table_kept_impl_Table_selected_1.eq v0 v1 v2 ?_
  simp only [impl_Table_kept_impl_Table_selected_1.t]
  refine push_loop v1 ([], 0) (fun acc i => impl_Table_kept_impl_Table_selected_1.l3 (v2) ((0 : Int)) ([]) (v0) acc (v1) ((↑v1.length : Int)) (i : Int)) (keptG f) (keptG_len f) (fun acc => some (v0, acc)) ?_ ?_ _ rfl
  · intro acc b _ hb
    exact impl_Table_kept_impl_Table_selected_1.eq3 _ _ _ _ _ _ _ _ (by simp only [impl_Table_kept_impl_Table_selected_1.t3, ix_lt, Nat.lt_irrefl, decide_false, cond_false]; exact hb)
  · intro acc i b hi ha hb
    have hmem := getD_mem (([], 0) : WRow) hi
    have hw := hr _ hmem
    have hc := hf _ hmem
    refine impl_Table_kept_impl_Table_selected_1.eq3 _ _ _ _ _ _ _ _ ?_
    simp only [impl_Table_kept_impl_Table_selected_1.t3, ix_lt, ix_nn, ix_nat, dec_t hi, cond_true, hc, Option.bind_some, wrap_succ (show i < 9223372036854775807 by omega)]
    simp only [keptG] at hb
    by_cases h0 : f (v1.getD i ([], 0)) = 0
    · rw [if_pos h0, List.append_nil] at hb
      have : (f (v1.getD i ([], 0)) != 0) = false := by rw [h0]; exact bne_ref _
      simp only [this, cond_false]
      exact hb
    · rw [if_neg h0] at hb
      have h1 : (f (v1.getD i ([], 0)) != 0) = true := bne_iff_ne.2 h0
      have h2 : acc.length + [((v1.getD i ([], 0)).1, f (v1.getD i ([], 0)))].length ≤ 4294967296 := by simp only [List.length_cons, List.length_nil]; omega
      simp only [h1, impl_Row_own_eq _ hw, Option.bind_some, dec_t h2, cond_true]
      exact hb
end GoV

/- Rows once each. -/
namespace GoV
open Go
def oneP (n : Int) : Int := if n > 0 then 1 else 0
theorem goodT_distinct {c : Int} {l : List WRow} (h : goodT c l = true) : goodT c (keptL (fun w => oneP w.2) l) = true := goodT_kept h fun w _ => by
  simp only [oneP]
  split <;> omega
end GoV

/- SelectRows: the program's answer is the specification's. -/
namespace GoV
open Go
abbrev Tst := Int × Int × Int
def testB (c : Int) (x : Tst) : Bool := (decide (0 ≤ x.2.1) && decide (x.2.1 < c)) && (inB 1 4 x.1 && ((bif x.1 == 4 then decide (0 ≤ x.2.2) && decide (x.2.2 < c) else true) && inB (-100000) 100000 x.2.2))
def testsB (c : Int) (l : List Tst) : Bool := l.all (testB c) && decide (l.length ≤ 8)
def trueB (r : List Int) (x : Tst) : Bool := bif x.1 == 1 then r.getD x.2.1.toNat 0 == x.2.2 else bif x.1 == 2 then decide (r.getD x.2.1.toNat 0 < x.2.2) else bif x.1 == 3 then decide (r.getD x.2.1.toNat 0 > x.2.2) else r.getD x.2.1.toNat 0 == r.getD x.2.2.toNat 0
theorem not_lt_dec (x y : Int) : decide (x < y) = !decide (y ≤ x) := by
  by_cases h : x < y
  · rw [dec_t h, dec_f (by omega)]; rfl
  · rw [dec_f h, dec_t (by omega)]; rfl
theorem not_ge_dec (x y : Int) : decide (x ≥ y) = !decide (x < y) := by
  by_cases h : x < y
  · rw [dec_t h, dec_f (by omega)]; rfl
  · rw [dec_f h, dec_t (by omega)]; rfl
theorem spec_GoodTests_eq (l : List Tst) (c : Int) (hl : l.length ≤ 1073741824) : spec_GoodTests l c = some (testsB c l) := by
  refine spec_GoodTests.eq l c ?_
  simp only [spec_GoodTests.t]
  have := all_loop l (0, 0, 0) (fun i => spec_GoodTests.l2 l c l (l.length : Int) (i : Int)) (testB c) false (decide (l.length ≤ 8)) ?_ ?_ ?_
  · refine Eq.trans this ?_
    simp only [testsB]
    cases l.all (testB c) <;> rfl
  · have e : decide ((l.length : Int) ≤ 8) = decide (l.length ≤ 8) := by
      by_cases h : l.length ≤ 8
      · rw [dec_t h, dec_t (by omega)]
      · rw [dec_f h, dec_f (by omega)]
    exact spec_GoodTests.eq2 _ _ _ _ _ (by simp only [spec_GoodTests.t2, ix_lt, Nat.lt_irrefl, decide_false, cond_false, e])
  · intro i hi hb
    refine spec_GoodTests.eq2 _ _ _ _ _ ?_
    simp only [testB] at hb
    simp only [spec_GoodTests.t2, ix_lt, ix_nn, ix_nat, dec_t hi, cond_true, spec_l1In_eq, Option.bind_some, not_lt_dec (l.getD i (0, 0, 0)).2.1 0, not_lt_dec (l.getD i (0, 0, 0)).2.2 0, not_ge_dec (l.getD i (0, 0, 0)).2.1 c, not_ge_dec (l.getD i (0, 0, 0)).2.2 c]
    cases h1 : decide (0 ≤ (l.getD i (0, 0, 0)).2.1)
    · rfl
    · cases h2 : decide ((l.getD i (0, 0, 0)).2.1 < c)
      · rfl
      · cases h3 : inB 1 4 (l.getD i (0, 0, 0)).1
        · rfl
        · cases h4 : (l.getD i (0, 0, 0)).1 == 4
          · simp only [h1, h2, h3, h4, cond_false, Bool.true_and] at hb
            simp only [hb, bang_t, bang_f, cond_true, cond_false]
          · cases h5 : decide (0 ≤ (l.getD i (0, 0, 0)).2.2)
            · rfl
            · cases h6 : decide ((l.getD i (0, 0, 0)).2.2 < c)
              · rfl
              · simp only [h1, h2, h3, h4, h5, h6, cond_true, Bool.true_and] at hb
                simp only [hb, bang_t, bang_f, cond_true, cond_false]
  · intro i b hi hb hc
    refine spec_GoodTests.eq2 _ _ _ _ _ ?_
    simp only [testB, Bool.and_eq_true] at hb
    obtain ⟨⟨h1, h2⟩, h3, h4, h5⟩ := hb
    simp only [spec_GoodTests.t2, ix_lt, ix_nn, ix_nat, dec_t hi, cond_true, cond_false, spec_l1In_eq, Option.bind_some, not_lt_dec (l.getD i (0, 0, 0)).2.1 0, not_lt_dec (l.getD i (0, 0, 0)).2.2 0, not_ge_dec (l.getD i (0, 0, 0)).2.1 c, not_ge_dec (l.getD i (0, 0, 0)).2.2 c, h1, h2, h3, h5, bang_t, wrap_succ (show i < 9223372036854775807 by omega)]
    cases h6 : (l.getD i (0, 0, 0)).1 == 4
    · simp only [cond_false]; exact hc
    · rw [h6, cond_true, Bool.and_eq_true] at h4
      simp only [cond_true, cond_false, h4.1, h4.2, bang_t]; exact hc
theorem impl_isPlace_eq (x c : Int) : impl_isPlace x c = some (decide (0 ≤ x) && decide (x < c)) := by
  refine impl_isPlace.eq x c ?_
  simp only [impl_isPlace.t]
  by_cases h : 0 ≤ x
  · have h' : x ≥ 0 := h
    simp only [dec_t h, dec_t h', cond_true, Bool.true_and]
  · have h' : ¬ x ≥ 0 := h
    simp only [dec_f h, dec_f h', cond_false, Bool.false_and]
theorem impl_GoodTests_1_eq (x : Tst) (c : Int) (hc : c ≤ 6) : impl_GoodTests_1 x.1 x.2.1 x.2.2 c = some (testB c x) := by
  obtain ⟨k, p, n⟩ := x
  refine impl_GoodTests_1.eq _ _ _ _ ?_
  simp only [impl_GoodTests_1.t, impl_isPlace_eq, impl_within_eq, impl_isCell_eq, Option.bind_some, testB]
  cases decide (0 ≤ p) && decide (p < c)
  · rfl
  · simp only [bang_t, cond_false, Bool.true_and]
    by_cases h : k = 4
    · subst h
      have h1 : ((4 : Int) == 4) = true := rfl
      have h2 : inB 1 4 4 = true := rfl
      simp only [h1, h2, cond_true, Bool.true_and]
      by_cases h3 : 0 ≤ n
      · by_cases h4 : n < c
        · have h5 : inB (-100000) 100000 n = true := inB_iff.2 ⟨by omega, by omega⟩
          simp only [dec_t h3, dec_t h4, h5, Bool.and_true]
        · simp only [dec_f h4, Bool.and_false, Bool.false_and]
      · simp only [dec_f h3, Bool.false_and]
    · have h1 : (k == 4) = false := beq_eq_false_iff_ne.2 h
      have h2 : inB 1 3 k = inB 1 4 k := bool_eq (by rw [inB_iff, inB_iff]; omega)
      simp only [h1, h2, cond_false, Bool.true_and]
      cases inB 1 4 k <;> simp
theorem impl_GoodTests_eq (l : List Tst) (c : Int) (hl : l.length ≤ 1073741824) (hc : c ≤ 6) : impl_GoodTests l c = some (testsB c l) := by
  refine impl_GoodTests.eq l c ?_
  simp only [impl_GoodTests.t, impl_areAll_impl_Test_impl_GoodTests_1_ok l c (testB c) (by omega) (fun x _ => impl_GoodTests_1_eq x c hc), Option.bind_some, testsB]
  by_cases h : l.length ≤ 8
  · have h' : (l.length : Int) ≤ 8 := by omega
    simp only [dec_t h, dec_t h', cond_true, Bool.and_true]
  · have h' : ¬ (l.length : Int) ≤ 8 := by omega
    simp only [dec_f h, dec_f h', cond_false, Bool.and_false]
theorem testB_fit {c : Int} {x : Tst} (h : testB c x = true) : (0 ≤ x.2.1 ∧ x.2.1 < c) ∧ (x.1 = 1 ∨ x.1 = 2 ∨ x.1 = 3 ∨ (x.1 = 4 ∧ 0 ≤ x.2.2 ∧ x.2.2 < c)) := by
  simp only [testB, Bool.and_eq_true, decide_eq_true_eq, inB_iff] at h
  obtain ⟨⟨h1, h2⟩, ⟨h3, h4⟩, h5, _⟩ := h
  refine ⟨⟨h1, h2⟩, ?_⟩
  by_cases h6 : x.1 = 4
  · have h7 : (x.1 == 4) = true := beq_iff_eq.2 h6
    rw [h7, cond_true, Bool.and_eq_true, decide_eq_true_eq, decide_eq_true_eq] at h5
    exact .inr (.inr (.inr ⟨h6, h5.1, h5.2⟩))
  · omega
theorem impl_Test_isTrue_eq {c : Int} {x : Tst} {r : List Int} (h : testB c x = true) (hc : (r.length : Int) = c) : impl_Test_isTrue x.1 x.2.1 x.2.2 r = some (trueB r x) := by
  obtain ⟨⟨h1, h2⟩, h3⟩ := testB_fit h
  refine impl_Test_isTrue.eq _ _ _ _ ?_
  have h4 : x.2.1.toNat < r.length := by omega
  simp only [impl_Test_isTrue.t, dec_t h1, dec_t h4, cond_true, trueB]
  cases e1 : x.1 == 1
  · cases e2 : x.1 == 2
    · cases e3 : x.1 == 3
      · have g1 := beq_eq_false_iff_ne.1 e1
        have g2 := beq_eq_false_iff_ne.1 e2
        have g3 := beq_eq_false_iff_ne.1 e3
        have h5 : 0 ≤ x.2.2 := by omega
        have h6 : x.2.2.toNat < r.length := by omega
        simp only [dec_t h5, dec_t h6, cond_true, cond_false]
      · rfl
    · rfl
  · rfl
theorem spec_l3True_eq {c : Int} {l : List Tst} {r : List Int} (hl : l.length ≤ 1073741824) (h : ∀ x, x ∈ l → testB c x = true) (hc : (r.length : Int) = c) : spec_l3True l r = some (l.all (trueB r)) := by
  refine spec_l3True.eq l r ?_
  simp only [spec_l3True.t]
  have := all_loop l (0, 0, 0) (fun i => spec_l3True.l2 r l (l.length : Int) (i : Int)) (trueB r) false true ?_ ?_ ?_
  · refine Eq.trans this ?_
    cases l.all (trueB r) <;> rfl
  · exact spec_l3True.eq2 _ _ _ _ (by simp only [spec_l3True.t2, ix_lt, Nat.lt_irrefl, decide_false, cond_false])
  · intro i hi hb
    obtain ⟨⟨h1, h2⟩, h3⟩ := testB_fit (h _ (getD_mem (0, 0, 0) hi))
    have h4 : (l.getD i (0, 0, 0)).2.1.toNat < r.length := by omega
    refine spec_l3True.eq2 _ _ _ _ ?_
    simp only [trueB] at hb
    simp only [spec_l3True.t2, ix_lt, ix_nn, ix_nat, dec_t hi, dec_t h1, dec_t h4, cond_true]
    cases e1 : (l.getD i (0, 0, 0)).1 == 1
    · cases e2 : (l.getD i (0, 0, 0)).1 == 2
      · cases e3 : (l.getD i (0, 0, 0)).1 == 3
        · have g1 := beq_eq_false_iff_ne.1 e1
          have g2 := beq_eq_false_iff_ne.1 e2
          have g3 := beq_eq_false_iff_ne.1 e3
          have h5 : 0 ≤ (l.getD i (0, 0, 0)).2.2 := by omega
          have h6 : (l.getD i (0, 0, 0)).2.2.toNat < r.length := by omega
          simp only [e1, e2, e3, cond_false] at hb
          simp only [dec_t h5, dec_t h6, hb, bang_f, cond_true, cond_false]
        · simp only [e1, e2, e3, cond_true, cond_false] at hb
          simp only [hb, bang_f, cond_true, cond_false]
      · simp only [e1, e2, cond_true, cond_false] at hb
        simp only [hb, bang_f, cond_true, cond_false]
    · simp only [e1, cond_true] at hb
      simp only [hb, bang_f, cond_true]
  · intro i b hi hb hs
    obtain ⟨⟨h1, h2⟩, h3⟩ := testB_fit (h _ (getD_mem (0, 0, 0) hi))
    have h4 : (l.getD i (0, 0, 0)).2.1.toNat < r.length := by omega
    refine spec_l3True.eq2 _ _ _ _ ?_
    simp only [trueB] at hb
    simp only [spec_l3True.t2, ix_lt, ix_nn, ix_nat, dec_t hi, dec_t h1, dec_t h4, cond_true, wrap_succ (show i < 9223372036854775807 by omega)]
    cases e1 : (l.getD i (0, 0, 0)).1 == 1
    · cases e2 : (l.getD i (0, 0, 0)).1 == 2
      · cases e3 : (l.getD i (0, 0, 0)).1 == 3
        · have g1 := beq_eq_false_iff_ne.1 e1
          have g2 := beq_eq_false_iff_ne.1 e2
          have g3 := beq_eq_false_iff_ne.1 e3
          have h5 : 0 ≤ (l.getD i (0, 0, 0)).2.2 := by omega
          have h6 : (l.getD i (0, 0, 0)).2.2.toNat < r.length := by omega
          simp only [e1, e2, e3, cond_false] at hb
          simp only [dec_t h5, dec_t h6, hb, bang_t, cond_true, cond_false]
          exact hs
        · simp only [e1, e2, e3, cond_true, cond_false] at hb
          simp only [hb, bang_t, cond_true, cond_false]
          exact hs
      · simp only [e1, e2, cond_true, cond_false] at hb
        simp only [hb, bang_t, cond_true, cond_false]
        exact hs
    · simp only [e1, cond_true] at hb
      simp only [hb, bang_t, cond_true, cond_false]
      exact hs
def selF (ts : List Tst) (w : WRow) : Int := bif ts.all (trueB w.1) then w.2 else 0
theorem spec_l3Select_eq {c : Int} (l : List WRow) (ts : List Tst) (hl : l.length ≤ 1073741824) (ht : ts.length ≤ 1073741824) (h : ∀ x, x ∈ ts → testB c x = true) (hc : ∀ w, w ∈ l → (w.1.length : Int) = c ∧ w.2 ≠ 0) : spec_l3Select l ts = some (keptL (selF ts) l) := by
  refine spec_l3Select.eq l ts ?_
  simp only [spec_l3Select.t]
  refine push_loop l ([], 0) (fun acc i => spec_l3Select.l3 ts acc l (l.length : Int) (i : Int)) (keptG (selF ts)) (keptG_len _) some ?_ ?_ _ rfl
  · intro acc b _ hb
    exact spec_l3Select.eq3 _ _ _ _ _ (by simp only [spec_l3Select.t3, ix_lt, Nat.lt_irrefl, decide_false, cond_false]; exact hb)
  · intro acc i b hi ha hb
    refine spec_l3Select.eq3 _ _ _ _ _ ?_
    obtain ⟨g1, g2⟩ := hc _ (getD_mem ([], 0) hi)
    simp only [spec_l3Select.t3, ix_lt, ix_nn, ix_nat, dec_t hi, cond_true, wrap_succ (show i < 9223372036854775807 by omega), spec_l3True_eq ht h g1, Option.bind_some]
    cases h0 : ts.all (trueB (l.getD i ([], 0)).1)
    · rw [keptG_zero (show selF ts (l.getD i ([], 0)) = 0 by rw [selF, h0]; rfl), List.append_nil] at hb
      simp only [cond_false]
      exact hb
    · rw [keptG_some (show selF ts (l.getD i ([], 0)) = (l.getD i ([], 0)).2 by rw [selF, h0]; rfl) g2] at hb
      have h2 : acc.length + [((l.getD i ([], 0)).1, (l.getD i ([], 0)).2)].length ≤ 4294967296 := by simp only [List.length_cons, List.length_nil]; omega
      simp only [dec_t h2, cond_true]
      exact hb
theorem FnExactSelectRows_same (v0 : Int) (v1 : List (List Int × Int)) (v2 : List (Int × Int × Int)) (w0 : WfT (.pair (.int .i64) (.sl (.pair (.sl (.int .i64)) (.int .i64)))) (v0, v1)) (hz0 : szT (.pair (.int .i64) (.sl (.pair (.sl (.int .i64)) (.int .i64)))) (v0, v1) ≤ 1048576)
    (w1 : WfT (.sl (.pair (.int .i64) (.pair (.int .i64) (.int .i64)))) v2) (hz1 : szT (.sl (.pair (.int .i64) (.pair (.int .i64) (.int .i64)))) v2 ≤ 1048576) :
    ∃ (a : Int) (b : List (List Int × Int)) (ok : Bool), spec_SelectRows v0 v1 v2 = some (a, b, ok) ∧ impl_SelectRows v0 v1 v2 = some (a, b, ok) ∧ szT (.pair (.int .i64) (.sl (.pair (.sl (.int .i64)) (.int .i64)))) (a, b) ≤ 1073741824 := by
  obtain ⟨h1, h2⟩ := tab_len hz0
  have hl : v1.length ≤ 1073741824 := by omega
  have hr : ∀ w, w ∈ v1 → w.1.length ≤ 1073741824 := fun w hw => by have := h2 w hw; omega
  have ht : v2.length ≤ 1073741824 := by
    have := szT_len (t := .pair (.int .i64) (.pair (.int .i64) (.int .i64))) (l := v2)
    omega
  have e1 := spec_GoodTable_eq (c := v0) hl hr
  have e2 := impl_GoodTable_eq (c := v0) hl hr
  cases hg : goodT v0 v1 with
  | false => exact ⟨0, [], false, spec_SelectRows.eq v0 v1 v2 (by simp only [spec_SelectRows.t, e1, hg, Option.bind_some, bang_f, cond_true]), impl_SelectRows.eq v0 v1 v2 (by simp only [impl_SelectRows.t, e2, hg, Option.bind_some, bang_f, cond_true]), tab_none⟩
  | true =>
    obtain ⟨⟨_, h6⟩, _, hrows, _⟩ := goodT_iff.1 hg
    have e3 := spec_GoodTests_eq v2 v0 ht
    have e4 := impl_GoodTests_eq v2 v0 ht h6
    cases hI : testsB v0 v2 with
    | false => exact ⟨0, [], false, spec_SelectRows.eq v0 v1 v2 (by simp only [spec_SelectRows.t, e1, hg, e3, hI, Option.bind_some, bang_f, bang_t, cond_true, cond_false]), impl_SelectRows.eq v0 v1 v2 (by simp only [impl_SelectRows.t, e2, hg, e4, hI, Option.bind_some, bang_f, bang_t, cond_true, cond_false]), tab_none⟩
    | true =>
      have hts : ∀ x, x ∈ v2 → testB v0 x = true := by
        simp only [testsB, Bool.and_eq_true] at hI
        exact List.all_eq_true.1 hI.1
      have hc : ∀ w, w ∈ v1 → (w.1.length : Int) = v0 ∧ w.2 ≠ 0 := fun w hw => by
        obtain ⟨_, g1, _, g2⟩ := rowB_iff.1 (hrows w hw)
        exact ⟨g1, g2⟩
      have e5 := spec_l3Select_eq v1 v2 hl ht hts hc
      have hf : ∀ w, w ∈ v1 → impl_Table_selected_1 w.1 w.2 v2 = some (selF v2 w) := by
        intro w hw
        have := impl_areAll_impl_Test_impl_Table_selected_1_1_ok v2 w.1 w.2 (trueB w.1) (by omega) (fun x hx => impl_Table_selected_1_1.eq _ _ _ _ _ (by simp only [impl_Table_selected_1_1.t, impl_Test_isTrue_eq (hts x hx) (hc w hw).1, Option.bind_some]))
        refine impl_Table_selected_1.eq _ _ _ ?_
        simp only [impl_Table_selected_1.t, this, Option.bind_some, selF]
        cases v2.all (trueB w.1) <;> rfl
      have e6 := impl_Table_kept_impl_Table_selected_1_ok v0 v1 v2 (selF v2) hl hr hf
      have e7 := impl_Table_selected.eq v0 v1 v2 (b := (v0, keptL (selF v2) v1)) (by simp only [impl_Table_selected.t, e6, Option.bind_some])
      have hgood : goodT v0 (keptL (selF v2) v1) = true := goodT_kept hg fun w hw => by
        obtain ⟨_, _, g3, _⟩ := rowB_iff.1 (hrows w hw)
        simp only [selF]
        cases v2.all (trueB w.1) <;> simp <;> omega
      have hl2 := Nat.le_trans (keptL_len (selF v2) v1) hl
      have hr2 : ∀ w, w ∈ keptL (selF v2) v1 → w.1.length ≤ 1073741824 := fun w hw => by
        obtain ⟨u, hu, rfl, _⟩ := keptL_mem hw
        exact hr u hu
      have e8 := spec_l2Tell_eq v0 _ hl2 hr2
      rw [hgood] at e8
      exact ⟨v0, _, true, spec_SelectRows.eq v0 v1 v2 (by simp only [spec_SelectRows.t, e1, hg, e3, hI, e5, e8, Option.bind_some, bang_t, cond_true, cond_false]),
        impl_SelectRows.eq v0 v1 v2 (by simp only [impl_SelectRows.t, e2, hg, e4, hI, e7, Option.bind_some, bang_t, cond_false]), tab_size hgood⟩
end GoV

/- FnExactSelectRows: the law out of its core. -/
namespace GoV
open Go
theorem FnExactSelectRows_true (v0 : Int) (v1 : List (List Int × Int)) (v2 : List (Int × Int × Int)) (w0 : WfT (.pair (.int .i64) (.sl (.pair (.sl (.int .i64)) (.int .i64)))) (v0, v1)) (w1 : WfT (.sl (.pair (.int .i64) (.pair (.int .i64) (.int .i64)))) v2) : laws_FnExactSelectRows v0 v1 v2 = some true := by
  obtain ⟨left1, e1, a1, b1z⟩ := laws_szTable_ok (v0) (v1) ((1048576 : Int)) w0 (by omega) (by omega)
  by_cases n1 : left1 < 0
  · exact laws_FnExactSelectRows.eq v0 v1 v2 (by simp only [laws_FnExactSelectRows.t, e1, dec_t n1, cond_true, cond_false, Option.bind_some])
  have z1a := b1z (by omega)
  obtain ⟨left2, e2, a2, b2z⟩ := laws_szTestS_ok (v2) (left1) w1 (by omega) (by omega)
  by_cases n2 : left2 < 0
  · exact laws_FnExactSelectRows.eq v0 v1 v2 (by simp only [laws_FnExactSelectRows.t, e1, dec_f n1, e2, dec_t n2, cond_true, cond_false, Option.bind_some])
  have z2a := b2z (by omega)
  have hz0 : szT (.pair (.int .i64) (.sl (.pair (.sl (.int .i64)) (.int .i64)))) (v0, v1) ≤ 1048576 := by omega
  have hz1 : szT (.sl (.pair (.int .i64) (.pair (.int .i64) (.int .i64)))) v2 ≤ 1048576 := by omega
  obtain ⟨ga, gb, gc, hspec, himpl, hsm⟩ := FnExactSelectRows_same v0 v1 v2 w0 hz0 w1 hz1
  -- the answer is small
  have e3 := laws_toTable_id (v0) (v1) (by omega)
  have e4 := laws_toTestS_id (v2) (by omega)
  have e6 := laws_toTable_id (v0) (v1) (by omega)
  have e7 := laws_toTestS_id (v2) (by omega)
  have e9 := laws_eqTable_rf (ga) (gb) (by first | omega | (simp only [szT] at *; omega))
  have e10 := laws_toTable_id (v0) (v1) (by omega)
  have e11 := laws_eqTable_rf (v0) (v1) (by first | omega | (simp only [szT] at *; omega))
  have e12 := laws_toTestS_id (v2) (by omega)
  have e13 := laws_eqTestS_rf (v2) (by first | omega | (simp only [szT] at *; omega))
  have q14 := cntT_le (T := (.pair (.int .i64) (.sl (.pair (.sl (.int .i64)) (.int .i64))))) (v0, v1) rfl
  simp only [Ty.size] at q14
  have e14 := laws_markTable_d7a_ok (v0) (v1) ((1 : Int)) (by omega) (by omega) (by omega)
  have p14 := mrT_cnt (.pair (.int .i64) (.sl (.pair (.sl (.int .i64)) (.int .i64)))) (v0, v1) (1 : Int)
  have g14 : ¬ (mrT (.pair (.int .i64) (.sl (.pair (.sl (.int .i64)) (.int .i64)))) (v0, v1) (1 : Int)).2 < 0 := by omega
  have q15 := cntT_le (T := (.sl (.pair (.int .i64) (.pair (.int .i64) (.int .i64))))) v2 rfl
  simp only [Ty.size] at q15
  have e15 := laws_markTestS_5b1_ok (v2) ((mrT (.pair (.int .i64) (.sl (.pair (.sl (.int .i64)) (.int .i64)))) (v0, v1) (1 : Int)).2) (by omega) (by omega) (by omega)
  have p15 := mrL_cnt (t := (.pair (.int .i64) (.pair (.int .i64) (.int .i64)))) v2 (mrT (.pair (.int .i64) (.sl (.pair (.sl (.int .i64)) (.int .i64)))) (v0, v1) (1 : Int)).2
  have g15 : ¬ (mrL (mrE (.pair (.int .i64) (.pair (.int .i64) (.int .i64)))) v2 (mrT (.pair (.int .i64) (.sl (.pair (.sl (.int .i64)) (.int .i64)))) (v0, v1) (1 : Int)).2).2 < 0 := by omega
  have e16 := laws_eqTable_rf (ga) (gb) (by first | omega | (simp only [szT] at *; omega))
  have q17 := cntT_le (T := (.pair (.int .i64) (.sl (.pair (.sl (.int .i64)) (.int .i64))))) (ga, gb) rfl
  simp only [Ty.size] at q17
  have e17 := laws_markTable_d7a_ok (ga) (gb) ((1 : Int)) (by omega) (by omega) (by omega)
  have p17 := mrT_cnt (.pair (.int .i64) (.sl (.pair (.sl (.int .i64)) (.int .i64)))) (ga, gb) (1 : Int)
  have g17 : ¬ (mrT (.pair (.int .i64) (.sl (.pair (.sl (.int .i64)) (.int .i64)))) (ga, gb) (1 : Int)).2 < 0 := by omega
  have e18 : laws_heldTable (ga) ((mrT (.pair (.int .i64) (.sl (.pair (.sl (.int .i64)) (.int .i64)))) (ga, gb) (1 : Int)).1.2) ((1 : Int)) = some (mrT (.pair (.int .i64) (.sl (.pair (.sl (.int .i64)) (.int .i64)))) (ga, gb) (1 : Int)).2 := laws_heldTable_ok (ga) (gb) (1 : Int) (by omega) (by omega) (by omega)
  have e19 := laws_toTable_id (v0) (v1) (by omega)
  have e20 := laws_toTestS_id (v2) (by omega)
  have e22 := laws_eqTable_rf (ga) (gb) (by first | omega | (simp only [szT] at *; omega))
  have e23 : laws_heldTable (ga) ((mrT (.pair (.int .i64) (.sl (.pair (.sl (.int .i64)) (.int .i64)))) (ga, gb) (1 : Int)).1.2) ((1 : Int)) = some (mrT (.pair (.int .i64) (.sl (.pair (.sl (.int .i64)) (.int .i64)))) (ga, gb) (1 : Int)).2 := laws_heldTable_ok (ga) (gb) (1 : Int) (by omega) (by omega) (by omega)
  refine laws_FnExactSelectRows.eq v0 v1 v2 ?_
  simp only [laws_FnExactSelectRows.t, e1, dec_f n1, e2, dec_f n2, e3, e4, e6, e7, e9, e10, e11, e12, e13, e14, dec_f g14, e15, dec_f g15, e16, e17, dec_f g17, e18, e19, e20, e22, e23, hspec, himpl, cond_true, cond_false, Option.bind_some, bne_ref, beq_ref, bang_t]
end GoV
