/- A part of the proof of FnExactExceptTables: an interpreter of the model over plain data, its soundness, and what it makes of the functions that the statement reaches. Conditions: none beyond what the given statement itself says. -/
import Derived.Test.YtgblilbjpjidfaaTL
set_option linter.unusedVariables false
set_option linter.unusedSimpArgs false
set_option linter.unnecessarySimpa false
set_option linter.unusedSectionVars false
/- Rows compared, good rows, good tables: alike for the program and its specification. -/
namespace GoV
open Go
theorem spec_GoodRow_eq (r : List Int) (hl : r.length ≤ 1073741824) : spec_GoodRow r = some (goodR r) := by
  refine spec_GoodRow.eq r ?_
  simp only [spec_GoodRow.t]
  have := all_loop r 0 (fun i => spec_GoodRow.l2 r r (r.length : Int) (i : Int)) (inB (-100000) 100000) false (decide (r.length ≤ 6)) ?_ ?_ ?_
  · refine Eq.trans this ?_
    simp only [goodR]
    cases r.all (inB (-100000) 100000) <;> rfl
  · refine spec_GoodRow.eq2 _ _ _ _ ?_
    simp only [spec_GoodRow.t2, ix_lt, Nat.lt_irrefl, decide_false, cond_false]
    congr 1
    exact bool_eq (by simp only [decide_eq_true_eq]; omega)
  · intro i hi hb
    exact spec_GoodRow.eq2 _ _ _ _ (by simp only [spec_GoodRow.t2, ix_lt, ix_nn, ix_nat, dec_t hi, cond_true, spec_l1In_eq, Option.bind_some, hb, bang_f])
  · intro i c hi hb hc
    exact spec_GoodRow.eq2 _ _ _ _ (by simp only [spec_GoodRow.t2, ix_lt, ix_nn, ix_nat, dec_t hi, cond_true, cond_false, spec_l1In_eq, Option.bind_some, hb, bang_t, wrap_succ (show i < 9223372036854775807 by omega)]; exact hc)
theorem impl_isCell_eq (x : Int) : impl_isCell x = some (inB (-100000) 100000 x) := impl_isCell.eq x (by simp only [impl_isCell.t, impl_within_eq, Option.bind_some])
theorem impl_GoodRow_eq (r : List Int) (hl : r.length ≤ 1073741824) : impl_GoodRow r = some (goodR r) := by
  refine impl_GoodRow.eq r ?_
  simp only [impl_GoodRow.t, impl_areAll_int_impl_isCell_ok r (inB (-100000) 100000) (by omega) (fun x _ => impl_isCell_eq x), Option.bind_some, goodR]
  by_cases h : r.length ≤ 6
  · have : (r.length : Int) ≤ 6 := by omega
    simp only [dec_t h, dec_t this, cond_true, Bool.and_true]
  · have : ¬ (r.length : Int) ≤ 6 := by omega
    simp only [dec_f h, dec_f this, cond_false, Bool.and_false]
theorem cmpL_drop {a b : List Int} {i : Nat} (ha : i < a.length) (hb : i < b.length) : cmpL (a.drop i) (b.drop i) = if a.getD i 0 < b.getD i 0 then -1 else if a.getD i 0 > b.getD i 0 then 1 else cmpL (a.drop (i + 1)) (b.drop (i + 1)) := by
  rw [drop_getD 0 ha, drop_getD 0 hb]
  rfl
theorem cmpL_end {a b : List Int} {i : Nat} (ha : i ≤ a.length) (hb : i ≤ b.length) (h : i = a.length ∨ i = b.length) : cmpL (a.drop i) (b.drop i) = if a.length < b.length then -1 else if a.length > b.length then 1 else 0 := by
  rcases h with h | h
  · by_cases e : i < b.length
    · rw [h, List.drop_length, drop_getD 0 (by omega : a.length < b.length), if_pos (by omega)]
      rfl
    · have e1 : a.drop i = [] := by rw [h, List.drop_length]
      have e2 : b.drop i = [] := by rw [List.drop_eq_nil_iff]; omega
      rw [e1, e2, if_neg (by omega), if_neg (by omega)]
      rfl
  · by_cases e : i < a.length
    · rw [h, List.drop_length, drop_getD 0 (by omega : b.length < a.length), if_neg (by omega), if_pos (by omega)]
      rfl
    · have e1 : b.drop i = [] := by rw [h, List.drop_length]
      have e2 : a.drop i = [] := by rw [List.drop_eq_nil_iff]; omega
      rw [e1, e2, if_neg (by omega), if_neg (by omega)]
      rfl
theorem spec_l1Compare_eq (a b : List Int) (ha : a.length ≤ 1073741824) (hb : b.length ≤ 1073741824) : spec_l1Compare a b = some (cmpL a b) := by
  have key : ∀ i, i ≤ min a.length b.length → spec_l1Compare.l2 a b (i : Int) = some (cmpL (a.drop i) (b.drop i)) := by
    refine upto ?_ ?_
    · refine spec_l1Compare.eq2 _ _ _ ?_
      rw [cmpL_end (by omega) (by omega) (by omega)]
      have hlt : decide ((a.length : Int) < (b.length : Int)) = decide (a.length < b.length) := ix_lt _ _
      have hgt : decide ((a.length : Int) > (b.length : Int)) = decide (b.length < a.length) := ix_lt _ _
      simp only [spec_l1Compare.t2, ix_lt, hgt]
      by_cases h1 : a.length < b.length
      · have h2 : ¬ min a.length b.length < a.length := by omega
        simp only [dec_f h2, dec_t h1, cond_false, cond_true, if_pos h1]
      · have h2 : ¬ min a.length b.length < b.length := by omega
        by_cases h3 : b.length < a.length
        · have h4 : min a.length b.length < a.length := by omega
          have h5 : a.length > b.length := h3
          simp only [dec_t h4, dec_f h2, dec_f h1, dec_t h3, cond_false, cond_true, if_neg h1, if_pos h5]
        · have h4 : ¬ min a.length b.length < a.length := by omega
          have h5 : ¬ a.length > b.length := h3
          simp only [dec_f h4, dec_f h1, dec_f h3, cond_false, if_neg h1, if_neg h5]
    · intro i hi ih
      have h1 : i < a.length := by omega
      have h2 : i < b.length := by omega
      refine spec_l1Compare.eq2 _ _ _ ?_
      rw [cmpL_drop h1 h2]
      simp only [spec_l1Compare.t2, ix_lt, ix_nn, ix_nat, dec_t h1, dec_t h2, cond_true, wrap_succ (show i < 9223372036854775807 by omega), ih]
      by_cases h3 : a.getD i 0 < b.getD i 0
      · simp only [dec_t h3, cond_true, if_pos h3]
      · by_cases h4 : a.getD i 0 > b.getD i 0
        · simp only [dec_f h3, dec_t h4, cond_true, cond_false, if_neg h3, if_pos h4]
        · simp only [dec_f h3, dec_f h4, cond_false, if_neg h3, if_neg h4]
  exact spec_l1Compare.eq a b (by simp only [spec_l1Compare.t]; exact key 0 (Nat.zero_le _))
theorem cmp_Compare_int_eq (x y : Int) : cmp_Compare_int x y = some (if x < y then -1 else if x > y then 1 else 0) := by
  have e : ∀ z : Int, cmp_isNaN_int z = some false := fun z => cmp_isNaN_int.eq z (by simp only [cmp_isNaN_int.t, bne_ref])
  refine cmp_Compare_int.eq x y ?_
  simp only [cmp_Compare_int.t, e, Option.bind_some, cond_false]
  by_cases h3 : x < y
  · simp only [dec_t h3, cond_true, if_pos h3]
  · by_cases h4 : x > y
    · simp only [dec_f h3, dec_t h4, cond_true, cond_false, if_neg h3, if_pos h4]
    · simp only [dec_f h3, dec_f h4, cond_false, if_neg h3, if_neg h4]
theorem slices_Compare_int_int_eq (a b : List Int) (ha : a.length ≤ 1073741824) (hb : b.length ≤ 1073741824) : slices_Compare_int_int a b = some (cmpL a b) := by
  have stop : ∀ i, i ≤ a.length → b.length ≤ i → i = b.length → slices_Compare_int_int.l2 a b a (a.length : Int) (i : Int) = some (cmpL (a.drop i) (b.drop i)) := by
    intro i hi hbi hib
    refine slices_Compare_int_int.eq2 _ _ _ _ _ ?_
    rw [cmpL_end hi (by omega) (.inr hib)]
    have hge : decide ((i : Int) ≥ (b.length : Int)) = true := dec_t (by omega)
    by_cases h1 : i < a.length
    · have h2 : ¬ a.length < b.length := by omega
      have h3 : a.length > b.length := by omega
      simp only [slices_Compare_int_int.t2, ix_lt, ix_nn, ix_nat, dec_t h1, cond_true, hge, if_neg h2, if_pos h3]
    · have h2 : ¬ a.length < b.length := by omega
      have h3 : ¬ a.length > b.length := by omega
      simp only [slices_Compare_int_int.t2, ix_lt, dec_f h1, dec_f h2, cond_false, if_neg h2, if_neg h3]
  have key : ∀ i, i ≤ min a.length b.length → slices_Compare_int_int.l2 a b a (a.length : Int) (i : Int) = some (cmpL (a.drop i) (b.drop i)) := by
    refine upto ?_ ?_
    · by_cases hc : b.length ≤ a.length
      · exact stop _ (by omega) (by omega) (by omega)
      · have e : min a.length b.length = a.length := by omega
        rw [e]
        refine slices_Compare_int_int.eq2 _ _ _ _ _ ?_
        rw [cmpL_end (Nat.le_refl _) (by omega) (.inl rfl)]
        have h1 : a.length < b.length := by omega
        simp only [slices_Compare_int_int.t2, ix_lt, Nat.lt_irrefl, decide_false, cond_false, dec_t h1, cond_true, if_pos h1]
    · intro i hi ih
      have h1 : i < a.length := by omega
      have h2 : i < b.length := by omega
      have h2' : ¬ (i : Int) ≥ (b.length : Int) := by omega
      refine slices_Compare_int_int.eq2 _ _ _ _ _ ?_
      rw [cmpL_drop h1 h2]
      simp only [slices_Compare_int_int.t2, ix_lt, ix_nn, ix_nat, dec_t h1, dec_t h2, dec_f h2', cond_true, cond_false, cmp_Compare_int_eq, Option.bind_some, wrap_succ (show i < 9223372036854775807 by omega), ih]
      by_cases h3 : a.getD i 0 < b.getD i 0
      · simp only [if_pos h3]; rfl
      · by_cases h4 : a.getD i 0 > b.getD i 0
        · simp only [if_neg h3, if_pos h4]; rfl
        · simp only [if_neg h3, if_neg h4, bne_ref, cond_false]
  exact slices_Compare_int_int.eq a b (by simp only [slices_Compare_int_int.t]; exact key 0 (Nat.zero_le _))
theorem impl_compareRows_eq (a b : List Int) (ha : a.length ≤ 1073741824) (hb : b.length ≤ 1073741824) : impl_compareRows a b = some (cmpL a b) :=
  impl_compareRows.eq a b (by simp only [impl_compareRows.t, slices_Compare_int_int_eq a b ha hb, Option.bind_some])
/-! ## Tables -/
theorem spec_l2Weight_eq (n : Int) : spec_l2Weight n = some (inB (-1000000) 1000000 n) := spec_l2Weight.eq n (by simp only [spec_l2Weight.t, spec_l1In_eq, Option.bind_some])
theorem impl_isWeight_eq (n : Int) : impl_isWeight n = some (inB (-1000000) 1000000 n) := impl_isWeight.eq n (by simp only [impl_isWeight.t, impl_within_eq, Option.bind_some])
theorem impl_isColumns_eq (n : Int) : impl_isColumns n = some (inB 0 6 n) := impl_isColumns.eq n (by simp only [impl_isColumns.t, impl_within_eq, Option.bind_some])
theorem impl_isRowOf_eq (r : List Int) (c : Int) (hl : r.length ≤ 1073741824) : impl_isRowOf r c = some (goodR r && ((r.length : Int) == c)) := by
  refine impl_isRowOf.eq r c ?_
  simp only [impl_isRowOf.t, impl_GoodRow_eq r hl, Option.bind_some]
  cases goodR r <;> rfl
theorem tabB_split (c : Int) (l : List WRow) (i : Nat) : tabB c l i = (goodR (l.getD i ([], 0)).1 && (((l.getD i ([], 0)).1.length : Int) == c) && inB (-1000000) 1000000 (l.getD i ([], 0)).2 && !((l.getD i ([], 0)).2 == 0) && (decide (i = 0) || decide (cmpL (l.getD (i - 1) ([], 0)).1 (l.getD i ([], 0)).1 < 0))) := by
  simp only [tabB, rowB, goodW]
  refine bool_eq ?_
  simp only [Bool.and_eq_true, decide_eq_true_eq, beq_iff_eq, Bool.not_eq_true', beq_eq_false_iff_ne, ne_eq, and_assoc]
section
variable {c : Int} {l : List WRow} (hl : l.length ≤ 1073741824) (hr : ∀ w, w ∈ l → w.1.length ≤ 1073741824)
include hl hr
theorem spec_GoodTable_eq : spec_GoodTable c l = some (goodT c l) := by
  have key : ∀ i, i ≤ l.length → spec_GoodTable.l2 c l l (l.length : Int) (i : Int) = some (allR (tabB c l) i l.length && (inB 0 6 c && decide (l.length ≤ 60))) := by
    refine upto ?_ ?_
    · refine spec_GoodTable.eq2 _ _ _ _ _ ?_
      simp only [spec_GoodTable.t2, ix_lt, Nat.lt_irrefl, decide_false, cond_false, spec_l1In_eq, Option.bind_some, allR_end, Bool.true_and]
      have : decide ((l.length : Int) ≤ 60) = decide (l.length ≤ 60) := bool_eq (by simp only [decide_eq_true_eq]; omega)
      rw [this]
      cases inB 0 6 c <;> rfl
    · intro i hi ih
      have h1 := hr _ (getD_mem ([], 0) hi)
      refine spec_GoodTable.eq2 _ _ _ _ _ ?_
      rw [allR_step _ hi, tabB_split]
      simp only [spec_GoodTable.t2, ix_lt, ix_nn, ix_nat, dec_t hi, cond_true, spec_GoodRow_eq _ h1, spec_l2Weight_eq, Option.bind_some, wrap_succ (show i < 9223372036854775807 by omega), ih, bne]
      cases goodR (l.getD i ([], 0)).1
      · rfl
      · cases ((l.getD i ([], 0)).1.length : Int) == c
        · rfl
        · cases inB (-1000000) 1000000 (l.getD i ([], 0)).2
          · rfl
          · cases (l.getD i ([], 0)).2 == 0
            · by_cases h0 : i = 0
              · subst h0; simp
              · have h2 : 0 < i := by omega
                have h3 : i - 1 < l.length := by omega
                have h4 : (i : Int) > 0 := by omega
                have h5 := hr _ (getD_mem ([], 0) h3)
                simp only [dec_t h4, dec_f h0, bang_t, bang_f, cond_true, cond_false, wrap_pred h2 (by omega), ix_nn, ix_nat, dec_t h3, spec_l1Compare_eq _ _ h5 h1, Option.bind_some, Bool.true_and, Bool.false_or]
                by_cases h6 : cmpL (l.getD (i - 1) ([], 0)).1 (l.getD i ([], 0)).1 ≥ 0
                · have h7 : ¬ cmpL (l.getD (i - 1) ([], 0)).1 (l.getD i ([], 0)).1 < 0 := by omega
                  simp only [dec_t h6, dec_f h7, cond_true, Bool.false_and]
                · have h7 : cmpL (l.getD (i - 1) ([], 0)).1 (l.getD i ([], 0)).1 < 0 := by omega
                  simp only [dec_f h6, dec_t h7, cond_false, Bool.true_and]
            · rfl
  exact spec_GoodTable.eq c l (by simp only [spec_GoodTable.t]; exact key 0 (Nat.zero_le _))
theorem impl_GoodTable_eq : impl_GoodTable c l = some (goodT c l) := by
  have key : ∀ i, i ≤ l.length → impl_GoodTable.l4 c l l (l.length : Int) (i : Int) = some (allR (tabB c l) i l.length) := by
    refine upto ?_ ?_
    · exact impl_GoodTable.eq4 _ _ _ _ _ (by simp only [impl_GoodTable.t4, ix_lt, Nat.lt_irrefl, decide_false, cond_false, allR_end])
    · intro i hi ih
      have h1 := hr _ (getD_mem ([], 0) hi)
      refine impl_GoodTable.eq4 _ _ _ _ _ ?_
      rw [allR_step _ hi, tabB_split]
      simp only [impl_GoodTable.t4, ix_lt, ix_nn, ix_nat, dec_t hi, cond_true, impl_isRowOf_eq _ _ h1, impl_isWeight_eq, Option.bind_some, wrap_succ (show i < 9223372036854775807 by omega), ih]
      cases goodR (l.getD i ([], 0)).1
      · rfl
      · cases ((l.getD i ([], 0)).1.length : Int) == c
        · rfl
        · cases inB (-1000000) 1000000 (l.getD i ([], 0)).2
          · rfl
          · cases (l.getD i ([], 0)).2 == 0
            · by_cases h0 : i = 0
              · subst h0; simp
              · have h2 : 0 < i := by omega
                have h3 : i - 1 < l.length := by omega
                have h4 : (i : Int) > 0 := by omega
                have h5 := hr _ (getD_mem ([], 0) h3)
                simp only [dec_t h4, dec_f h0, bang_t, bang_f, cond_true, cond_false, wrap_pred h2 (by omega), ix_nn, ix_nat, dec_t h3, impl_compareRows_eq _ _ h5 h1, Option.bind_some, Bool.true_and, Bool.false_or]
                by_cases h6 : cmpL (l.getD (i - 1) ([], 0)).1 (l.getD i ([], 0)).1 ≥ 0
                · have h7 : ¬ cmpL (l.getD (i - 1) ([], 0)).1 (l.getD i ([], 0)).1 < 0 := by omega
                  simp only [dec_t h6, dec_f h7, cond_true, Bool.false_and]
                · have h7 : cmpL (l.getD (i - 1) ([], 0)).1 (l.getD i ([], 0)).1 < 0 := by omega
                  simp only [dec_f h6, dec_t h7, cond_false, Bool.true_and]
            · rfl
  refine impl_GoodTable.eq c l ?_
  simp only [impl_GoodTable.t, impl_isColumns_eq, Option.bind_some, goodT]
  cases inB 0 6 c
  · simp
  · by_cases h : l.length ≤ 60
    · have h' : ¬ (l.length : Int) > 60 := by omega
      simp only [dec_f h', dec_t h, bang_t, cond_false, Bool.and_true]
      exact key 0 (Nat.zero_le _)
    · have h' : (l.length : Int) > 60 := by omega
      simp only [dec_t h', dec_f h, bang_t, cond_false, cond_true, Bool.and_false]
end
/-! ## A table told anew -/
theorem spec_l2OwnRow_eq (r : List Int) (hl : r.length ≤ 1073741824) : spec_l2OwnRow r = some r := by
  refine spec_l2OwnRow.eq r ?_
  have : ([] : List Int).length + r.length ≤ 4294967296 := by simp; omega
  simp only [spec_l2OwnRow.t, dec_t this, cond_true, List.nil_append]
theorem spec_l2Tell_eq (c : Int) (l : List WRow) (hl : l.length ≤ 1073741824) (hr : ∀ w, w ∈ l → w.1.length ≤ 1073741824) : spec_l2Tell c l = some (bif goodT c l then (c, l, true) else (0, [], false)) := by
  have key : ∀ (rest pre : List WRow), l = pre ++ rest → spec_l2Tell.l3 0 [] c pre l (l.length : Int) (pre.length : Int) = some (bif goodT c l then (c, l, true) else (0, [], false)) := by
    intro rest
    induction rest with
    | nil =>
      intro pre hp
      have e : pre = l := by rw [hp]; simp
      subst e
      refine spec_l2Tell.eq3 _ _ _ _ _ _ _ ?_
      simp only [spec_l2Tell.t3, ix_lt, Nat.lt_irrefl, decide_false, cond_false, spec_GoodTable_eq hl hr, Option.bind_some]
      cases goodT c pre <;> rfl
    | cons w r ih =>
      intro pre hp
      have hi : pre.length < l.length := by rw [hp]; simp
      have hg : l.getD pre.length ([], 0) = w := by rw [hp]; exact getD_mid pre r w _
      have hw := hr w (by rw [hp]; simp)
      have hb : pre.length + [(w.1, w.2)].length ≤ 4294967296 := by simp only [List.length_cons, List.length_nil]; omega
      refine spec_l2Tell.eq3 _ _ _ _ _ _ _ ?_
      simp only [spec_l2Tell.t3, ix_lt, ix_nn, ix_nat, dec_t hi, cond_true, hg, spec_l2OwnRow_eq _ hw, Option.bind_some, dec_t hb, wrap_succ (show pre.length < 9223372036854775807 by omega)]
      have := ih (pre ++ [w]) (by rw [hp]; simp)
      rw [List.length_append, List.length_singleton] at this
      exact this
  exact spec_l2Tell.eq c l (by simp only [spec_l2Tell.t]; exact key l [] rfl)
end GoV

/- Tables with all weights times a number, and tables handed on if they are good. -/
namespace GoV
open Go
theorem slices_Clone_int_int_eq (r : List Int) (hl : r.length ≤ 1073741824) : slices_Clone_int_int r = some r := by
  refine slices_Clone_int_int.eq r ?_
  have : r.length ≤ 4294967296 := by omega
  simp only [slices_Clone_int_int.t, dec_t this, cond_true]
theorem impl_Row_own_eq (r : List Int) (hl : r.length ≤ 1073741824) : impl_Row_own r = some r := impl_Row_own.eq r (by simp only [impl_Row_own.t, slices_Clone_int_int_eq r hl, Option.bind_some])
end GoV

/- Tables kept with other weights (printed by wip/tools/lawgen.py). -/
namespace GoV
open Go
theorem impl_Table_kept_impl_ExceptTables_1_ok (v0 : Int) (v1 : List (List Int × Int)) (v2 : Int) (v3 : List (List Int × Int)) (f : WRow → Int) (hl : v1.length ≤ 1073741824) (hr : ∀ w, w ∈ v1 → w.1.length ≤ 1073741824) (hf : ∀ w, w ∈ v1 → impl_ExceptTables_1 (w.fst) (w.snd) (v2) (v3) = some (f w)) : impl_Table_kept_impl_ExceptTables_1 v0 v1 v2 v3 = some (v0, keptL f v1) := by
  refine impl_Table_kept_impl_ExceptTables_1.eq v0 v1 v2 v3 ?_
  simp only [impl_Table_kept_impl_ExceptTables_1.t]
  refine push_loop v1 ([], 0) (fun acc i => impl_Table_kept_impl_ExceptTables_1.l3 (v2) (v3) ((0 : Int)) ([]) (v0) acc (v1) ((↑v1.length : Int)) (i : Int)) (keptG f) (keptG_len f) (fun acc => some (v0, acc)) ?_ ?_ _ rfl
  · intro acc b _ hb
    exact impl_Table_kept_impl_ExceptTables_1.eq3 _ _ _ _ _ _ _ _ _ (by simp only [impl_Table_kept_impl_ExceptTables_1.t3, ix_lt, Nat.lt_irrefl, decide_false, cond_false]; exact hb)
  · intro acc i b hi ha hb
    have hmem := getD_mem (([], 0) : WRow) hi
    have hw := hr _ hmem
    have hc := hf _ hmem
    refine impl_Table_kept_impl_ExceptTables_1.eq3 _ _ _ _ _ _ _ _ _ ?_
    simp only [impl_Table_kept_impl_ExceptTables_1.t3, ix_lt, ix_nn, ix_nat, dec_t hi, cond_true, hc, Option.bind_some, wrap_succ (show i < 9223372036854775807 by omega)]
    simp only [keptG] at hb
    by_cases h0 : f (v1.getD i ([], 0)) = 0
    · rw [if_pos h0, List.append_nil] at hb
      have : (f (v1.getD i ([], 0)) != 0) = false := by rw [h0]; exact bne_ref _
      simp only [this, cond_false]
      exact hb
    · rw [if_neg h0] at hb
      have h1 : (f (v1.getD i ([], 0)) != 0) = true := bne_iff_ne.2 h0
      have h2 : acc.length + [((v1.getD i ([], 0)).1, f (v1.getD i ([], 0)))].length ≤ 4294967296 := by simp only [List.length_cons, List.length_nil]; omega
      simp only [h1, impl_Row_own_eq _ hw, Option.bind_some, dec_t h2, cond_true]
      exact hb
end GoV

/- Rows once each. -/
namespace GoV
open Go
def oneP (n : Int) : Int := if n > 0 then 1 else 0
theorem impl_one_eq (n : Int) : impl_one n = some (oneP n) := by
  refine impl_one.eq n ?_
  simp only [impl_one.t, oneP]
  by_cases h : n > 0
  · simp only [dec_t h, cond_true, if_pos h]
  · simp only [dec_f h, cond_false, if_neg h]
theorem spec_l3Distinct_eq (l : List WRow) (hl : l.length ≤ 1073741824) : spec_l3Distinct l = some (keptL (fun w => oneP w.2) l) := by
  refine spec_l3Distinct.eq l ?_
  simp only [spec_l3Distinct.t]
  refine push_loop l ([], 0) (fun acc i => spec_l3Distinct.l3 acc l (l.length : Int) (i : Int)) (keptG fun w => oneP w.2) (keptG_len _) some ?_ ?_ _ rfl
  · intro acc b _ hb
    exact spec_l3Distinct.eq3 _ _ _ _ (by simp only [spec_l3Distinct.t3, ix_lt, Nat.lt_irrefl, decide_false, cond_false]; exact hb)
  · intro acc i b hi ha hb
    refine spec_l3Distinct.eq3 _ _ _ _ ?_
    simp only [spec_l3Distinct.t3, ix_lt, ix_nn, ix_nat, dec_t hi, cond_true, wrap_succ (show i < 9223372036854775807 by omega)]
    by_cases h0 : (l.getD i ([], 0)).2 > 0
    · rw [keptG_some (v := 1) (if_pos h0) (by omega)] at hb
      have h2 : acc.length + [((l.getD i ([], 0)).1, (1 : Int))].length ≤ 4294967296 := by simp only [List.length_cons, List.length_nil]; omega
      simp only [dec_t h0, dec_t h2, cond_true]
      exact hb
    · rw [keptG_zero (if_neg h0), List.append_nil] at hb
      simp only [dec_f h0, cond_false]
      exact hb
theorem goodT_distinct {c : Int} {l : List WRow} (h : goodT c l = true) : goodT c (keptL (fun w => oneP w.2) l) = true := goodT_kept h fun w _ => by
  simp only [oneP]
  split <;> omega
end GoV

/- The weight of a row: by binary search, and one by one. -/
namespace GoV
open Go
def weightP (l : List WRow) (r : List Int) : Int := match l.find? (fun w => cmpL w.1 r == 0) with | some w => w.2 | none => 0
theorem spec_l2Of_eq (c : Int) (l : List WRow) (r : List Int) (hl : l.length ≤ 1073741824) (hr : ∀ w, w ∈ l → w.1.length ≤ 1073741824) (hx : r.length ≤ 1073741824) : spec_l2Of c l r = some (weightP l r) := by
  have key : ∀ i, i ≤ l.length → spec_l2Of.l2 r l (l.length : Int) (i : Int) = some (weightP (l.drop i) r) := by
    refine upto ?_ ?_
    · exact spec_l2Of.eq2 _ _ _ _ (by simp only [spec_l2Of.t2, ix_lt, Nat.lt_irrefl, decide_false, cond_false, List.drop_length]; rfl)
    · intro i hi ih
      have h1 := hr _ (getD_mem ([], 0) hi)
      refine spec_l2Of.eq2 _ _ _ _ ?_
      rw [drop_getD ([], 0) hi]
      simp only [spec_l2Of.t2, ix_lt, ix_nn, ix_nat, dec_t hi, cond_true, spec_l1Compare_eq _ _ h1 hx, Option.bind_some, wrap_succ (show i < 9223372036854775807 by omega), ih, weightP, List.find?_cons]
      cases cmpL (l.getD i ([], 0)).1 r == 0 <;> rfl
  exact spec_l2Of.eq c l r (by simp only [spec_l2Of.t]; exact key 0 (Nat.zero_le _))
/-- The middle of two numbers, as Go reckons it. -/
theorem mid_nat (i j : Nat) (h : i + j < 4611686018427387904) : IntKind.i64.wrap ((IntKind.u64.wrap (IntKind.i64.wrap ((i : Int) + (j : Int)))).fdiv ((2 : Int) ^ Min.min (Int.toNat (1 : Int)) IntKind.u64.bits)) = (((i + j) / 2 : Nat) : Int) := by
  have e1 : IntKind.i64.wrap ((i : Int) + (j : Int)) = ((i + j : Nat) : Int) := by rw [wrap_id] <;> omega
  have e2 : IntKind.u64.wrap ((i + j : Nat) : Int) = ((i + j : Nat) : Int) := by
    have : IntKind.u64.wrap ((i + j : Nat) : Int) = ((i + j : Nat) : Int) % 18446744073709551616 := by simp [IntKind.wrap, IntKind.bits, IntKind.signed]
    rw [this]
    omega
  have e3 : Min.min (Int.toNat (1 : Int)) IntKind.u64.bits = 1 := rfl
  rw [e1, e2, e3, Int.pow_one, Int.fdiv_eq_ediv_of_nonneg _ (by omega)]
  rw [wrap_id] <;> omega
theorem impl_Table_weightOf_1_eq (a : List Int) (n : Int) (r : List Int) (ha : a.length ≤ 1073741824) (hx : r.length ≤ 1073741824) : impl_Table_weightOf_1 a n r = some (cmpL a r) :=
  impl_Table_weightOf_1.eq a n r (by simp only [impl_Table_weightOf_1.t, impl_compareRows_eq _ _ ha hx, Option.bind_some])
section
variable {l : List WRow} {r : List Int} (hl : l.length ≤ 1073741824) (hr : ∀ w, w ∈ l → w.1.length ≤ 1073741824) (hx : r.length ≤ 1073741824) (hs : sortedW l)
include hl hr hx hs
theorem search_ok : ∀ (d i j : Nat), j - i = d → i ≤ j → j ≤ l.length → (∀ k, k < i → cmpL (l.getD k ([], 0)).1 r < 0) → (∀ k, j ≤ k → k < l.length → 0 ≤ cmpL (l.getD k ([], 0)).1 r) →
    ∃ k : Nat, slices_BinarySearchFunc_impl_Weighted_impl_Weighted_impl_Row_impl_Table_weightOf_1.l3 l r (l.length : Int) (i : Int) (j : Int) = some ((k : Int), decide (k < l.length) && (cmpL (l.getD k ([], 0)).1 r == 0)) ∧
      (∀ q, q < k → cmpL (l.getD q ([], 0)).1 r < 0) ∧ ∀ q, k ≤ q → q < l.length → 0 ≤ cmpL (l.getD q ([], 0)).1 r := by
  intro d
  induction d using Nat.strongRecOn with
  | ind d ih =>
    intro i j hd hij hj hlo hhi
    by_cases h : i < j
    · have hm := mid_nat i j (by omega)
      have h1 : (i + j) / 2 < l.length := by omega
      have hw := hr _ (getD_mem ([], 0) h1)
      have hsucc : IntKind.i64.wrap ((((i + j) / 2 : Nat) : Int) + 1) = (((i + j) / 2 + 1 : Nat) : Int) := wrap_succ (by omega)
      by_cases hc : cmpL (l.getD ((i + j) / 2) ([], 0)).1 r < 0
      · obtain ⟨k, g1, g2, g3⟩ := ih (j - ((i + j) / 2 + 1)) (by omega) ((i + j) / 2 + 1) j rfl (by omega) hj (fun q hq => by
          by_cases e : q = (i + j) / 2
          · rw [e]; exact hc
          · have hp : ltR (l.getD q ([], 0)).1 (l.getD ((i + j) / 2) ([], 0)).1 := by
              rw [getD_of_lt h1, getD_of_lt (by omega : q < l.length)]
              exact List.pairwise_iff_getElem.1 hs _ _ (by omega) h1 (by omega)
            exact ltR_trans hp hc) hhi
        refine ⟨k, ?_, g2, g3⟩
        refine slices_BinarySearchFunc_impl_Weighted_impl_Weighted_impl_Row_impl_Table_weightOf_1.eq3 _ _ _ _ _ ?_
        simp only [slices_BinarySearchFunc_impl_Weighted_impl_Weighted_impl_Row_impl_Table_weightOf_1.t3, ix_lt, dec_t h, cond_true, hm, ix_nn, ix_nat, dec_t h1, impl_Table_weightOf_1_eq _ _ _ hw hx, Option.bind_some, dec_t hc, hsucc]
        exact g1
      · obtain ⟨k, g1, g2, g3⟩ := ih ((i + j) / 2 - i) (by omega) i ((i + j) / 2) rfl (by omega) (by omega) hlo (fun q hq hq2 => by
          by_cases e : q = (i + j) / 2
          · rw [e]; omega
          · have hp : ltR (l.getD ((i + j) / 2) ([], 0)).1 (l.getD q ([], 0)).1 := by
              rw [getD_of_lt h1, getD_of_lt hq2]
              exact List.pairwise_iff_getElem.1 hs _ _ h1 hq2 (by omega)
            rcases cmpL_cases (l.getD q ([], 0)).1 r with h2 | h2 | h2
            · exact absurd (ltR_trans hp (show ltR _ r by simp only [ltR]; omega)) hc
            · omega
            · omega)
        refine ⟨k, ?_, g2, g3⟩
        refine slices_BinarySearchFunc_impl_Weighted_impl_Weighted_impl_Row_impl_Table_weightOf_1.eq3 _ _ _ _ _ ?_
        simp only [slices_BinarySearchFunc_impl_Weighted_impl_Weighted_impl_Row_impl_Table_weightOf_1.t3, ix_lt, dec_t h, cond_true, hm, ix_nn, ix_nat, dec_t h1, impl_Table_weightOf_1_eq _ _ _ hw hx, Option.bind_some, dec_f hc, cond_false]
        exact g1
    · have e : i = j := by omega
      subst e
      refine ⟨i, ?_, hlo, hhi⟩
      refine slices_BinarySearchFunc_impl_Weighted_impl_Weighted_impl_Row_impl_Table_weightOf_1.eq3 _ _ _ _ _ ?_
      by_cases h1 : i < l.length
      · have hw := hr _ (getD_mem ([], 0) h1)
        simp only [slices_BinarySearchFunc_impl_Weighted_impl_Weighted_impl_Row_impl_Table_weightOf_1.t3, ix_lt, Nat.lt_irrefl, decide_false, cond_false, dec_t h1, cond_true, ix_nn, ix_nat, impl_Table_weightOf_1_eq _ _ _ hw hx, Option.bind_some, Bool.true_and]
      · simp only [slices_BinarySearchFunc_impl_Weighted_impl_Weighted_impl_Row_impl_Table_weightOf_1.t3, ix_lt, Nat.lt_irrefl, decide_false, cond_false, dec_f h1, Bool.false_and]
theorem impl_Table_weightOf_eq (c : Int) : impl_Table_weightOf c l r = some (weightP l r) := by
  obtain ⟨k, g1, g2, g3⟩ := search_ok hl hr hx hs l.length 0 l.length (by omega) (by omega) (Nat.le_refl _) (fun k hk => by omega) (fun k h1 h2 => by omega)
  have hb : slices_BinarySearchFunc_impl_Weighted_impl_Weighted_impl_Row_impl_Table_weightOf_1 l r = some ((k : Int), decide (k < l.length) && (cmpL (l.getD k ([], 0)).1 r == 0)) :=
    slices_BinarySearchFunc_impl_Weighted_impl_Weighted_impl_Row_impl_Table_weightOf_1.eq l r (by simp only [slices_BinarySearchFunc_impl_Weighted_impl_Weighted_impl_Row_impl_Table_weightOf_1.t]; exact g1)
  refine impl_Table_weightOf.eq c l r ?_
  simp only [impl_Table_weightOf.t, hb, Option.bind_some]
  cases hf : (decide (k < l.length) && (cmpL (l.getD k ([], 0)).1 r == 0)) with
  | true =>
    simp only [Bool.and_eq_true, decide_eq_true_eq, beq_iff_eq] at hf
    simp only [bang_t, cond_false, ix_nn, ix_nat, dec_t hf.1, cond_true]
    congr 1
    have hfind : l.find? (fun w => cmpL w.1 r == 0) = some (l.getD k ([], 0)) := by
      rw [List.find?_eq_some_iff_getElem]
      refine ⟨by simpa using hf.2, k, hf.1, (getD_of_lt hf.1).symm, fun q hq => ?_⟩
      have := g2 q hq
      rw [getD_of_lt (by omega : q < l.length)] at this
      have : ¬ cmpL l[q].1 r = 0 := by omega
      simpa using this
    simp only [weightP, hfind]
  | false =>
    simp only [bang_f, cond_true]
    congr 1
    have hfind : l.find? (fun w => cmpL w.1 r == 0) = none := by
      rw [List.find?_eq_none]
      intro w hw
      obtain ⟨q, hq, rfl⟩ := List.mem_iff_getElem.1 hw
      have hne : ¬ cmpL l[q].1 r = 0 := by
        by_cases h1 : q < k
        · have := g2 q h1
          rw [getD_of_lt hq] at this
          omega
        · have hk : k < l.length := by omega
          simp only [dec_t hk, Bool.true_and, beq_eq_false_iff_ne, ne_eq] at hf
          have h3 := g3 k (Nat.le_refl _) hk
          by_cases e : q = k
          · subst e
            rw [getD_of_lt hq] at hf
            exact hf
          · intro h0
            have hp : ltR (l.getD k ([], 0)).1 l[q].1 := by
              rw [getD_of_lt hk]
              exact List.pairwise_iff_getElem.1 hs _ _ hk hq (by omega)
            have he := cmpL_eq h0
            rw [he] at hp
            simp only [ltR] at hp
            omega
      simpa using hne
    simp only [weightP, hfind]
end
end GoV

/- Rows of a table that are, or are not, in another one. -/
namespace GoV
open Go
def bothG (b : List WRow) (yes : Bool) (w : WRow) : List WRow := bif decide (weightP b w.1 > 0) == yes then [w] else []
theorem bothG_len (b : List WRow) (yes : Bool) (w : WRow) : (bothG b yes w).length ≤ 1 := by unfold bothG; cases decide (weightP b w.1 > 0) == yes <;> simp
def alikeB (c : Int) (a : List WRow) (d : Int) (b : List WRow) : Bool := goodT c a && (goodT d b && (c == d))
theorem impl_areAlike_eq (c : Int) (a : List WRow) (d : Int) (b : List WRow) (ha : a.length ≤ 1073741824) (hra : ∀ w, w ∈ a → w.1.length ≤ 1073741824) (hb : b.length ≤ 1073741824) (hrb : ∀ w, w ∈ b → w.1.length ≤ 1073741824) : impl_areAlike c a d b = some (alikeB c a d b) := by
  refine impl_areAlike.eq c a d b ?_
  simp only [impl_areAlike.t, impl_GoodTable_eq ha hra, impl_GoodTable_eq hb hrb, Option.bind_some, alikeB]
  cases goodT c a <;> cases goodT d b <;> rfl
theorem bothG_mem {b : List WRow} {yes : Bool} {l : List WRow} {w : WRow} (h : w ∈ l.flatMap (bothG b yes)) : w ∈ l := by
  simp only [List.mem_flatMap, bothG] at h
  obtain ⟨u, hu, hw⟩ := h
  cases e : decide (weightP b u.1 > 0) == yes with
  | true => rw [e] at hw; simp only [cond_true, List.mem_singleton] at hw; rw [hw]; exact hu
  | false => rw [e] at hw; cases hw
theorem spec_l3Both_eq (c : Int) (a : List WRow) (d : Int) (b : List WRow) (yes : Bool) (ha : a.length ≤ 1073741824) (hra : ∀ w, w ∈ a → w.1.length ≤ 1073741824) (hb : b.length ≤ 1073741824) (hrb : ∀ w, w ∈ b → w.1.length ≤ 1073741824)
    (hgood : alikeB c a d b = true → goodT c ((keptL (fun w => oneP w.2) a).flatMap (bothG b yes)) = true) :
    spec_l3Both c a d b yes = some (bif alikeB c a d b then (c, (keptL (fun w => oneP w.2) a).flatMap (bothG b yes), true) else (0, [], false)) := by
  refine spec_l3Both.eq c a d b yes ?_
  simp only [spec_l3Both.t, spec_GoodTable_eq ha hra, spec_GoodTable_eq hb hrb, Option.bind_some, alikeB]
  cases h1 : goodT c a with
  | false => rfl
  | true =>
    cases h2 : goodT d b with
    | false => rfl
    | true =>
      cases h3 : (c == d) with
      | false =>
        have : (c != d) = true := by rw [bne, h3]; rfl
        simp only [this, bang_t, cond_false, cond_true, Bool.and_false]
      | true =>
        have h3' : (c != d) = false := by rw [bne, h3]; rfl
        have hg := hgood (by simp only [alikeB, h1, h2, h3, Bool.and_self])
        simp only [h3', spec_l3Distinct_eq a ha, Option.bind_some, bang_t, cond_false, cond_true, Bool.and_self]
        have hkl := Nat.le_trans (keptL_len (fun w => oneP w.2) a) ha
        have hkr : ∀ w, w ∈ keptL (fun w => oneP w.2) a → w.1.length ≤ 1073741824 := fun w hw => by
          obtain ⟨u, hu, rfl, _⟩ := keptL_mem hw
          exact hra u hu
        generalize keptL (fun w => oneP w.2) a = m at hg hkl hkr
        have htell := spec_l2Tell_eq c (m.flatMap (bothG b yes)) (Nat.le_trans (flatMap_len (bothG_len b yes) m) hkl) (fun w hw => hkr w (bothG_mem hw))
        rw [hg] at htell
        refine push_loop m ([], 0) (fun acc i => spec_l3Both.l5 yes c a d b 0 [] acc m (m.length : Int) (i : Int)) (bothG b yes) (bothG_len b yes) (fun acc => (spec_l2Tell c acc).bind fun r => some (r.fst, r.snd.fst, r.snd.snd)) ?_ ?_ _ (by rw [htell]; rfl)
        · intro acc q _ hq
          exact spec_l3Both.eq5 _ _ _ _ _ _ _ _ _ _ _ (by simp only [spec_l3Both.t5, ix_lt, Nat.lt_irrefl, decide_false, cond_false]; exact hq)
        · intro acc i q hi hacc hq
          have hmem := getD_mem (([], 0) : WRow) hi
          have hw := hkr _ hmem
          refine spec_l3Both.eq5 _ _ _ _ _ _ _ _ _ _ _ ?_
          simp only [spec_l3Both.t5, ix_lt, ix_nn, ix_nat, dec_t hi, cond_true, spec_l2Of_eq d b _ hb hrb hw, Option.bind_some, wrap_succ (show i < 9223372036854775807 by omega)]
          unfold bothG at hq
          cases e : decide (weightP b (m.getD i ([], 0)).1 > 0) == yes with
          | true =>
            rw [e] at hq
            have h2 : acc.length + [((m.getD i ([], 0)).1, (m.getD i ([], 0)).2)].length ≤ 4294967296 := by simp only [List.length_cons, List.length_nil]; omega
            simp only [dec_t h2, cond_true]
            exact hq
          | false =>
            rw [e] at hq
            simp only [cond_false, List.append_nil] at hq ⊢
            exact hq
/-- The rows kept by the product of two marks are those kept once that are as told in the other table. -/
theorem kept_both (b : List WRow) (yes : Bool) (f : WRow → Int) : ∀ l : List WRow, (∀ w, w ∈ l → f w = if w.2 > 0 then (bif decide (weightP b w.1 > 0) == yes then 1 else 0) else 0) → keptL f l = (keptL (fun w => oneP w.2) l).flatMap (bothG b yes)
  | [], _ => rfl
  | w :: l, h => by
    have ih := kept_both b yes f l fun x hx => h x (List.mem_cons_of_mem _ hx)
    have hw := h w List.mem_cons_self
    show keptG f w ++ keptL f l = (keptG (fun w => oneP w.2) w ++ keptL (fun w => oneP w.2) l).flatMap (bothG b yes)
    rw [List.flatMap_append, ← ih]
    congr 1
    by_cases h0 : w.2 > 0
    · rw [if_pos h0] at hw
      rw [keptG_some (f := fun w => oneP w.2) (v := 1) (if_pos h0) (by omega), List.flatMap_cons, List.flatMap_nil, List.append_nil]
      simp only [bothG]
      cases e : decide (weightP b w.1 > 0) == yes with
      | true =>
        rw [e] at hw
        exact keptG_some hw (by simp)
      | false =>
        rw [e] at hw
        exact keptG_zero hw
    · rw [if_neg h0] at hw
      rw [keptG_zero hw, keptG_zero (f := fun w => oneP w.2) (if_neg h0), List.flatMap_nil]
theorem goodT_both {c : Int} {a b : List WRow} {yes : Bool} (h : goodT c a = true) : goodT c ((keptL (fun w => oneP w.2) a).flatMap (bothG b yes)) = true := by
  rw [← kept_both b yes (fun w => if w.2 > 0 then (bif decide (weightP b w.1 > 0) == yes then 1 else 0) else 0) a fun w _ => rfl]
  refine goodT_kept h fun w _ => ?_
  split
  · cases decide (weightP b w.1 > 0) == yes <;> simp
  · omega
end GoV

/- ExceptTables: the program's answer is the specification's. -/
namespace GoV
open Go
theorem FnExactExceptTables_same (v0 : Int) (v1 : List (List Int × Int)) (v2 : Int) (v3 : List (List Int × Int)) (w0 : WfT (.pair (.int .i64) (.sl (.pair (.sl (.int .i64)) (.int .i64)))) (v0, v1)) (hz0 : szT (.pair (.int .i64) (.sl (.pair (.sl (.int .i64)) (.int .i64)))) (v0, v1) ≤ 1048576)
    (w1 : WfT (.pair (.int .i64) (.sl (.pair (.sl (.int .i64)) (.int .i64)))) (v2, v3)) (hz1 : szT (.pair (.int .i64) (.sl (.pair (.sl (.int .i64)) (.int .i64)))) (v2, v3) ≤ 1048576) :
    ∃ (a : Int) (b : List (List Int × Int)) (ok : Bool), spec_ExceptTables v0 v1 v2 v3 = some (a, b, ok) ∧ impl_ExceptTables v0 v1 v2 v3 = some (a, b, ok) ∧ szT (.pair (.int .i64) (.sl (.pair (.sl (.int .i64)) (.int .i64)))) (a, b) ≤ 1073741824 := by
  obtain ⟨h1, h2⟩ := tab_len hz0
  obtain ⟨h3, h4⟩ := tab_len hz1
  have hl : v1.length ≤ 1073741824 := by omega
  have hr : ∀ w, w ∈ v1 → w.1.length ≤ 1073741824 := fun w hw => by have := h2 w hw; omega
  have hl3 : v3.length ≤ 1073741824 := by omega
  have hr3 : ∀ w, w ∈ v3 → w.1.length ≤ 1073741824 := fun w hw => by have := h4 w hw; omega
  have hgood : alikeB v0 v1 v2 v3 = true → goodT v0 ((keptL (fun w => oneP w.2) v1).flatMap (bothG v3 false)) = true := fun h => by
    simp only [alikeB, Bool.and_eq_true] at h
    exact goodT_both h.1
  have e1 := spec_l3Both_eq v0 v1 v2 v3 false hl hr hl3 hr3 hgood
  have e2 := impl_areAlike_eq v0 v1 v2 v3 hl hr hl3 hr3
  cases hg : alikeB v0 v1 v2 v3 with
  | false =>
    rw [hg] at e1
    exact ⟨0, [], false, spec_ExceptTables.eq _ _ _ _ (by simp only [spec_ExceptTables.t, e1, Option.bind_some, cond_false]), impl_ExceptTables.eq _ _ _ _ (by simp only [impl_ExceptTables.t, e2, hg, Option.bind_some, bang_f, cond_true]), tab_none⟩
  | true =>
    rw [hg] at e1
    have hh := hg
    simp only [alikeB, Bool.and_eq_true] at hh
    have hs := (goodT_iff.1 hh.2.1).2.2.2
    have hf : ∀ w, w ∈ v1 → impl_ExceptTables_1 w.1 w.2 v2 v3 = some (if w.2 > 0 then (bif decide (weightP v3 w.1 > 0) == false then 1 else 0) else 0) := by
      intro w hw
      refine impl_ExceptTables_1.eq _ _ _ _ ?_
      simp only [impl_ExceptTables_1.t, impl_one_eq, impl_Table_weightOf_eq hl3 hr3 (hr w hw) hs v2, Option.bind_some, oneP]
      by_cases h5 : w.2 > 0
      · by_cases h6 : weightP v3 w.1 > 0
        · simp only [if_pos h5, if_pos h6, dec_t h6]; rfl
        · simp only [if_pos h5, if_neg h6, dec_f h6]; rfl
      · by_cases h6 : weightP v3 w.1 > 0
        · simp only [if_neg h5, if_pos h6]; rfl
        · simp only [if_neg h5, if_neg h6]; rfl
    have e3 := impl_Table_kept_impl_ExceptTables_1_ok v0 v1 v2 v3 _ hl hr hf
    rw [kept_both v3 false _ v1 (fun w _ => rfl)] at e3
    exact ⟨v0, _, true, spec_ExceptTables.eq _ _ _ _ (by simp only [spec_ExceptTables.t, e1, Option.bind_some, cond_true]), impl_ExceptTables.eq _ _ _ _ (by simp only [impl_ExceptTables.t, e2, hg, e3, Option.bind_some, bang_t, cond_false]), tab_size (hgood hg)⟩
end GoV

/- FnExactExceptTables: the law out of its core. -/
namespace GoV
open Go
theorem FnExactExceptTables_true (v0 : Int) (v1 : List (List Int × Int)) (v2 : Int) (v3 : List (List Int × Int)) (w0 : WfT (.pair (.int .i64) (.sl (.pair (.sl (.int .i64)) (.int .i64)))) (v0, v1)) (w1 : WfT (.pair (.int .i64) (.sl (.pair (.sl (.int .i64)) (.int .i64)))) (v2, v3)) : laws_FnExactExceptTables v0 v1 v2 v3 = some true := by
  obtain ⟨left1, e1, a1, b1z⟩ := laws_szTable_ok (v0) (v1) ((1048576 : Int)) w0 (by omega) (by omega)
  by_cases n1 : left1 < 0
  · exact laws_FnExactExceptTables.eq v0 v1 v2 v3 (by simp only [laws_FnExactExceptTables.t, e1, dec_t n1, cond_true, cond_false, Option.bind_some])
  have z1a := b1z (by omega)
  obtain ⟨left2, e2, a2, b2z⟩ := laws_szTable_ok (v2) (v3) (left1) w1 (by omega) (by omega)
  by_cases n2 : left2 < 0
  · exact laws_FnExactExceptTables.eq v0 v1 v2 v3 (by simp only [laws_FnExactExceptTables.t, e1, dec_f n1, e2, dec_t n2, cond_true, cond_false, Option.bind_some])
  have z2a := b2z (by omega)
  have hz0 : szT (.pair (.int .i64) (.sl (.pair (.sl (.int .i64)) (.int .i64)))) (v0, v1) ≤ 1048576 := by omega
  have hz1 : szT (.pair (.int .i64) (.sl (.pair (.sl (.int .i64)) (.int .i64)))) (v2, v3) ≤ 1048576 := by omega
  obtain ⟨ga, gb, gc, hspec, himpl, hsm⟩ := FnExactExceptTables_same v0 v1 v2 v3 w0 hz0 w1 hz1
  -- the answer is small
  have e3 := laws_toTable_id (v0) (v1) (by omega)
  have e4 := laws_toTable_id (v2) (v3) (by omega)
  have e6 := laws_toTable_id (v0) (v1) (by omega)
  have e7 := laws_toTable_id (v2) (v3) (by omega)
  have e9 := laws_eqTable_rf (ga) (gb) (by first | omega | (simp only [szT] at *; omega))
  have e10 := laws_toTable_id (v0) (v1) (by omega)
  have e11 := laws_eqTable_rf (v0) (v1) (by first | omega | (simp only [szT] at *; omega))
  have e12 := laws_toTable_id (v2) (v3) (by omega)
  have e13 := laws_eqTable_rf (v2) (v3) (by first | omega | (simp only [szT] at *; omega))
  have q14 := cntT_le (T := (.pair (.int .i64) (.sl (.pair (.sl (.int .i64)) (.int .i64))))) (v0, v1) rfl
  simp only [Ty.size] at q14
  have e14 := laws_markTable_d7a_ok (v0) (v1) ((1 : Int)) (by omega) (by omega) (by omega)
  have p14 := mrT_cnt (.pair (.int .i64) (.sl (.pair (.sl (.int .i64)) (.int .i64)))) (v0, v1) (1 : Int)
  have g14 : ¬ (mrT (.pair (.int .i64) (.sl (.pair (.sl (.int .i64)) (.int .i64)))) (v0, v1) (1 : Int)).2 < 0 := by omega
  have q15 := cntT_le (T := (.pair (.int .i64) (.sl (.pair (.sl (.int .i64)) (.int .i64))))) (v2, v3) rfl
  simp only [Ty.size] at q15
  have e15 := laws_markTable_d7a_ok (v2) (v3) ((mrT (.pair (.int .i64) (.sl (.pair (.sl (.int .i64)) (.int .i64)))) (v0, v1) (1 : Int)).2) (by omega) (by omega) (by omega)
  have p15 := mrT_cnt (.pair (.int .i64) (.sl (.pair (.sl (.int .i64)) (.int .i64)))) (v2, v3) (mrT (.pair (.int .i64) (.sl (.pair (.sl (.int .i64)) (.int .i64)))) (v0, v1) (1 : Int)).2
  have g15 : ¬ (mrT (.pair (.int .i64) (.sl (.pair (.sl (.int .i64)) (.int .i64)))) (v2, v3) (mrT (.pair (.int .i64) (.sl (.pair (.sl (.int .i64)) (.int .i64)))) (v0, v1) (1 : Int)).2).2 < 0 := by omega
  have e16 := laws_eqTable_rf (ga) (gb) (by first | omega | (simp only [szT] at *; omega))
  have q17 := cntT_le (T := (.pair (.int .i64) (.sl (.pair (.sl (.int .i64)) (.int .i64))))) (ga, gb) rfl
  simp only [Ty.size] at q17
  have e17 := laws_markTable_d7a_ok (ga) (gb) ((1 : Int)) (by omega) (by omega) (by omega)
  have p17 := mrT_cnt (.pair (.int .i64) (.sl (.pair (.sl (.int .i64)) (.int .i64)))) (ga, gb) (1 : Int)
  have g17 : ¬ (mrT (.pair (.int .i64) (.sl (.pair (.sl (.int .i64)) (.int .i64)))) (ga, gb) (1 : Int)).2 < 0 := by omega
  have e18 : laws_heldTable (ga) ((mrT (.pair (.int .i64) (.sl (.pair (.sl (.int .i64)) (.int .i64)))) (ga, gb) (1 : Int)).1.2) ((1 : Int)) = some (mrT (.pair (.int .i64) (.sl (.pair (.sl (.int .i64)) (.int .i64)))) (ga, gb) (1 : Int)).2 := laws_heldTable_ok (ga) (gb) (1 : Int) (by omega) (by omega) (by omega)
  have e19 := laws_toTable_id (v0) (v1) (by omega)
  have e20 := laws_toTable_id (v2) (v3) (by omega)
  have e22 := laws_eqTable_rf (ga) (gb) (by first | omega | (simp only [szT] at *; omega))
  have e23 : laws_heldTable (ga) ((mrT (.pair (.int .i64) (.sl (.pair (.sl (.int .i64)) (.int .i64)))) (ga, gb) (1 : Int)).1.2) ((1 : Int)) = some (mrT (.pair (.int .i64) (.sl (.pair (.sl (.int .i64)) (.int .i64)))) (ga, gb) (1 : Int)).2 := laws_heldTable_ok (ga) (gb) (1 : Int) (by omega) (by omega) (by omega)
  refine laws_FnExactExceptTables.eq v0 v1 v2 v3 ?_
  simp only [laws_FnExactExceptTables.t, e1, dec_f n1, e2, dec_f n2, e3, e4, e6, e7, e9, e10, e11, e12, e13, e14, dec_f g14, e15, dec_f g15, e16, e17, dec_f g17, e18, e19, e20, e22, e23, hspec, himpl, cond_true, cond_false, Option.bind_some, bne_ref, beq_ref, bang_t]
end GoV
