/- A part of the proof of FnExactPushDown: an interpreter of the model over plain data, its soundness, and what it makes of the functions that the statement reaches. Conditions: none beyond what the given statement itself says. -/
import Derived.Test.YtkndmlepfblabaaTM
set_option linter.unusedVariables false
set_option linter.unusedSimpArgs false
set_option linter.unnecessarySimpa false
set_option linter.unusedSectionVars false
/- Rows compared, good rows, good tables: alike for the program and its specification. -/
namespace GoV
open Go
theorem impl_isCell_eq (x : Int) : impl_isCell x = some (inB (-100000) 100000 x) := impl_isCell.eq x (by simp only [impl_isCell.t, impl_within_eq, Option.bind_some])
theorem cmpL_drop {a b : List Int} {i : Nat} (ha : i < a.length) (hb : i < b.length) : cmpL (a.drop i) (b.drop i) = if a.getD i 0 < b.getD i 0 then -1 else if a.getD i 0 > b.getD i 0 then 1 else cmpL (a.drop (i + 1)) (b.drop (i + 1)) := by
  rw [drop_getD 0 ha, drop_getD 0 hb]
  rfl
theorem cmpL_end {a b : List Int} {i : Nat} (ha : i ≤ a.length) (hb : i ≤ b.length) (h : i = a.length ∨ i = b.length) : cmpL (a.drop i) (b.drop i) = if a.length < b.length then -1 else if a.length > b.length then 1 else 0 := by
  rcases h with h | h
  · by_cases e : i < b.length
    · rw [h, List.drop_length, drop_getD 0 (by omega : a.length < b.length), if_pos (by omega)]
      rfl
    · have e1 : a.drop i = [] := by rw [h, List.drop_length]
      have e2 : b.drop i = [] := by rw [List.drop_eq_nil_iff]; omega
      rw [e1, e2, if_neg (by omega), if_neg (by omega)]
      rfl
  · by_cases e : i < a.length
    · rw [h, List.drop_length, drop_getD 0 (by omega : b.length < a.length), if_neg (by omega), if_pos (by omega)]
      rfl
    · have e1 : b.drop i = [] := by rw [h, List.drop_length]
      have e2 : a.drop i = [] := by rw [List.drop_eq_nil_iff]; omega
      rw [e1, e2, if_neg (by omega), if_neg (by omega)]
      rfl
/-! ## Tables -/
theorem impl_isColumns_eq (n : Int) : impl_isColumns n = some (inB 0 6 n) := impl_isColumns.eq n (by simp only [impl_isColumns.t, impl_within_eq, Option.bind_some])
theorem tabB_split (c : Int) (l : List WRow) (i : Nat) : tabB c l i = (goodR (l.getD i ([], 0)).1 && (((l.getD i ([], 0)).1.length : Int) == c) && inB (-1000000) 1000000 (l.getD i ([], 0)).2 && !((l.getD i ([], 0)).2 == 0) && (decide (i = 0) || decide (cmpL (l.getD (i - 1) ([], 0)).1 (l.getD i ([], 0)).1 < 0))) := by
  simp only [tabB, rowB, goodW]
  refine bool_eq ?_
  simp only [Bool.and_eq_true, decide_eq_true_eq, beq_iff_eq, Bool.not_eq_true', beq_eq_false_iff_ne, ne_eq, and_assoc]
section
variable {c : Int} {l : List WRow} (hl : l.length ≤ 1073741824) (hr : ∀ w, w ∈ l → w.1.length ≤ 1073741824)
include hl hr
end
/-! ## A table told anew -/
end GoV
