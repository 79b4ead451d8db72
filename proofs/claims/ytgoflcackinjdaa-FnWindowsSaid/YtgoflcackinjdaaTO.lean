/- A part of the proof of FnWindows: an interpreter of the model over plain data, its soundness, and what it makes of the functions that the statement reaches. Conditions: none beyond what the given statement itself says. -/
import Derived.Test.YtgoflcackinjdaaTN
set_option linter.unusedVariables false
set_option linter.unusedSimpArgs false
set_option linter.unnecessarySimpa false
set_option linter.unusedSectionVars false
/- Windows that slide over maps: plain Lean. -/
namespace GoV
open Go
theorem allM_append {a b : List Mp} (ha : ∀ x, x ∈ a → goodM x = true) (hb : ∀ x, x ∈ b → goodM x = true) : allM (a ++ b) = thenP (allM a) (allM b) := by
  rw [allM, List.foldl_append]
  exact allM_from b (allM a) hb (allM_good a ha)
/-- To what a map takes a number. -/
def appM (m : Mp) (x : Int) : Int := (m.1 * x + m.2) % 1009
theorem appM_rest (m : Mp) (x : Int) : 0 ≤ appM m x ∧ appM m x ≤ 1008 := by
  unfold appM
  omega
theorem appM_then (m n : Mp) (x : Int) : appM (thenP m n) x = appM n (appM m x) := by
  show (n.1 * m.1 % 1009 * x + (n.1 * m.2 + n.2) % 1009) % 1009 = (n.1 * ((m.1 * x + m.2) % 1009) + n.2) % 1009
  have e1 : (n.1 * ((m.1 * x + m.2) % 1009) + n.2) % 1009 = (n.1 * (m.1 * x + m.2) + n.2) % 1009 := by
    rw [Int.add_emod, Int.mul_emod, Int.emod_emod_of_dvd _ (Int.dvd_refl 1009), ← Int.mul_emod, ← Int.add_emod]
  have e2 : (n.1 * m.1 % 1009 * x + (n.1 * m.2 + n.2) % 1009) % 1009 = (n.1 * m.1 * x + (n.1 * m.2 + n.2)) % 1009 := by
    rw [Int.add_emod, Int.mul_emod (n.1 * m.1 % 1009), Int.emod_emod_of_dvd _ (Int.dvd_refl 1009), Int.emod_emod_of_dvd _ (Int.dvd_refl 1009), ← Int.mul_emod, ← Int.add_emod]
  rw [e1, e2, Int.mul_add, Int.mul_assoc, Int.add_assoc]
theorem appM_one {x : Int} (h0 : 0 ≤ x) (h1 : x ≤ 1008) : appM oneM x = x := by
  show (1 * x + 0) % 1009 = x
  omega
theorem appM_fold : ∀ (l : List Mp) (x : Int), (∀ m, m ∈ l → goodM m = true) → 0 ≤ x → x ≤ 1008 → l.foldl (fun y m => appM m y) x = appM (allM l) x
  | [], x, _, h0, h1 => (appM_one h0 h1).symm
  | m :: l, x, h, h0, h1 => by
    have hl : ∀ y, y ∈ l → goodM y = true := fun y hy => h y (List.mem_cons_of_mem _ hy)
    rw [List.foldl_cons, allM_cons (h m (by simp)) hl, appM_then]
    exact appM_fold l _ hl (appM_rest m x).1 (appM_rest m x).2
/-- The last ones of the first i. -/
def lastN {α : Type} (l : List α) (wide i : Nat) : List α := (l.take i).drop (i - wide)
theorem lastN_len {α : Type} {l : List α} {wide i : Nat} (h : i ≤ l.length) : (lastN l wide i).length = min i wide := by
  rw [lastN, List.length_drop, List.length_take]
  omega
theorem lastN_mem {α : Type} {l : List α} {wide i : Nat} {x : α} (h : x ∈ lastN l wide i) : x ∈ l := List.mem_of_mem_take (List.mem_of_mem_drop h)
theorem lastN_less {α : Type} {l : List α} {wide i : Nat} (hi : i < l.length) (hw : i < wide) : lastN l wide (i + 1) = lastN l wide i ++ [l[i]] := by
  rw [lastN, lastN, show i + 1 - wide = 0 by omega, show i - wide = 0 by omega, List.drop_zero, List.drop_zero, List.take_succ_eq_append_getElem hi]
theorem lastN_full {α : Type} {l : List α} {wide i : Nat} (hi : i < l.length) (hw : wide ≤ i) (h1 : 1 ≤ wide) : lastN l wide (i + 1) = (lastN l wide i).tail ++ [l[i]] := by
  rw [lastN, lastN, List.take_succ_eq_append_getElem hi, List.drop_append_of_le_length (by rw [List.length_take]; omega), List.tail_drop]
  congr 2
  omega
end GoV
