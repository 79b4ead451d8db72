/- A part of the proof of FnWindows: an interpreter of the model over plain data, its soundness, and what it makes of the functions that the statement reaches. Conditions: none beyond what the given statement itself says. -/
import Derived.Test.YtgoflcackinjdaaTL
set_option linter.unusedVariables false
set_option linter.unusedSimpArgs false
set_option linter.unnecessarySimpa false
set_option linter.unusedSectionVars false
/- Maps modulo 1009: composing them hangs on no brackets. Plain Lean. -/
namespace GoV
open Go
abbrev Mp := Int × Int
/-- One first, another one then. -/
def thenP (m n : Mp) : Mp := (n.1 * m.1 % 1009, (n.1 * m.2 + n.2) % 1009)
def goodM (m : Mp) : Bool := (decide (0 ≤ m.1) && decide (m.1 ≤ 1008)) && (decide (0 ≤ m.2) && decide (m.2 ≤ 1008))
theorem goodM_iff {m : Mp} : goodM m = true ↔ (0 ≤ m.1 ∧ m.1 ≤ 1008) ∧ (0 ≤ m.2 ∧ m.2 ≤ 1008) := by simp [goodM]
def oneM : Mp := (1, 0)
theorem oneM_good : goodM oneM = true := rfl
theorem thenP_good (m n : Mp) : goodM (thenP m n) = true := by
  simp only [goodM_iff, thenP]
  omega
theorem thenP_one {m : Mp} (h : goodM m = true) : thenP oneM m = m := by
  obtain ⟨⟨h1, h2⟩, h3, h4⟩ := goodM_iff.1 h
  refine Prod.ext ?_ ?_
  · show m.1 * 1 % 1009 = m.1
    omega
  · show (m.1 * 0 + m.2) % 1009 = m.2
    omega
theorem one_thenP {m : Mp} (h : goodM m = true) : thenP m oneM = m := by
  obtain ⟨⟨h1, h2⟩, h3, h4⟩ := goodM_iff.1 h
  refine Prod.ext ?_ ?_
  · show 1 * m.1 % 1009 = m.1
    omega
  · show (1 * m.2 + 0) % 1009 = m.2
    omega
theorem thenP_assoc (a b c : Mp) : thenP (thenP a b) c = thenP a (thenP b c) := by
  refine Prod.ext ?_ ?_
  · show c.1 * (b.1 * a.1 % 1009) % 1009 = c.1 * b.1 % 1009 * a.1 % 1009
    rw [Int.mul_emod, Int.emod_emod_of_dvd _ (Int.dvd_refl 1009), ← Int.mul_emod, Int.mul_emod (c.1 * b.1 % 1009), Int.emod_emod_of_dvd _ (Int.dvd_refl 1009), ← Int.mul_emod, Int.mul_assoc]
  · show (c.1 * ((b.1 * a.2 + b.2) % 1009) + c.2) % 1009 = (c.1 * b.1 % 1009 * a.2 + (c.1 * b.2 + c.2) % 1009) % 1009
    have e1 : (c.1 * ((b.1 * a.2 + b.2) % 1009) + c.2) % 1009 = (c.1 * (b.1 * a.2 + b.2) + c.2) % 1009 := by
      rw [Int.add_emod, Int.mul_emod, Int.emod_emod_of_dvd _ (Int.dvd_refl 1009), ← Int.mul_emod, ← Int.add_emod]
    have e2 : (c.1 * b.1 % 1009 * a.2 + (c.1 * b.2 + c.2) % 1009) % 1009 = (c.1 * b.1 * a.2 + (c.1 * b.2 + c.2)) % 1009 := by
      rw [Int.add_emod, Int.mul_emod (c.1 * b.1 % 1009), Int.emod_emod_of_dvd _ (Int.dvd_refl 1009), Int.emod_emod_of_dvd _ (Int.dvd_refl 1009), ← Int.mul_emod, ← Int.add_emod]
    rw [e1, e2, Int.mul_add, Int.mul_assoc, Int.add_assoc]
/-- Maps composed, the first one first. -/
def allM (l : List Mp) : Mp := l.foldl thenP oneM
theorem allM_from : ∀ (l : List Mp) (a : Mp), (∀ m, m ∈ l → goodM m = true) → goodM a = true → l.foldl thenP a = thenP a (allM l)
  | [], a, _, ha => by rw [allM, List.foldl_nil, List.foldl_nil, one_thenP ha]
  | m :: l, a, h, ha => by
    have hm := h m (by simp)
    have hl : ∀ x, x ∈ l → goodM x = true := fun x hx => h x (List.mem_cons_of_mem _ hx)
    rw [allM, List.foldl_cons, List.foldl_cons, allM_from l (thenP a m) hl (thenP_good a m), thenP_one hm, allM_from l m hl hm, thenP_assoc]
theorem allM_cons {m : Mp} {l : List Mp} (hm : goodM m = true) (h : ∀ x, x ∈ l → goodM x = true) : allM (m :: l) = thenP m (allM l) := by
  rw [allM, List.foldl_cons, thenP_one hm, allM_from l m h hm]
theorem allM_good (l : List Mp) (h : ∀ x, x ∈ l → goodM x = true) : goodM (allM l) = true := by
  cases l with
  | nil => rfl
  | cons m l => rw [allM_cons (h m (by simp)) fun x hx => h x (List.mem_cons_of_mem _ hx)]; exact thenP_good _ _
/-- For each map the composition from it back to the first one. -/
def sumsM : Mp → List Mp → List Mp
  | _, [] => []
  | s, m :: l => thenP m s :: sumsM (thenP m s) l
theorem sumsM_len : ∀ (s : Mp) (l : List Mp), (sumsM s l).length = l.length
  | _, [] => rfl
  | s, m :: l => by rw [sumsM, List.length_cons, List.length_cons, sumsM_len]
theorem sumsM_at : ∀ (l pre : List Mp) (i : Nat), i < l.length → (∀ x, x ∈ pre ++ l → goodM x = true) → (sumsM (allM pre.reverse) l).getD i (0, 0) = allM ((pre ++ l.take (i + 1)).reverse)
  | [], pre, i, hi, _ => by simp at hi
  | m :: l, pre, i, hi, h => by
    have hm : goodM m = true := h m (by simp)
    have hp : ∀ x, x ∈ pre.reverse → goodM x = true := fun x hx => h x (by simp at hx; simp [hx])
    have e : thenP m (allM pre.reverse) = allM (pre ++ [m]).reverse := by
      rw [List.reverse_append, List.reverse_singleton, List.singleton_append, allM_cons hm hp]
    rw [sumsM]
    cases i with
    | zero =>
      rw [List.getD_cons_zero, e]
      simp
    | succ i =>
      rw [List.getD_cons_succ, e, sumsM_at l (pre ++ [m]) i (by simpa using hi) (fun x hx => h x (by simpa using hx))]
      simp
end GoV
