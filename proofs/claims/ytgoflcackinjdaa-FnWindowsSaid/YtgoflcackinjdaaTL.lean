/- A part of the proof of FnWindows: an interpreter of the model over plain data, its soundness, and what it makes of the functions that the statement reaches. Conditions: none beyond what the given statement itself says. -/
import Derived.Test.YtgoflcackinjdaaTK
set_option linter.unusedVariables false
set_option linter.unusedSimpArgs false
set_option linter.unnecessarySimpa false
set_option linter.unusedSectionVars false
/- What the statements' own helpers answer (printed by wip/tools/lawgen.py). -/
namespace GoV
open Go
theorem xs01_ok (v0 : List (Int × Int)) (p : (Int) × (Int) → Bool) (hl : v0.length ≤ 4611686018427387904) (hp : ∀ x, x ∈ v0 → xi03 ((x).fst) ((x).snd) = some (p x)) : ∃ r : Int, xs01 v0 = some r ∧ decide (r ≥ 0) = v0.any p := by
  have key : ∀ i, i ≤ v0.length → ∃ r : Int, xs01.l2 (v0) ((↑v0.length : Int)) (i : Int) = some r ∧ decide (r ≥ 0) = (v0.drop i).any p := by
    refine upto ?_ ?_
    · exact ⟨-1, xs01.eq2 (v0) ((↑v0.length : Int)) (v0.length : Int) (by simp only [xs01.t2, ix_lt, Nat.lt_irrefl, decide_false, cond_false]), by simp⟩
    · intro i hi ih
      have hc := hp _ (getD_mem ((0 : Int), (0 : Int)) hi)
      rw [drop_getD ((0 : Int), (0 : Int)) hi, List.any_cons]
      cases hx : p (v0.getD i ((0 : Int), (0 : Int))) with
      | true => exact ⟨i, xs01.eq2 (v0) ((↑v0.length : Int)) (i : Int) (by simp only [xs01.t2, ix_lt, ix_nn, ix_nat, dec_t hi, cond_true, hc, hx, Option.bind_some]), by simp⟩
      | false =>
        obtain ⟨r, g0, g1⟩ := ih
        exact ⟨r, xs01.eq2 (v0) ((↑v0.length : Int)) (i : Int) (by simp only [xs01.t2, ix_lt, ix_nn, ix_nat, dec_t hi, cond_true, cond_false, hc, hx, Option.bind_some, wrap_succ (show i < 9223372036854775807 by omega), g0]), by rw [g1, Bool.false_or]⟩
  obtain ⟨r, g0, g1⟩ := key 0 (Nat.zero_le _)
  exact ⟨r, xs01.eq v0 (by simp only [xs01.t]; exact g0), by simpa using g1⟩
theorem xs00_ok (v0 : List (Int × Int)) (p : (Int) × (Int) → Bool) (hl : v0.length ≤ 4611686018427387904) (hp : ∀ x, x ∈ v0 → xi03 ((x).fst) ((x).snd) = some (p x)) : xs00 v0 = some (v0.any p) := by
  obtain ⟨r, g0, g1⟩ := xs01_ok (v0) p hl hp
  exact xs00.eq v0 (by simp only [xs00.t, g0, Option.bind_some, g1])
theorem xi04_ok (v0 : List (Int × Int)) (p : (Int) × (Int) → Bool) (hl : v0.length ≤ 4611686018427387904) (hp : ∀ x, x ∈ v0 → impl_GoodMap (((x).fst)) (((x).snd)) = some (p x)) : xi04 v0 = some (v0.all p) := by
  have g := xs00_ok (v0) (fun x => !p x) hl (fun x hx => xi03.eq ((x).fst) ((x).snd) (by simp only [xi03.t, hp x hx, Option.bind_some]))
  exact xi04.eq v0 (by simp only [xi04.t, g, Option.bind_some, List.all_eq_not_any_not])
end GoV

/- Small words of the program and of its specification. -/
namespace GoV
open Go
theorem impl_within_eq (x lo hi : Int) : impl_within x lo hi = some (inB lo hi x) := by
  refine impl_within.eq x lo hi ?_
  simp only [impl_within.t, inB]
  by_cases h : lo ≤ x <;> simp [h]
theorem spec_l1In_eq (x lo hi : Int) : spec_l1In x lo hi = some (inB lo hi x) := by
  refine spec_l1In.eq x lo hi ?_
  simp only [spec_l1In.t, inB]
  by_cases h : lo ≤ x <;> simp [h]
end GoV
