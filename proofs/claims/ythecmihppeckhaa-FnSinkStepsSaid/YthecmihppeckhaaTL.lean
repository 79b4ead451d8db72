/- A part of the proof of FnSinkSteps: an interpreter of the model over plain data, its soundness, and what it makes of the functions that the statement reaches. Conditions: none beyond what the given statement itself says. -/
import Derived.Test.YthecmihppeckhaaTK
set_option linter.unusedVariables false
set_option linter.unusedSimpArgs false
set_option linter.unnecessarySimpa false
set_option linter.unusedSectionVars false
/- A sink's steps. Plain Lean. -/
namespace GoV
open Go
/-- Number, how far, rows. -/
abbrev Prep := Int × Int × List Int
/-- Source, at, pending, stored, out, last, upto. -/
abbrev Snk := List Int × Int × List Int × List Prep × List Int × Int × Int
def storedU (st : List Prep) (upto : Int) : Int := if st.length = 0 then upto else (st.getD (st.length - 1) (0, 0, [])).2.1
def stepS (s : Snk) (k : Int) : Option Snk :=
  let (src, at_, pend, st, out, last, upto) := s
  if k = 1 then (if at_ = (src.length : Int) then none else some (src, at_ + 1, pend ++ [src.getD at_.toNat 0], st, out, last, upto))
  else if k = 2 then (if pend.length = 0 then none else if st.length ≥ 4 then none else if last + (st.length : Int) ≥ 1000 then none else some (src, at_, [], st ++ [(last + (st.length : Int) + 1, at_, pend)], out, last, upto))
  else if k = 3 then (if st.length = 0 then none else some (src, at_, pend, st.drop 1, out ++ (st.getD 0 (0, 0, [])).2.2, (st.getD 0 (0, 0, [])).1, (st.getD 0 (0, 0, [])).2.1))
  else if k = 4 then some (src, storedU st upto, [], st, out, last, upto)
  else if k = 5 then (if st.length < 2 then none else some (src, storedU (st.take (st.length - 1)) upto, [], st.take (st.length - 1), out, last, upto))
  else none
/-- How many numbers a sink holds. -/
def holdS (s : Snk) : Nat := s.2.2.1.length + ((s.2.2.2.1.map fun p => p.2.2.length).sum + s.2.2.2.2.1.length)
/-- What a sink that is played keeps to; n: how many numbers it may hold. -/
structure SinkOK (n : Nat) (s : Snk) : Prop where
  src : s.1.length ≤ 30
  at0 : 0 ≤ s.2.1
  at1 : s.2.1 ≤ (s.1.length : Int)
  st4 : s.2.2.2.1.length ≤ 4
  stU : ∀ p, p ∈ s.2.2.2.1 → 0 ≤ p.2.1 ∧ p.2.1 ≤ (s.1.length : Int)
  stN : ∀ p, p ∈ s.2.2.2.1 → -1000000 ≤ p.1 ∧ p.1 ≤ 1000000
  up0 : 0 ≤ s.2.2.2.2.2.2
  up1 : s.2.2.2.2.2.2 ≤ (s.1.length : Int)
  la : -1000000 ≤ s.2.2.2.2.2.1 ∧ s.2.2.2.2.2.1 ≤ 1000000
  hold : holdS s ≤ n
theorem storedU_in {st : List Prep} {upto N : Int} (h : ∀ p, p ∈ st → 0 ≤ p.2.1 ∧ p.2.1 ≤ N) (h0 : 0 ≤ upto ∧ upto ≤ N) : 0 ≤ storedU st upto ∧ storedU st upto ≤ N := by
  unfold storedU
  split
  · exact h0
  · exact h _ (getD_mem _ (by omega))
theorem sum_take_le (f : Prep → Nat) : ∀ (l : List Prep) (n : Nat), ((l.take n).map f).sum ≤ (l.map f).sum
  | [], n => by simp
  | p :: l, 0 => by simp
  | p :: l, n + 1 => by
    have := sum_take_le f l n
    simp only [List.take_succ_cons, List.map_cons, List.sum_cons]
    omega
theorem stepS_ok {n : Nat} {s s' : Snk} {k : Int} (h : SinkOK n s) (hx : stepS s k = some s') : SinkOK (n + 1) s' ∧ s'.1 = s.1 := by
  obtain ⟨src, at_, pend, st, out, last, upto⟩ := s
  obtain ⟨h1, h2, h3, h4, h5, h6, h7, h8, h9, h10⟩ := h
  simp only [holdS] at h1 h2 h3 h4 h5 h6 h7 h8 h9 h10
  simp only [stepS] at hx
  split at hx
  · split at hx
    · cases hx
    · rename_i hne
      obtain rfl := Option.some.inj hx
      refine ⟨⟨h1, ?_, ?_, h4, h5, h6, h7, h8, h9, ?_⟩, rfl⟩
      · show 0 ≤ at_ + 1
        omega
      · show at_ + 1 ≤ (src.length : Int)
        omega
      · simp only [holdS, List.length_append, List.length_singleton]
        omega
  · split at hx
    · split at hx
      · cases hx
      · split at hx
        · cases hx
        · split at hx
          · cases hx
          · rename_i g1 g2 g3
            obtain rfl := Option.some.inj hx
            refine ⟨⟨h1, h2, h3, ?_, ?_, ?_, h7, h8, h9, ?_⟩, rfl⟩
            · simp only [List.length_append, List.length_singleton]; omega
            · intro p hp
              rcases List.mem_append.1 hp with hp | hp
              · exact h5 p hp
              · rw [List.mem_singleton] at hp
                subst hp
                exact ⟨h2, h3⟩
            · intro p hp
              rcases List.mem_append.1 hp with hp | hp
              · exact h6 p hp
              · rw [List.mem_singleton] at hp
                subst hp
                show -1000000 ≤ last + (st.length : Int) + 1 ∧ last + (st.length : Int) + 1 ≤ 1000000
                omega
            · simp only [holdS, List.map_append, List.sum_append, List.map_cons, List.map_nil, List.sum_cons, List.sum_nil, List.length_nil]
              omega
    · split at hx
      · split at hx
        · cases hx
        · rename_i g1
          obtain rfl := Option.some.inj hx
          cases st with
          | nil => exact absurd rfl g1
          | cons p st =>
            have hp := h5 p (by simp)
            have hq := h6 p (by simp)
            simp only [List.map_cons, List.sum_cons] at h10
            refine ⟨⟨h1, h2, h3, ?_, fun q hq' => h5 q (by simp only [List.drop_succ_cons, List.drop_zero] at hq'; exact List.mem_cons_of_mem _ hq'), fun q hq' => h6 q (by simp only [List.drop_succ_cons, List.drop_zero] at hq'; exact List.mem_cons_of_mem _ hq'), hp.1, hp.2, hq, ?_⟩, rfl⟩
            · simp only [List.drop_succ_cons, List.drop_zero]
              simp only [List.length_cons] at h4
              omega
            · simp only [holdS, List.drop_succ_cons, List.drop_zero, List.length_append, List.getD_cons_zero]
              omega
      · split at hx
        · obtain rfl := Option.some.inj hx
          have hu := storedU_in h5 ⟨h7, h8⟩
          refine ⟨⟨h1, hu.1, hu.2, h4, h5, h6, h7, h8, h9, ?_⟩, rfl⟩
          simp only [holdS, List.length_nil]
          omega
        · split at hx
          · split at hx
            · cases hx
            · obtain rfl := Option.some.inj hx
              have h5' : ∀ p, p ∈ st.take (st.length - 1) → 0 ≤ p.2.1 ∧ p.2.1 ≤ (src.length : Int) := fun p hp => h5 p (List.mem_of_mem_take hp)
              have hu := storedU_in h5' ⟨h7, h8⟩
              refine ⟨⟨h1, hu.1, hu.2, ?_, h5', fun p hp => h6 p (List.mem_of_mem_take hp), h7, h8, h9, ?_⟩, rfl⟩
              · simp only [List.length_take]; omega
              · have := sum_take_le (fun p => p.2.2.length) st (st.length - 1)
                simp only [holdS, List.length_nil]
                omega
          · cases hx
end GoV
