/- A part of the proof of FnSinkSteps: an interpreter of the model over plain data, its soundness, and what it makes of the functions that the statement reaches. Conditions: none beyond what the given statement itself says. -/
import Derived.Test.YthecmihppeckhaaTJ
set_option linter.unusedVariables false
set_option linter.unusedSimpArgs false
set_option linter.unnecessarySimpa false
set_option linter.unusedSectionVars false
/- What the statements' own helpers answer (printed by wip/tools/lawgen.py). -/
namespace GoV
open Go

end GoV

/- Small words of the program and of its specification. -/
namespace GoV
open Go
theorem impl_within_eq (x lo hi : Int) : impl_within x lo hi = some (inB lo hi x) := by
  refine impl_within.eq x lo hi ?_
  simp only [impl_within.t, inB]
  by_cases h : lo ≤ x <;> simp [h]
theorem spec_l1In_eq (x lo hi : Int) : spec_l1In x lo hi = some (inB lo hi x) := by
  refine spec_l1In.eq x lo hi ?_
  simp only [spec_l1In.t, inB]
  by_cases h : lo ≤ x <;> simp [h]
end GoV

/- Drawing: a cursor always answers. -/
namespace GoV
open Go
def Byt (b : List Int) : Prop := ∀ x, x ∈ b → 0 ≤ x ∧ x ≤ 255
theorem u64_id {x : Int} (h1 : 0 ≤ x) (h2 : x ≤ 255) : IntKind.u64.wrap x = x := by
  simp [IntKind.wrap, IntKind.signed, IntKind.bits]
  omega
theorem low_byte (x : BitVec IntKind.u64.bits) : 0 ≤ IntKind.i64.wrap (IntKind.u64.wrap (((x &&& BitVec.ofInt IntKind.u64.bits (255 : Int)).toNat : Nat) : Int)) ∧ IntKind.i64.wrap (IntKind.u64.wrap (((x &&& BitVec.ofInt IntKind.u64.bits (255 : Int)).toNat : Nat) : Int)) ≤ 255 := by
  have h : (x &&& BitVec.ofInt IntKind.u64.bits (255 : Int)).toNat ≤ 255 := by
    rw [BitVec.toNat_and]
    exact Nat.and_le_right
  rw [u64_id (by omega) (by omega), wrap_id (by omega) (by omega)]
  omega
section
variable {b : List Int} (hb : Byt b)
include hb
theorem nextD_ok {a : Int} (s : Int) (h0 : 0 ≤ a) (h1 : a ≤ 1000000) : ∃ x s', xs09 b a s = some (x, b, a + 1, s') ∧ 0 ≤ x ∧ x ≤ 255 := by
  have hw : IntKind.i64.wrap (a + 1) = a + 1 := wrap_id (by omega) (by omega)
  by_cases g : a < (b.length : Int)
  · have g2 : a.toNat < b.length := by omega
    have g3 : a + 1 ≤ (b.length : Int) := by omega
    have hx := hb _ (getD_mem (0 : Int) g2)
    have hwx : IntKind.i64.wrap (b.getD a.toNat 0) = b.getD a.toNat 0 := wrap_id (by omega) (by omega)
    have k : ∃ s', xs09.t some b a s = some (b.getD a.toNat 0, b, a + 1, s') := by
      simp only [xs09.t, dec_t g, dec_t h0, dec_t g2, hw, hwx, dec_t g3, cond_true]
      exact ⟨_, rfl⟩
    obtain ⟨s', k⟩ := k
    exact ⟨_, s', xs09.eq _ _ _ k, hx⟩
  · have g3 : ¬ a + 1 ≤ (b.length : Int) := by omega
    have k : ∃ x s', xs09.t some b a s = some (x, b, a + 1, s') ∧ 0 ≤ x ∧ x ≤ 255 := by
      simp only [xs09.t, dec_f g, hw, dec_f g3, cond_false]
      exact ⟨_, _, rfl, low_byte _⟩
    obtain ⟨x, s', k, hx⟩ := k
    exact ⟨x, s', xs09.eq _ _ _ k, hx⟩
theorem pickD_ok {a : Int} (s k : Int) (h0 : 0 ≤ a) (h1 : a ≤ 1000000) (hk : 2 ≤ k) (hk2 : k ≤ 200) : ∃ x s', xs0a b a s k = some (x, b, a + 1, s') ∧ 0 ≤ x ∧ x < k := by
  obtain ⟨x, s', e, hx⟩ := nextD_ok hb s h0 h1
  have g1 : ¬ k ≤ 1 := by omega
  have g2 : ¬ k > 200 := by omega
  have g3 : k ≠ 0 := by omega
  refine ⟨x.tmod k, s', xs0a.eq _ _ _ _ ?_, Int.tmod_nonneg _ hx.1, Int.tmod_lt_of_pos _ (by omega)⟩
  simp only [xs0a.t, dec_f g1, e, Option.bind_some, dec_f g2, dec_t g3, cond_true, cond_false]
theorem oneD_ok {a : Int} (s k : Int) (h0 : 0 ≤ a) (h1 : a ≤ 1000000) (hk : 2 ≤ k) (hk2 : k ≤ 200) : ∃ x s', spec_l1Cur_one_e61 b a s k = some (x, b, a + 1, s') := by
  obtain ⟨x, s', e, hx⟩ := pickD_ok hb s k h0 h1 hk hk2
  exact ⟨x == 0, s', spec_l1Cur_one_e61.eq _ _ _ _ (by simp only [spec_l1Cur_one_e61.t, e, Option.bind_some])⟩
theorem amongD_ok {a : Int} (s : Int) (l : List Int) (h0 : 0 ≤ a) (h1 : a ≤ 1000000) (hk : 2 ≤ l.length) (hk2 : l.length ≤ 200) : ∃ x s', xs06 b a s l = some (x, b, a + 1, s') := by
  obtain ⟨x, s', e, hx⟩ := pickD_ok hb s (l.length : Int) h0 h1 (by omega) (by omega)
  have g : x.toNat < l.length := by omega
  exact ⟨l.getD x.toNat 0, s', xs06.eq _ _ _ _ (by simp only [xs06.t, e, Option.bind_some, dec_t hx.1, dec_t g, cond_true])⟩
theorem source_loop : ∀ (m : Nat) (a s : Int) (l : List Int), 0 ≤ a → a + (m : Int) ≤ 10000 → l.length + m ≤ 10000 →
    ∃ l' a' s', xs02.l5 b a s l (m : Int) = some (l', b, a', s') ∧ l'.length = l.length + m ∧ 0 ≤ a' ∧ a' ≤ a + (m : Int)
  | 0, a, s, l, h0, h1, h2 => by
    have g : ¬ ((0 : Nat) : Int) > 0 := by omega
    exact ⟨l, a, s, xs02.eq5 _ _ _ _ _ (by simp only [xs02.t5, dec_f g, cond_false]), rfl, h0, by omega⟩
  | m + 1, a, s, l, h0, h1, h2 => by
    obtain ⟨x, s1, e, hx⟩ := pickD_ok hb s 9 h0 (by omega) (by omega) (by omega)
    obtain ⟨l', a', s', k, k2, k3, k4⟩ := source_loop m (a + 1) s1 (l ++ [x]) (by omega) (by omega) (by simp only [List.length_append, List.length_singleton]; omega)
    have g : ((m + 1 : Nat) : Int) > 0 := by omega
    have g2 : l.length + [x].length ≤ 4294967296 := by simp only [List.length_cons, List.length_nil]; omega
    have g3 : IntKind.i64.wrap (((m + 1 : Nat) : Int) - 1) = (m : Int) := by rw [wrap_id] <;> omega
    refine ⟨l', a', s', xs02.eq5 _ _ _ _ _ ?_, by rw [k2, List.length_append, List.length_singleton]; omega, k3, by omega⟩
    simp only [xs02.t5, dec_t g, e, Option.bind_some, dec_t g2, g3, cond_true]
    exact k
theorem source_ok {a : Int} (s : Int) (h0 : 0 ≤ a) (h1 : a ≤ 1000) : ∃ l a' s', xs02 b a s = some (l, b, a', s') ∧ l.length ≤ 31 ∧ 0 ≤ a' ∧ a' ≤ a + 34 := by
  obtain ⟨n, s1, e1, hn⟩ := pickD_ok hb s 12 h0 (by omega) (by omega) (by omega)
  obtain ⟨o, s2, e2⟩ := oneD_ok hb (a := a + 1) s1 20 (by omega) (by omega) (by omega) (by omega)
  cases o with
  | false =>
    obtain ⟨l, a', s', k, k2, k3, k4⟩ := source_loop hb n.toNat (a + 1 + 1) s2 [] (by omega) (by omega) (by simp only [List.length_nil]; omega)
    rw [Int.toNat_of_nonneg hn.1] at k k4
    refine ⟨l, a', s', xs02.eq _ _ _ ?_, by rw [k2, List.length_nil]; omega, k3, by omega⟩
    simp only [xs02.t, e1, e2, Option.bind_some, cond_false]
    exact k
  | true =>
    obtain ⟨x, s3, e3, hx⟩ := pickD_ok hb (a := a + 1 + 1) s2 2 (by omega) (by omega) (by omega) (by omega)
    have hw : IntKind.i64.wrap (30 + x) = ((30 + x).toNat : Int) := by rw [wrap_id (by omega) (by omega)]; omega
    obtain ⟨l, a', s', k, k2, k3, k4⟩ := source_loop hb (30 + x).toNat (a + 1 + 1 + 1) s3 [] (by omega) (by omega) (by simp only [List.length_nil]; omega)
    refine ⟨l, a', s', xs02.eq _ _ _ ?_, by rw [k2, List.length_nil]; omega, k3, by omega⟩
    simp only [xs02.t, e1, e2, e3, hw, Option.bind_some, cond_true]
    exact k
theorem steps_loop : ∀ (m : Nat) (a s : Int) (l : List Int), 0 ≤ a → a + 3 * (m : Int) ≤ 10000 → l.length + 2 * m ≤ 10000 →
    ∃ l' a' s', xs00.l5 b a s l (m : Int) = some (l', b, a', s') ∧ l'.length ≤ l.length + 2 * m ∧ 0 ≤ a' ∧ a' ≤ a + 3 * (m : Int) + 1
  | 0, a, s, l, h0, h1, h2 => by
    have g : ¬ ((0 : Nat) : Int) > 0 := by omega
    by_cases g1 : (l.length : Int) > 120
    · obtain ⟨o, s1, e⟩ := oneD_ok hb s 4 h0 (by omega) (by omega) (by omega)
      cases o with
      | false =>
        have g2 : (120 : Int) ≤ (l.length : Int) := by omega
        refine ⟨l.take 120, a + 1, s1, xs00.eq5 _ _ _ _ _ ?_, by rw [List.length_take]; omega, by omega, by omega⟩
        simp only [xs00.t5, dec_f g, dec_t g1, e, Option.bind_some, bang_f, dec_t g2, cond_true, cond_false]
        rfl
      | true => exact ⟨l, a + 1, s1, xs00.eq5 _ _ _ _ _ (by simp only [xs00.t5, dec_f g, dec_t g1, e, Option.bind_some, bang_t, cond_true, cond_false]), by omega, by omega, by omega⟩
    · exact ⟨l, a, s, xs00.eq5 _ _ _ _ _ (by simp only [xs00.t5, dec_f g, dec_f g1, cond_false]), by omega, h0, by omega⟩
  | m + 1, a, s, l, h0, h1, h2 => by
    obtain ⟨x, s1, e⟩ := amongD_ok hb s [(1 : Int), (1 : Int), (1 : Int), (1 : Int), (2 : Int), (2 : Int), (3 : Int), (4 : Int), (5 : Int)] h0 (by omega) (by simp) (by simp)
    obtain ⟨o, s2, e2⟩ := oneD_ok hb (a := a + 1) s1 60 (by omega) (by omega) (by omega) (by omega)
    have g : ((m + 1 : Nat) : Int) > 0 := by omega
    have g2 : l.length + [x].length ≤ 4294967296 := by simp only [List.length_cons, List.length_nil]; omega
    have g3 : IntKind.i64.wrap (((m + 1 : Nat) : Int) - 1) = (m : Int) := by rw [wrap_id] <;> omega
    cases o with
    | false =>
      obtain ⟨l', a', s', k, k2, k3, k4⟩ := steps_loop m (a + 1 + 1) s2 (l ++ [x]) (by omega) (by omega) (by simp only [List.length_append, List.length_singleton]; omega)
      rw [List.length_append, List.length_singleton] at k2
      refine ⟨l', a', s', xs00.eq5 _ _ _ _ _ ?_, by omega, k3, by omega⟩
      simp only [xs00.t5, dec_t g, e, e2, Option.bind_some, dec_t g2, g3, cond_true, cond_false]
      exact k
    | true =>
      obtain ⟨y, s3, e3, hy⟩ := pickD_ok hb (a := a + 1 + 1) s2 8 (by omega) (by omega) (by omega) (by omega)
      obtain ⟨l', a', s', k, k2, k3, k4⟩ := steps_loop m (a + 1 + 1 + 1) s3 (l ++ [x] ++ [IntKind.i64.wrap (y - 1)]) (by omega) (by omega) (by simp only [List.length_append, List.length_singleton]; omega)
      rw [List.length_append, List.length_singleton, List.length_append, List.length_singleton] at k2
      have g4 : (l ++ [x]).length + [IntKind.i64.wrap (y - 1)].length ≤ 4294967296 := by simp only [List.length_append, List.length_cons, List.length_nil]; omega
      refine ⟨l', a', s', xs00.eq5 _ _ _ _ _ ?_, by omega, k3, by omega⟩
      simp only [xs00.t5, dec_t g, e, e2, e3, Option.bind_some, dec_t g2, dec_t g4, g3, cond_true]
      exact k
theorem steps_ok {a : Int} (s : Int) (h0 : 0 ≤ a) (h1 : a ≤ 1000) : ∃ l a' s', xs00 b a s = some (l, b, a', s') ∧ l.length ≤ 242 ∧ 0 ≤ a' ∧ a' ≤ a + 400 := by
  obtain ⟨n, s1, e1, hn⟩ := pickD_ok hb s 30 h0 (by omega) (by omega) (by omega)
  obtain ⟨o, s2, e2⟩ := oneD_ok hb (a := a + 1) s1 20 (by omega) (by omega) (by omega) (by omega)
  cases o with
  | false =>
    obtain ⟨l, a', s', k, k2, k3, k4⟩ := steps_loop hb n.toNat (a + 1 + 1) s2 [] (by omega) (by omega) (by simp only [List.length_nil]; omega)
    rw [Int.toNat_of_nonneg hn.1] at k k4
    rw [List.length_nil] at k2
    refine ⟨l, a', s', xs00.eq _ _ _ ?_, by omega, k3, by omega⟩
    simp only [xs00.t, e1, e2, Option.bind_some, cond_false]
    exact k
  | true =>
    obtain ⟨x, s3, e3, hx⟩ := pickD_ok hb (a := a + 1 + 1) s2 2 (by omega) (by omega) (by omega) (by omega)
    have hw : IntKind.i64.wrap (120 + x) = ((120 + x).toNat : Int) := by rw [wrap_id (by omega) (by omega)]; omega
    obtain ⟨l, a', s', k, k2, k3, k4⟩ := steps_loop hb (120 + x).toNat (a + 1 + 1 + 1) s3 [] (by omega) (by omega) (by simp only [List.length_nil]; omega)
    rw [List.length_nil] at k2
    refine ⟨l, a', s', xs00.eq _ _ _ ?_, by omega, k3, by omega⟩
    simp only [xs00.t, e1, e2, e3, hw, Option.bind_some, cond_true]
    exact k
end
end GoV
