/- A part of the proof of FnRolled: an interpreter of the model over plain data, its soundness, and what it makes of the functions that the statement reaches. Conditions: none beyond what the given statement itself says. -/
import Derived.Test.YtjbhilkkckfkmaaTK
set_option linter.unusedVariables false
set_option linter.unusedSimpArgs false
set_option linter.unnecessarySimpa false
set_option linter.unusedSectionVars false
/- What the statements' own helpers answer (printed by wip/tools/lawgen.py). -/
namespace GoV
open Go
theorem xs04_ok (v0 : List Int) (v1 : Int) (p : Int → Bool) (hl : v0.length ≤ 4611686018427387904) (hp : ∀ x, x ∈ v0 → xi0j (x) (v1) = some (p x)) : ∃ r : Int, xs04 v0 v1 = some r ∧ decide (r ≥ 0) = v0.any p := by
  have key : ∀ i, i ≤ v0.length → ∃ r : Int, xs04.l2 (v0) (v1) ((↑v0.length : Int)) (i : Int) = some r ∧ decide (r ≥ 0) = (v0.drop i).any p := by
    refine upto ?_ ?_
    · exact ⟨-1, xs04.eq2 (v0) (v1) ((↑v0.length : Int)) (v0.length : Int) (by simp only [xs04.t2, ix_lt, Nat.lt_irrefl, decide_false, cond_false]), by simp⟩
    · intro i hi ih
      have hc := hp _ (getD_mem (0 : Int) hi)
      rw [drop_getD (0 : Int) hi, List.any_cons]
      cases hx : p (v0.getD i (0 : Int)) with
      | true => exact ⟨i, xs04.eq2 (v0) (v1) ((↑v0.length : Int)) (i : Int) (by simp only [xs04.t2, ix_lt, ix_nn, ix_nat, dec_t hi, cond_true, hc, hx, Option.bind_some]), by simp⟩
      | false =>
        obtain ⟨r, g0, g1⟩ := ih
        exact ⟨r, xs04.eq2 (v0) (v1) ((↑v0.length : Int)) (i : Int) (by simp only [xs04.t2, ix_lt, ix_nn, ix_nat, dec_t hi, cond_true, cond_false, hc, hx, Option.bind_some, wrap_succ (show i < 9223372036854775807 by omega), g0]), by rw [g1, Bool.false_or]⟩
  obtain ⟨r, g0, g1⟩ := key 0 (Nat.zero_le _)
  exact ⟨r, xs04.eq v0 v1 (by simp only [xs04.t]; exact g0), by simpa using g1⟩
theorem xs02_ok (v0 : List Int) (v1 : Int) (p : Int → Bool) (hl : v0.length ≤ 4611686018427387904) (hp : ∀ x, x ∈ v0 → xi0j (x) (v1) = some (p x)) : xs02 v0 v1 = some (v0.any p) := by
  obtain ⟨r, g0, g1⟩ := xs04_ok (v0) (v1) p hl hp
  exact xs02.eq v0 v1 (by simp only [xs02.t, g0, Option.bind_some, g1])
theorem xi0l_ok (v0 : List Int) (v1 : Int) (p : Int → Bool) (hl : v0.length ≤ 4611686018427387904) (hp : ∀ x, x ∈ v0 → xi1a ((x)) ((v1)) = some (p x)) : xi0l v0 v1 = some (v0.all p) := by
  have g := xs02_ok (v0) (v1) (fun x => !p x) hl (fun x hx => xi0j.eq (x) (v1) (by simp only [xi0j.t, hp x hx, Option.bind_some]))
  exact xi0l.eq v0 v1 (by simp only [xi0l.t, g, Option.bind_some, List.all_eq_not_any_not])
theorem xs09_ok (v0 : List Int) (p : Int → Bool) (hl : v0.length ≤ 4611686018427387904) (hp : ∀ x, x ∈ v0 → xi0m (x) = some (p x)) : ∃ r : Int, xs09 v0 = some r ∧ decide (r ≥ 0) = v0.any p := by
  have key : ∀ i, i ≤ v0.length → ∃ r : Int, xs09.l2 (v0) ((↑v0.length : Int)) (i : Int) = some r ∧ decide (r ≥ 0) = (v0.drop i).any p := by
    refine upto ?_ ?_
    · exact ⟨-1, xs09.eq2 (v0) ((↑v0.length : Int)) (v0.length : Int) (by simp only [xs09.t2, ix_lt, Nat.lt_irrefl, decide_false, cond_false]), by simp⟩
    · intro i hi ih
      have hc := hp _ (getD_mem (0 : Int) hi)
      rw [drop_getD (0 : Int) hi, List.any_cons]
      cases hx : p (v0.getD i (0 : Int)) with
      | true => exact ⟨i, xs09.eq2 (v0) ((↑v0.length : Int)) (i : Int) (by simp only [xs09.t2, ix_lt, ix_nn, ix_nat, dec_t hi, cond_true, hc, hx, Option.bind_some]), by simp⟩
      | false =>
        obtain ⟨r, g0, g1⟩ := ih
        exact ⟨r, xs09.eq2 (v0) ((↑v0.length : Int)) (i : Int) (by simp only [xs09.t2, ix_lt, ix_nn, ix_nat, dec_t hi, cond_true, cond_false, hc, hx, Option.bind_some, wrap_succ (show i < 9223372036854775807 by omega), g0]), by rw [g1, Bool.false_or]⟩
  obtain ⟨r, g0, g1⟩ := key 0 (Nat.zero_le _)
  exact ⟨r, xs09.eq v0 (by simp only [xs09.t]; exact g0), by simpa using g1⟩
theorem xs05_ok (v0 : List Int) (p : Int → Bool) (hl : v0.length ≤ 4611686018427387904) (hp : ∀ x, x ∈ v0 → xi0m (x) = some (p x)) : xs05 v0 = some (v0.any p) := by
  obtain ⟨r, g0, g1⟩ := xs09_ok (v0) p hl hp
  exact xs05.eq v0 (by simp only [xs05.t, g0, Option.bind_some, g1])
theorem xi0o_ok (v0 : List Int) (p : Int → Bool) (hl : v0.length ≤ 4611686018427387904) (hp : ∀ x, x ∈ v0 → xi1v ((x)) = some (p x)) : xi0o v0 = some (v0.all p) := by
  have g := xs05_ok (v0) (fun x => !p x) hl (fun x hx => xi0m.eq (x) (by simp only [xi0m.t, hp x hx, Option.bind_some]))
  exact xi0o.eq v0 (by simp only [xi0o.t, g, Option.bind_some, List.all_eq_not_any_not])
theorem xs0a_ok (v0 : List Int) (p : Int → Bool) (hl : v0.length ≤ 4611686018427387904) (hp : ∀ x, x ∈ v0 → xi0n (x) = some (p x)) : ∃ r : Int, xs0a v0 = some r ∧ decide (r ≥ 0) = v0.any p := by
  have key : ∀ i, i ≤ v0.length → ∃ r : Int, xs0a.l2 (v0) ((↑v0.length : Int)) (i : Int) = some r ∧ decide (r ≥ 0) = (v0.drop i).any p := by
    refine upto ?_ ?_
    · exact ⟨-1, xs0a.eq2 (v0) ((↑v0.length : Int)) (v0.length : Int) (by simp only [xs0a.t2, ix_lt, Nat.lt_irrefl, decide_false, cond_false]), by simp⟩
    · intro i hi ih
      have hc := hp _ (getD_mem (0 : Int) hi)
      rw [drop_getD (0 : Int) hi, List.any_cons]
      cases hx : p (v0.getD i (0 : Int)) with
      | true => exact ⟨i, xs0a.eq2 (v0) ((↑v0.length : Int)) (i : Int) (by simp only [xs0a.t2, ix_lt, ix_nn, ix_nat, dec_t hi, cond_true, hc, hx, Option.bind_some]), by simp⟩
      | false =>
        obtain ⟨r, g0, g1⟩ := ih
        exact ⟨r, xs0a.eq2 (v0) ((↑v0.length : Int)) (i : Int) (by simp only [xs0a.t2, ix_lt, ix_nn, ix_nat, dec_t hi, cond_true, cond_false, hc, hx, Option.bind_some, wrap_succ (show i < 9223372036854775807 by omega), g0]), by rw [g1, Bool.false_or]⟩
  obtain ⟨r, g0, g1⟩ := key 0 (Nat.zero_le _)
  exact ⟨r, xs0a.eq v0 (by simp only [xs0a.t]; exact g0), by simpa using g1⟩
theorem xs07_ok (v0 : List Int) (p : Int → Bool) (hl : v0.length ≤ 4611686018427387904) (hp : ∀ x, x ∈ v0 → xi0n (x) = some (p x)) : xs07 v0 = some (v0.any p) := by
  obtain ⟨r, g0, g1⟩ := xs0a_ok (v0) p hl hp
  exact xs07.eq v0 (by simp only [xs07.t, g0, Option.bind_some, g1])
theorem xi0p_ok (v0 : List Int) (p : Int → Bool) (hl : v0.length ≤ 4611686018427387904) (hp : ∀ x, x ∈ v0 → xi2c ((x)) = some (p x)) : xi0p v0 = some (v0.all p) := by
  have g := xs07_ok (v0) (fun x => !p x) hl (fun x hx => xi0n.eq (x) (by simp only [xi0n.t, hp x hx, Option.bind_some]))
  exact xi0p.eq v0 (by simp only [xi0p.t, g, Option.bind_some, List.all_eq_not_any_not])
theorem xs0b_ok (v0 : Zc) (p : (List Int) × ((Int) × (Int)) → Bool) (hl : v0.length ≤ 4611686018427387904) (hp : ∀ x, x ∈ v0 → xi1o ((x).fst) ((x).snd.fst) ((x).snd.snd) = some (p x)) : ∃ r : Int, xs0b v0 = some r ∧ decide (r ≥ 0) = v0.any p := by
  have key : ∀ i, i ≤ v0.length → ∃ r : Int, xs0b.l2 (v0) ((↑v0.length : Int)) (i : Int) = some r ∧ decide (r ≥ 0) = (v0.drop i).any p := by
    refine upto ?_ ?_
    · exact ⟨-1, xs0b.eq2 (v0) ((↑v0.length : Int)) (v0.length : Int) (by simp only [xs0b.t2, ix_lt, Nat.lt_irrefl, decide_false, cond_false]), by simp⟩
    · intro i hi ih
      have hc := hp _ (getD_mem ([], (0 : Int), (0 : Int)) hi)
      rw [drop_getD ([], (0 : Int), (0 : Int)) hi, List.any_cons]
      cases hx : p (v0.getD i ([], (0 : Int), (0 : Int))) with
      | true => exact ⟨i, xs0b.eq2 (v0) ((↑v0.length : Int)) (i : Int) (by simp only [xs0b.t2, ix_lt, ix_nn, ix_nat, dec_t hi, cond_true, hc, hx, Option.bind_some]), by simp⟩
      | false =>
        obtain ⟨r, g0, g1⟩ := ih
        exact ⟨r, xs0b.eq2 (v0) ((↑v0.length : Int)) (i : Int) (by simp only [xs0b.t2, ix_lt, ix_nn, ix_nat, dec_t hi, cond_true, cond_false, hc, hx, Option.bind_some, wrap_succ (show i < 9223372036854775807 by omega), g0]), by rw [g1, Bool.false_or]⟩
  obtain ⟨r, g0, g1⟩ := key 0 (Nat.zero_le _)
  exact ⟨r, xs0b.eq v0 (by simp only [xs0b.t]; exact g0), by simpa using g1⟩
theorem xs01_ok (v0 : Zd) (p : (List Int) × (Int) → Bool) (hl : v0.length ≤ 4611686018427387904) (hp : ∀ x, x ∈ v0 → xi0g ((x).fst) ((x).snd) = some (p x)) : ∃ r : Int, xs01 v0 = some r ∧ decide (r ≥ 0) = v0.any p := by
  have key : ∀ i, i ≤ v0.length → ∃ r : Int, xs01.l2 (v0) ((↑v0.length : Int)) (i : Int) = some r ∧ decide (r ≥ 0) = (v0.drop i).any p := by
    refine upto ?_ ?_
    · exact ⟨-1, xs01.eq2 (v0) ((↑v0.length : Int)) (v0.length : Int) (by simp only [xs01.t2, ix_lt, Nat.lt_irrefl, decide_false, cond_false]), by simp⟩
    · intro i hi ih
      have hc := hp _ (getD_mem ([], (0 : Int)) hi)
      rw [drop_getD ([], (0 : Int)) hi, List.any_cons]
      cases hx : p (v0.getD i ([], (0 : Int))) with
      | true => exact ⟨i, xs01.eq2 (v0) ((↑v0.length : Int)) (i : Int) (by simp only [xs01.t2, ix_lt, ix_nn, ix_nat, dec_t hi, cond_true, hc, hx, Option.bind_some]), by simp⟩
      | false =>
        obtain ⟨r, g0, g1⟩ := ih
        exact ⟨r, xs01.eq2 (v0) ((↑v0.length : Int)) (i : Int) (by simp only [xs01.t2, ix_lt, ix_nn, ix_nat, dec_t hi, cond_true, cond_false, hc, hx, Option.bind_some, wrap_succ (show i < 9223372036854775807 by omega), g0]), by rw [g1, Bool.false_or]⟩
  obtain ⟨r, g0, g1⟩ := key 0 (Nat.zero_le _)
  exact ⟨r, xs01.eq v0 (by simp only [xs01.t]; exact g0), by simpa using g1⟩
theorem xs00_ok (v0 : Zd) (p : (List Int) × (Int) → Bool) (hl : v0.length ≤ 4611686018427387904) (hp : ∀ x, x ∈ v0 → xi0g ((x).fst) ((x).snd) = some (p x)) : xs00 v0 = some (v0.any p) := by
  obtain ⟨r, g0, g1⟩ := xs01_ok (v0) p hl hp
  exact xs00.eq v0 (by simp only [xs00.t, g0, Option.bind_some, g1])
theorem xi0h_ok (v0 : Zd) (p : (List Int) × (Int) → Bool) (hl : v0.length ≤ 4611686018427387904) (hp : ∀ x, x ∈ v0 → xi1m (((x).fst)) (((x).snd)) = some (p x)) : xi0h v0 = some (v0.all p) := by
  have g := xs00_ok (v0) (fun x => !p x) hl (fun x hx => xi0g.eq ((x).fst) ((x).snd) (by simp only [xi0g.t, hp x hx, Option.bind_some]))
  exact xi0h.eq v0 (by simp only [xi0h.t, g, Option.bind_some, List.all_eq_not_any_not])
end GoV

/- Small words of the program and of its specification. -/
namespace GoV
open Go
theorem xi2d_eq (x lo hi : Int) : xi2d x lo hi = some (inB lo hi x) := by
  refine xi2d.eq x lo hi ?_
  simp only [xi2d.t, inB]
  by_cases h : lo ≤ x <;> simp [h]
theorem xs2n_eq (x lo hi : Int) : xs2n x lo hi = some (inB lo hi x) := by
  refine xs2n.eq x lo hi ?_
  simp only [xs2n.t, inB]
  by_cases h : lo ≤ x <;> simp [h]
end GoV

/- Drawing: a cursor always answers. -/
namespace GoV
open Go
def Byt (b : List Int) : Prop := ∀ x, x ∈ b → 0 ≤ x ∧ x ≤ 255
theorem u64_id {x : Int} (h1 : 0 ≤ x) (h2 : x ≤ 255) : IntKind.u64.wrap x = x := by
  simp [IntKind.wrap, IntKind.signed, IntKind.bits]
  omega
theorem low_byte (x : BitVec IntKind.u64.bits) : 0 ≤ IntKind.i64.wrap (IntKind.u64.wrap (((x &&& BitVec.ofInt IntKind.u64.bits (255 : Int)).toNat : Nat) : Int)) ∧ IntKind.i64.wrap (IntKind.u64.wrap (((x &&& BitVec.ofInt IntKind.u64.bits (255 : Int)).toNat : Nat) : Int)) ≤ 255 := by
  have h : (x &&& BitVec.ofInt IntKind.u64.bits (255 : Int)).toNat ≤ 255 := by
    rw [BitVec.toNat_and]
    exact Nat.and_le_right
  rw [u64_id (by omega) (by omega), wrap_id (by omega) (by omega)]
  omega
section
variable {b : List Int} (hb : Byt b)
include hb
theorem nextD_ok {a : Int} (s : Int) (h0 : 0 ≤ a) (h1 : a ≤ 1000000) : ∃ x s', xs13 b a s = some (x, b, a + 1, s') ∧ 0 ≤ x ∧ x ≤ 255 := by
  have hw : IntKind.i64.wrap (a + 1) = a + 1 := wrap_id (by omega) (by omega)
  by_cases g : a < (b.length : Int)
  · have g2 : a.toNat < b.length := by omega
    have g3 : a + 1 ≤ (b.length : Int) := by omega
    have hx := hb _ (getD_mem (0 : Int) g2)
    have hwx : IntKind.i64.wrap (b.getD a.toNat 0) = b.getD a.toNat 0 := wrap_id (by omega) (by omega)
    have k : ∃ s', xs13.t some b a s = some (b.getD a.toNat 0, b, a + 1, s') := by
      simp only [xs13.t, dec_t g, dec_t h0, dec_t g2, hw, hwx, dec_t g3, cond_true]
      exact ⟨_, rfl⟩
    obtain ⟨s', k⟩ := k
    exact ⟨_, s', xs13.eq _ _ _ k, hx⟩
  · have g3 : ¬ a + 1 ≤ (b.length : Int) := by omega
    have k : ∃ x s', xs13.t some b a s = some (x, b, a + 1, s') ∧ 0 ≤ x ∧ x ≤ 255 := by
      simp only [xs13.t, dec_f g, hw, dec_f g3, cond_false]
      exact ⟨_, _, rfl, low_byte _⟩
    obtain ⟨x, s', k, hx⟩ := k
    exact ⟨x, s', xs13.eq _ _ _ k, hx⟩
theorem pickD_ok {a : Int} (s k : Int) (h0 : 0 ≤ a) (h1 : a ≤ 1000000) (hk : 2 ≤ k) (hk2 : k ≤ 200) : ∃ x s', xs14 b a s k = some (x, b, a + 1, s') ∧ 0 ≤ x ∧ x < k := by
  obtain ⟨x, s', e, hx⟩ := nextD_ok hb s h0 h1
  have g1 : ¬ k ≤ 1 := by omega
  have g2 : ¬ k > 200 := by omega
  have g3 : k ≠ 0 := by omega
  refine ⟨x.tmod k, s', xs14.eq _ _ _ _ ?_, Int.tmod_nonneg _ hx.1, Int.tmod_lt_of_pos _ (by omega)⟩
  simp only [xs14.t, dec_f g1, e, Option.bind_some, dec_f g2, dec_t g3, cond_true, cond_false]
theorem oneD_ok {a : Int} (s k : Int) (h0 : 0 ≤ a) (h1 : a ≤ 1000000) (hk : 2 ≤ k) (hk2 : k ≤ 200) : ∃ x s', xs18 b a s k = some (x, b, a + 1, s') := by
  obtain ⟨x, s', e, hx⟩ := pickD_ok hb s k h0 h1 hk hk2
  exact ⟨x == 0, s', xs18.eq _ _ _ _ (by simp only [xs18.t, e, Option.bind_some])⟩
theorem amongD_ok {a : Int} (s : Int) (l : List Int) (h0 : 0 ≤ a) (h1 : a ≤ 1000000) (hk : 2 ≤ l.length) (hk2 : l.length ≤ 200) : ∃ x s', xs0z b a s l = some (x, b, a + 1, s') := by
  obtain ⟨x, s', e, hx⟩ := pickD_ok hb s (l.length : Int) h0 h1 (by omega) (by omega)
  have g : x.toNat < l.length := by omega
  exact ⟨l.getD x.toNat 0, s', xs0z.eq _ _ _ _ (by simp only [xs0z.t, e, Option.bind_some, dec_t hx.1, dec_t g, cond_true])⟩
end
end GoV
