/- A part of the proof of FnExactCostOf: an interpreter of the model over plain data, its soundness, and what it makes of the functions that the statement reaches. Conditions: none beyond what the given statement itself says. -/
import Derived.Test.YtcilpkgidhkfjaaTJ
set_option linter.unusedVariables false
set_option linter.unusedSimpArgs false
set_option linter.unnecessarySimpa false
set_option linter.unusedSectionVars false
/- What the statements' own helpers answer (printed by wip/tools/lawgen.py). -/
namespace GoV
open Go
theorem laws_szIntS_ok (v0 : List Int) (v1 : Int) (hw : WfT (.sl (.int .i64)) v0) (h1 : 0 ≤ v1) (h2 : v1 ≤ 1048576) : ∃ r, laws_szIntS v0 v1 = some r ∧ r ≤ v1 ∧ (0 ≤ r → (szT (.sl (.int .i64)) v0 : Int) + r = v1) := by
  have hl := hw.1
  have e0 : IntKind.i64.wrap (v1 - (v0.length : Int)) = v1 - (v0.length : Int) := wrap_id (by omega) (by omega)
  by_cases hn : v1 - (v0.length : Int) < 0
  · exact ⟨-1, laws_szIntS.eq v0 v1 (by simp only [laws_szIntS.t, e0, dec_t hn, cond_true]), by omega, fun h => by omega⟩
  · exact ⟨v1 - (v0.length : Int), laws_szIntS.eq v0 v1 (by simp only [laws_szIntS.t, e0, dec_f hn, cond_false]), by omega, fun _ => by rw [szT_sl_flat (t := (.int .i64)) v0 rfl]; omega⟩
theorem laws_szIntSS_ok (v0 : List (List Int)) (v1 : Int) (hw : WfT (.sl (.sl (.int .i64))) v0) (h1 : 0 ≤ v1) (h2 : v1 ≤ 1048576) : ∃ r, laws_szIntSS v0 v1 = some r ∧ r ≤ v1 ∧ (0 ≤ r → (szT (.sl (.sl (.int .i64))) v0 : Int) + r = v1) := by
  have hl := hw.1
  have e0 : IntKind.i64.wrap (v1 - (v0.length : Int)) = v1 - (v0.length : Int) := wrap_id (by omega) (by omega)
  by_cases hn : v1 - (v0.length : Int) < 0
  · exact ⟨-1, laws_szIntSS.eq v0 v1 (by simp only [laws_szIntSS.t, e0, dec_t hn, cond_true]), by omega, fun h => by omega⟩
  · have key : ∀ i, i ≤ v0.length → ∀ m : Int, 0 ≤ m → m ≤ 1048576 → ∃ r, laws_szIntSS.l5 v0 m (i : Int) = some r ∧ r ≤ m ∧ (0 ≤ r → ((((v0.drop i).map (szT (.sl (.int .i64)))).sum : Nat) : Int) + r = m) := by
      refine upto ?_ ?_
      · intro m h1 h2
        exact ⟨m, laws_szIntSS.eq5 v0 m (v0.length : Int) (by simp only [laws_szIntSS.t5, ix_lt, Nat.lt_irrefl, decide_false, cond_false]), Int.le_refl _, fun _ => by simp⟩
      · intro i hi ih m h1 h2
        obtain ⟨r, hr, hr1, hr2⟩ := laws_szIntS_ok (v0.getD i []) m (hw.2 _ (getD_mem [] hi)) h1 h2
        by_cases hneg : r < 0
        · exact ⟨-1, laws_szIntSS.eq5 v0 m (i : Int) (by simp only [laws_szIntSS.t5, ix_lt, ix_nn, ix_nat, dec_t hi, cond_true, hr, Option.bind_some, dec_t hneg]), by omega, fun h => by omega⟩
        · obtain ⟨r2, g0, g1, g2⟩ := ih r (by omega) (by omega)
          refine ⟨r2, laws_szIntSS.eq5 v0 m (i : Int) (by simp only [laws_szIntSS.t5, ix_lt, ix_nn, ix_nat, dec_t hi, cond_true, hr, Option.bind_some, dec_f hneg, cond_false, wrap_succ (show i < 9223372036854775807 by omega), g0]), by omega, fun h => ?_⟩
          have k1 := hr2 (by omega)
          have k2 := g2 h
          rw [drop_getD [] hi]
          simp only [List.map_cons, List.sum_cons]
          simp only [szT] at k1 k2 ⊢
          omega
    obtain ⟨r, g0, g1, g2⟩ := key 0 (Nat.zero_le _) (v1 - (v0.length : Int)) (by omega) (by omega)
    refine ⟨r, laws_szIntSS.eq v0 v1 (by simp only [laws_szIntSS.t, e0, dec_f hn, cond_false]; exact g0), by omega, fun h => ?_⟩
    have := g2 h
    simp only [List.drop_zero] at this
    simp only [szT] at this ⊢
    omega
theorem laws_szStats_ok (v0 : List Int) (v1 : List (List Int)) (v2 : Int) (hw : WfT (.pair (.sl (.int .i64)) (.sl (.sl (.int .i64)))) (v0, v1)) (h1 : 0 ≤ v2) (h2 : v2 ≤ 1048576) : ∃ r, laws_szStats v0 v1 v2 = some r ∧ r ≤ v2 ∧ (0 ≤ r → (szT (.pair (.sl (.int .i64)) (.sl (.sl (.int .i64)))) (v0, v1) : Int) + r = v2) := by
  obtain ⟨r1, e1, a1, b1⟩ := laws_szIntS_ok v0 v2 hw.1 h1 h2
  by_cases n1 : r1 < 0
  · exact ⟨-1, laws_szStats.eq v0 v1 v2 (by simp only [laws_szStats.t, dec_t n1, e1, cond_true, cond_false, Option.bind_some]), by omega, fun h => by omega⟩
  obtain ⟨r2, e2, a2, b2⟩ := laws_szIntSS_ok v1 r1 hw.2 (by omega) (by omega)
  by_cases n2 : r2 < 0
  · exact ⟨-1, laws_szStats.eq v0 v1 v2 (by simp only [laws_szStats.t, e1, dec_f n1, dec_t n2, e2, cond_true, cond_false, Option.bind_some]), by omega, fun h => by omega⟩
  refine ⟨r2, laws_szStats.eq v0 v1 v2 (by simp only [laws_szStats.t, e1, dec_f n1, e2, dec_f n2, cond_true, cond_false, Option.bind_some]), by omega, fun h => ?_⟩
  have k1 := b1 (by omega)
  have k2 := b2 (by omega)
  simp only [szT] at k1 k2 ⊢
  omega
theorem laws_toIntS_id (v0 : List Int) (h : szT (.sl (.int .i64)) v0 ≤ 1073741824) : laws_toIntS v0 = some v0 := by
  have hlen : v0.length ≤ 1073741824 := Nat.le_trans (szT_len (t := (.int .i64))) h
  have key : ∀ i, i ≤ v0.length → ∀ a : List Int, a.length = v0.length → a.take i = v0.take i → laws_toIntS.l3 v0 a (i : Int) = some v0 := by
    refine upto ?_ ?_
    · intro a ha hh
      have ea := take_all_eq ha hh
      subst ea
      exact laws_toIntS.eq3 a a (a.length : Int) (by simp only [laws_toIntS.t3, ix_lt, Nat.lt_irrefl, decide_false, cond_false])
    · intro i hi ih a ha hh
      have g := ih (a.set i (v0.getD i (0 : Int))) (by simp [ha]) (set_step hi ha hh)
      have hia : i < a.length := by omega
      refine laws_toIntS.eq3 v0 a (i : Int) ?_
      simp only [laws_toIntS.t3, ix_lt, ix_nn, ix_nat, dec_t hi, dec_t hia, cond_true, wrap_succ (show i < 9223372036854775807 by omega)]
      exact g
  refine laws_toIntS.eq v0 ?_
  have h3 : ((v0.length : Int) ≤ ((4294967296 : Nat) : Int)) := by omega
  simp only [laws_toIntS.t, decide_true, dec_t h3, cond_true, ix_nat]
  exact key 0 (Nat.zero_le _) _ (by simp) (by simp)
theorem laws_toIntSS_id (v0 : List (List Int)) (h : szT (.sl (.sl (.int .i64))) v0 ≤ 1073741824) : laws_toIntSS v0 = some v0 := by
  have hlen : v0.length ≤ 1073741824 := Nat.le_trans (szT_len (t := (.sl (.int .i64)))) h
  have key : ∀ i, i ≤ v0.length → ∀ a : List (List Int), a.length = v0.length → a.take i = v0.take i → laws_toIntSS.l3 v0 a (i : Int) = some v0 := by
    refine upto ?_ ?_
    · intro a ha hh
      have ea := take_all_eq ha hh
      subst ea
      exact laws_toIntSS.eq3 a a (a.length : Int) (by simp only [laws_toIntSS.t3, ix_lt, Nat.lt_irrefl, decide_false, cond_false])
    · intro i hi ih a ha hh
      have hc := laws_toIntS_id (v0.getD i []) (Nat.le_trans (szT_mem (t := (.sl (.int .i64))) (getD_mem [] hi)) h)
      have g := ih (a.set i (v0.getD i [])) (by simp [ha]) (set_step hi ha hh)
      have hia : i < a.length := by omega
      refine laws_toIntSS.eq3 v0 a (i : Int) ?_
      simp only [laws_toIntSS.t3, ix_lt, ix_nn, ix_nat, dec_t hi, dec_t hia, cond_true, hc, Option.bind_some, wrap_succ (show i < 9223372036854775807 by omega)]
      exact g
  refine laws_toIntSS.eq v0 ?_
  have h3 : ((v0.length : Int) ≤ ((4294967296 : Nat) : Int)) := by omega
  simp only [laws_toIntSS.t, decide_true, dec_t h3, cond_true, ix_nat]
  exact key 0 (Nat.zero_le _) _ (by simp) (by simp)
theorem laws_toStats_id (v0 : List Int) (v1 : List (List Int)) (h : szT (.pair (.sl (.int .i64)) (.sl (.sl (.int .i64)))) (v0, v1) ≤ 1073741824) : laws_toStats v0 v1 = some (v0, v1) := by
  have e1 := laws_toIntS_id v0 (by simp only [szT] at h ⊢; omega)
  have e2 := laws_toIntSS_id v1 (by simp only [szT] at h ⊢; omega)
  exact laws_toStats.eq v0 v1 (by simp only [laws_toStats.t, e1, e2, Option.bind_some])
theorem slices_IndexFunc_int_int_impl_areAll_int_1_impl_GoodStats_1_ok (v0 : List Int) (p : Int → Bool) (hl : v0.length ≤ 4611686018427387904) (hp : ∀ x, x ∈ v0 → impl_areAll_int_1_impl_GoodStats_1 (x) = some (p x)) : ∃ r : Int, slices_IndexFunc_int_int_impl_areAll_int_1_impl_GoodStats_1 v0 = some r ∧ decide (r ≥ 0) = v0.any p := by
  have key : ∀ i, i ≤ v0.length → ∃ r : Int, slices_IndexFunc_int_int_impl_areAll_int_1_impl_GoodStats_1.l2 (v0) ((↑v0.length : Int)) (i : Int) = some r ∧ decide (r ≥ 0) = (v0.drop i).any p := by
    refine upto ?_ ?_
    · exact ⟨-1, slices_IndexFunc_int_int_impl_areAll_int_1_impl_GoodStats_1.eq2 (v0) ((↑v0.length : Int)) (v0.length : Int) (by simp only [slices_IndexFunc_int_int_impl_areAll_int_1_impl_GoodStats_1.t2, ix_lt, Nat.lt_irrefl, decide_false, cond_false]), by simp⟩
    · intro i hi ih
      have hc := hp _ (getD_mem (0 : Int) hi)
      rw [drop_getD (0 : Int) hi, List.any_cons]
      cases hx : p (v0.getD i (0 : Int)) with
      | true => exact ⟨i, slices_IndexFunc_int_int_impl_areAll_int_1_impl_GoodStats_1.eq2 (v0) ((↑v0.length : Int)) (i : Int) (by simp only [slices_IndexFunc_int_int_impl_areAll_int_1_impl_GoodStats_1.t2, ix_lt, ix_nn, ix_nat, dec_t hi, cond_true, hc, hx, Option.bind_some]), by simp⟩
      | false =>
        obtain ⟨r, g0, g1⟩ := ih
        exact ⟨r, slices_IndexFunc_int_int_impl_areAll_int_1_impl_GoodStats_1.eq2 (v0) ((↑v0.length : Int)) (i : Int) (by simp only [slices_IndexFunc_int_int_impl_areAll_int_1_impl_GoodStats_1.t2, ix_lt, ix_nn, ix_nat, dec_t hi, cond_true, cond_false, hc, hx, Option.bind_some, wrap_succ (show i < 9223372036854775807 by omega), g0]), by rw [g1, Bool.false_or]⟩
  obtain ⟨r, g0, g1⟩ := key 0 (Nat.zero_le _)
  exact ⟨r, slices_IndexFunc_int_int_impl_areAll_int_1_impl_GoodStats_1.eq v0 (by simp only [slices_IndexFunc_int_int_impl_areAll_int_1_impl_GoodStats_1.t]; exact g0), by simpa using g1⟩
theorem slices_ContainsFunc_int_int_impl_areAll_int_1_impl_GoodStats_1_ok (v0 : List Int) (p : Int → Bool) (hl : v0.length ≤ 4611686018427387904) (hp : ∀ x, x ∈ v0 → impl_areAll_int_1_impl_GoodStats_1 (x) = some (p x)) : slices_ContainsFunc_int_int_impl_areAll_int_1_impl_GoodStats_1 v0 = some (v0.any p) := by
  obtain ⟨r, g0, g1⟩ := slices_IndexFunc_int_int_impl_areAll_int_1_impl_GoodStats_1_ok (v0) p hl hp
  exact slices_ContainsFunc_int_int_impl_areAll_int_1_impl_GoodStats_1.eq v0 (by simp only [slices_ContainsFunc_int_int_impl_areAll_int_1_impl_GoodStats_1.t, g0, Option.bind_some, g1])
theorem impl_areAll_int_impl_GoodStats_1_ok (v0 : List Int) (p : Int → Bool) (hl : v0.length ≤ 4611686018427387904) (hp : ∀ x, x ∈ v0 → impl_GoodStats_1 ((x)) = some (p x)) : impl_areAll_int_impl_GoodStats_1 v0 = some (v0.all p) := by
  have g := slices_ContainsFunc_int_int_impl_areAll_int_1_impl_GoodStats_1_ok (v0) (fun x => !p x) hl (fun x hx => impl_areAll_int_1_impl_GoodStats_1.eq (x) (by simp only [impl_areAll_int_1_impl_GoodStats_1.t, hp x hx, Option.bind_some]))
  exact impl_areAll_int_impl_GoodStats_1.eq v0 (by simp only [impl_areAll_int_impl_GoodStats_1.t, g, Option.bind_some, List.all_eq_not_any_not])
theorem slices_IndexFunc_int_int_impl_areAll_int_1_impl_GoodStats_2_ok (v0 : List Int) (p : Int → Bool) (hl : v0.length ≤ 4611686018427387904) (hp : ∀ x, x ∈ v0 → impl_areAll_int_1_impl_GoodStats_2 (x) = some (p x)) : ∃ r : Int, slices_IndexFunc_int_int_impl_areAll_int_1_impl_GoodStats_2 v0 = some r ∧ decide (r ≥ 0) = v0.any p := by
  have key : ∀ i, i ≤ v0.length → ∃ r : Int, slices_IndexFunc_int_int_impl_areAll_int_1_impl_GoodStats_2.l2 (v0) ((↑v0.length : Int)) (i : Int) = some r ∧ decide (r ≥ 0) = (v0.drop i).any p := by
    refine upto ?_ ?_
    · exact ⟨-1, slices_IndexFunc_int_int_impl_areAll_int_1_impl_GoodStats_2.eq2 (v0) ((↑v0.length : Int)) (v0.length : Int) (by simp only [slices_IndexFunc_int_int_impl_areAll_int_1_impl_GoodStats_2.t2, ix_lt, Nat.lt_irrefl, decide_false, cond_false]), by simp⟩
    · intro i hi ih
      have hc := hp _ (getD_mem (0 : Int) hi)
      rw [drop_getD (0 : Int) hi, List.any_cons]
      cases hx : p (v0.getD i (0 : Int)) with
      | true => exact ⟨i, slices_IndexFunc_int_int_impl_areAll_int_1_impl_GoodStats_2.eq2 (v0) ((↑v0.length : Int)) (i : Int) (by simp only [slices_IndexFunc_int_int_impl_areAll_int_1_impl_GoodStats_2.t2, ix_lt, ix_nn, ix_nat, dec_t hi, cond_true, hc, hx, Option.bind_some]), by simp⟩
      | false =>
        obtain ⟨r, g0, g1⟩ := ih
        exact ⟨r, slices_IndexFunc_int_int_impl_areAll_int_1_impl_GoodStats_2.eq2 (v0) ((↑v0.length : Int)) (i : Int) (by simp only [slices_IndexFunc_int_int_impl_areAll_int_1_impl_GoodStats_2.t2, ix_lt, ix_nn, ix_nat, dec_t hi, cond_true, cond_false, hc, hx, Option.bind_some, wrap_succ (show i < 9223372036854775807 by omega), g0]), by rw [g1, Bool.false_or]⟩
  obtain ⟨r, g0, g1⟩ := key 0 (Nat.zero_le _)
  exact ⟨r, slices_IndexFunc_int_int_impl_areAll_int_1_impl_GoodStats_2.eq v0 (by simp only [slices_IndexFunc_int_int_impl_areAll_int_1_impl_GoodStats_2.t]; exact g0), by simpa using g1⟩
theorem slices_ContainsFunc_int_int_impl_areAll_int_1_impl_GoodStats_2_ok (v0 : List Int) (p : Int → Bool) (hl : v0.length ≤ 4611686018427387904) (hp : ∀ x, x ∈ v0 → impl_areAll_int_1_impl_GoodStats_2 (x) = some (p x)) : slices_ContainsFunc_int_int_impl_areAll_int_1_impl_GoodStats_2 v0 = some (v0.any p) := by
  obtain ⟨r, g0, g1⟩ := slices_IndexFunc_int_int_impl_areAll_int_1_impl_GoodStats_2_ok (v0) p hl hp
  exact slices_ContainsFunc_int_int_impl_areAll_int_1_impl_GoodStats_2.eq v0 (by simp only [slices_ContainsFunc_int_int_impl_areAll_int_1_impl_GoodStats_2.t, g0, Option.bind_some, g1])
theorem impl_areAll_int_impl_GoodStats_2_ok (v0 : List Int) (p : Int → Bool) (hl : v0.length ≤ 4611686018427387904) (hp : ∀ x, x ∈ v0 → impl_GoodStats_2 ((x)) = some (p x)) : impl_areAll_int_impl_GoodStats_2 v0 = some (v0.all p) := by
  have g := slices_ContainsFunc_int_int_impl_areAll_int_1_impl_GoodStats_2_ok (v0) (fun x => !p x) hl (fun x hx => impl_areAll_int_1_impl_GoodStats_2.eq (x) (by simp only [impl_areAll_int_1_impl_GoodStats_2.t, hp x hx, Option.bind_some]))
  exact impl_areAll_int_impl_GoodStats_2.eq v0 (by simp only [impl_areAll_int_impl_GoodStats_2.t, g, Option.bind_some, List.all_eq_not_any_not])
theorem laws_eqIntS_rf (v0 : List Int) (h : szT (.sl (.int .i64)) v0 ≤ 1073741824) : laws_eqIntS v0 v0 = some true := by
  have hlen : v0.length ≤ 1073741824 := Nat.le_trans (szT_len (t := (.int .i64))) h
  have key : ∀ i, i ≤ v0.length → laws_eqIntS.l4 v0 v0 (i : Int) = some true := by
    refine upto ?_ ?_
    · exact laws_eqIntS.eq4 v0 v0 (v0.length : Int) (by simp only [laws_eqIntS.t4, ix_lt, Nat.lt_irrefl, decide_false, cond_false])
    · intro i hi ih
      exact laws_eqIntS.eq4 v0 v0 (i : Int) (by simp only [laws_eqIntS.t4, ix_lt, ix_nn, ix_nat, dec_t hi, cond_true, cond_false, bne_ref, beq_ref, bang_t, wrap_succ (show i < 9223372036854775807 by omega), ih])
  exact laws_eqIntS.eq v0 v0 (by simp only [laws_eqIntS.t, bne_ref, cond_false]; exact key 0 (Nat.zero_le _))
theorem laws_eqIntSS_rf (v0 : List (List Int)) (h : szT (.sl (.sl (.int .i64))) v0 ≤ 1073741824) : laws_eqIntSS v0 v0 = some true := by
  have hlen : v0.length ≤ 1073741824 := Nat.le_trans (szT_len (t := (.sl (.int .i64)))) h
  have key : ∀ i, i ≤ v0.length → laws_eqIntSS.l4 v0 v0 (i : Int) = some true := by
    refine upto ?_ ?_
    · exact laws_eqIntSS.eq4 v0 v0 (v0.length : Int) (by simp only [laws_eqIntSS.t4, ix_lt, Nat.lt_irrefl, decide_false, cond_false])
    · intro i hi ih
      have hc := laws_eqIntS_rf (v0.getD i []) (Nat.le_trans (szT_mem (t := (.sl (.int .i64))) (getD_mem [] hi)) h)
      exact laws_eqIntSS.eq4 v0 v0 (i : Int) (by simp only [laws_eqIntSS.t4, ix_lt, ix_nn, ix_nat, dec_t hi, cond_true, cond_false, bne_ref, beq_ref, bang_t, hc, Option.bind_some, bang_t, wrap_succ (show i < 9223372036854775807 by omega), ih])
  exact laws_eqIntSS.eq v0 v0 (by simp only [laws_eqIntSS.t, bne_ref, cond_false]; exact key 0 (Nat.zero_le _))
theorem laws_eqStats_rf (v0 : List Int) (v1 : List (List Int)) (h : szT (.pair (.sl (.int .i64)) (.sl (.sl (.int .i64)))) (v0, v1) ≤ 1073741824) : laws_eqStats v0 v1 v0 v1 = some true := by
  have e1 := laws_eqIntS_rf v0 (by simp only [szT] at h ⊢; omega)
  have e2 := laws_eqIntSS_rf v1 (by simp only [szT] at h ⊢; omega)
  exact laws_eqStats.eq v0 v1 v0 v1 (by simp only [laws_eqStats.t, e1, e2, Option.bind_some, bne_ref, beq_ref, bang_t, cond_false])
end GoV

/- Small words of the program and of its specification. -/
namespace GoV
open Go
theorem impl_within_eq (x lo hi : Int) : impl_within x lo hi = some (inB lo hi x) := by
  refine impl_within.eq x lo hi ?_
  simp only [impl_within.t, inB]
  by_cases h : lo ≤ x <;> simp [h]
theorem spec_l1In_eq (x lo hi : Int) : spec_l1In x lo hi = some (inB lo hi x) := by
  refine spec_l1In.eq x lo hi ?_
  simp only [spec_l1In.t, inB]
  by_cases h : lo ≤ x <;> simp [h]
end GoV

/- Statistics: what is good, alike for the program and its specification. -/
namespace GoV
open Go
def goodF (v1 : List (List Int)) (i : Nat) : Bool := decide ((v1.getD i []).length = i) && (v1.getD i []).all (inB 1 10)
def goodS (v0 : List Int) (v1 : List (List Int)) : Bool :=
  inB 1 6 (v0.length : Int) && (decide (v1.length = v0.length) && allR (fun i => inB 1 50 (v0.getD i 0) && goodF v1 i) 0 v0.length)
theorem goodS_iff {v0 : List Int} {v1 : List (List Int)} : goodS v0 v1 = true ↔
    (1 ≤ v0.length ∧ v0.length ≤ 6) ∧ v1.length = v0.length ∧ ∀ i, i < v0.length → (1 ≤ v0.getD i 0 ∧ v0.getD i 0 ≤ 50) ∧ (v1.getD i []).length = i ∧ ∀ x, x ∈ v1.getD i [] → 1 ≤ x ∧ x ≤ 10 := by
  simp only [goodS, goodF, Bool.and_eq_true, inB_iff, decide_eq_true_eq, allR_iff, List.all_eq_true]
  constructor
  · rintro ⟨h1, h2, h3⟩
    exact ⟨by omega, h2, fun i hi => h3 i (Nat.zero_le _) hi⟩
  · rintro ⟨h1, h2, h3⟩
    exact ⟨by omega, h2, fun i _ hi => h3 i hi⟩
theorem impl_GoodStats_1_eq (x : Int) : impl_GoodStats_1 x = some (inB 1 50 x) := impl_GoodStats_1.eq x (by simp only [impl_GoodStats_1.t, impl_within_eq, Option.bind_some])
theorem impl_GoodStats_2_eq (x : Int) : impl_GoodStats_2 x = some (inB 1 10 x) := impl_GoodStats_2.eq x (by simp only [impl_GoodStats_2.t, impl_within_eq, Option.bind_some])
theorem impl_GoodStats_eq (v0 : List Int) (v1 : List (List Int)) (h0 : v0.length ≤ 1073741824) (h1 : ∀ x, x ∈ v1 → x.length ≤ 1073741824) : impl_GoodStats v0 v1 = some (goodS v0 v1) := by
  have e1 := impl_areAll_int_impl_GoodStats_1_ok v0 (inB 1 50) (by omega) (fun x _ => impl_GoodStats_1_eq x)
  have key : v1.length ≤ 6 → ∀ i, i ≤ v1.length → impl_GoodStats.l4 v1 (v1.length : Int) (i : Int) = some (allR (goodF v1) i v1.length) := by
    intro hb
    refine upto ?_ ?_
    · exact impl_GoodStats.eq4 _ _ _ (by simp only [impl_GoodStats.t4, ix_lt, Nat.lt_irrefl, decide_false, cond_false, allR_end])
    · intro i hi ih
      have e2 := impl_areAll_int_impl_GoodStats_2_ok (v1.getD i []) (inB 1 10) (by have := h1 _ (getD_mem [] hi); omega) (fun x _ => impl_GoodStats_2_eq x)
      refine impl_GoodStats.eq4 _ _ _ ?_
      simp only [impl_GoodStats.t4, ix_lt, ix_nn, ix_nat, dec_t hi, cond_true, bneI, e2, Option.bind_some, wrap_succ (show i < 9223372036854775807 by omega), ih]
      rw [allR_step _ hi]
      simp only [goodF]
      cases decide ((v1.getD i []).length = i) <;> cases (v1.getD i []).all (inB 1 10) <;> simp
  refine impl_GoodStats.eq v0 v1 ?_
  simp only [impl_GoodStats.t, impl_within_eq, e1, Option.bind_some, bneI]
  by_cases h2 : inB 1 6 (v0.length : Int) = true
  · have h3 := inB_iff.1 h2
    by_cases h4 : v1.length = v0.length
    · have := key (by omega) 0 (Nat.zero_le _)
      by_cases h5 : v0.all (inB 1 50) = true
      · simp only [h2, h4, h5, bang_t, bang_f, decide_true, cond_false, cond_true]
        rw [h4] at this
        refine Eq.trans this ?_
        congr 1
        refine bool_eq ?_
        rw [goodS_iff]
        simp only [allR_iff, goodF, Bool.and_eq_true, decide_eq_true_eq, List.all_eq_true, inB_iff] at h5 ⊢
        constructor
        · intro h
          refine ⟨by omega, h4, fun i hi => ⟨h5 _ (getD_mem 0 hi), (h i (Nat.zero_le _) hi).1, (h i (Nat.zero_le _) hi).2⟩⟩
        · rintro ⟨_, _, h⟩ i _ hi
          exact (h i hi).2
      · have h6 : goodS v0 v1 = false := by
          rw [Bool.eq_false_iff]
          intro hg
          apply h5
          rw [goodS_iff] at hg
          simp only [List.all_eq_true, inB_iff]
          intro x hx
          obtain ⟨i, hi, rfl⟩ := List.mem_iff_getElem.1 hx
          have := (hg.2.2 i hi).1
          rwa [getD_of_lt hi] at this
        rw [Bool.not_eq_true] at h5
        simp only [h2, h4, h5, h6, bang_t, bang_f, decide_true, cond_false, cond_true]
    · have h6 : goodS v0 v1 = false := by simp [goodS, h4]
      simp only [h2, h6, dec_f h4, bang_t, bang_f, cond_false, cond_true]
  · rw [Bool.not_eq_true] at h2
    have h6 : goodS v0 v1 = false := by simp [goodS, h2]
    simp only [h2, h6, bang_f, cond_true]
theorem spec_GoodStats_eq (v0 : List Int) (v1 : List (List Int)) (h0 : v0.length ≤ 1073741824) (h1 : ∀ x, x ∈ v1 → x.length ≤ 1073741824) : spec_GoodStats v0 v1 = some (goodS v0 v1) := by
  have key : v0.length ≤ 6 → v1.length = v0.length → ∀ i, i ≤ v0.length → spec_GoodStats.l4 v0 v1 v0 (v0.length : Int) (i : Int) = some (allR (fun i => inB 1 50 (v0.getD i 0) && goodF v1 i) i v0.length) := by
    intro hb hv
    refine upto ?_ ?_
    · exact spec_GoodStats.eq4 _ _ _ _ _ (by simp only [spec_GoodStats.t4, ix_lt, Nat.lt_irrefl, decide_false, cond_false, allR_end])
    · intro i hi ih
      have hi1 : i < v1.length := by omega
      have hx := h1 _ (getD_mem [] hi1)
      -- the factors
      have inner : ∀ j, j ≤ (v1.getD i []).length → spec_GoodStats.l9 v0 v1 v0 (v0.length : Int) (i : Int) (v1.getD i []) ((v1.getD i []).length : Int) (j : Int) =
          some (((v1.getD i []).drop j).all (inB 1 10) && allR (fun i => inB 1 50 (v0.getD i 0) && goodF v1 i) (i + 1) v0.length) := by
        refine upto ?_ ?_
        · refine spec_GoodStats.eq9 _ _ _ _ _ _ _ _ ?_
          simp only [spec_GoodStats.t9, ix_lt, Nat.lt_irrefl, decide_false, cond_false, wrap_succ (show i < 9223372036854775807 by omega), ih]
          simp
        · intro j hj ihj
          refine spec_GoodStats.eq9 _ _ _ _ _ _ _ _ ?_
          simp only [spec_GoodStats.t9, ix_lt, ix_nn, ix_nat, dec_t hj, cond_true, spec_l1In_eq, Option.bind_some, wrap_succ (show j < 9223372036854775807 by omega), ihj]
          rw [drop_getD 0 hj, List.all_cons]
          cases inB 1 10 ((v1.getD i []).getD j 0) <;> simp
      refine spec_GoodStats.eq4 _ _ _ _ _ ?_
      have g := inner 0 (Nat.zero_le _)
      simp only [spec_GoodStats.t4, ix_lt, ix_nn, ix_nat, dec_t hi, dec_t hi1, cond_true, spec_l1In_eq, Option.bind_some, bneI]
      rw [allR_step _ hi]
      simp only [List.drop_zero] at g
      cases h7 : inB 1 50 (v0.getD i 0)
      · simp
      · by_cases h8 : (v1.getD i []).length = i
        · simp only [goodF, dec_t h8, bang_t, cond_false, Bool.true_and]
          exact g
        · simp only [goodF, dec_f h8, bang_t, bang_f, cond_false, cond_true, Bool.false_and, Bool.true_and]
  refine spec_GoodStats.eq v0 v1 ?_
  simp only [spec_GoodStats.t, spec_l1In_eq, Option.bind_some, bneI]
  by_cases h2 : inB 1 6 (v0.length : Int) = true
  · have h3 := inB_iff.1 h2
    by_cases h4 : v1.length = v0.length
    · simp only [goodS, h2, dec_t h4, bang_t, cond_false, Bool.true_and]
      exact key (by omega) h4 0 (Nat.zero_le _)
    · simp only [goodS, h2, dec_f h4, bang_t, bang_f, cond_false, cond_true, Bool.true_and, Bool.false_and]
  · rw [Bool.not_eq_true] at h2
    simp only [goodS, h2, bang_f, cond_true, Bool.false_and]
end GoV
