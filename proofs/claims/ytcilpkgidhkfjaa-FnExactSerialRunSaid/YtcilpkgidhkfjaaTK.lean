/- A part of the proof of FnExactSerialRun: an interpreter of the model over plain data, its soundness, and what it makes of the functions that the statement reaches. Conditions: none beyond what the given statement itself says. -/
import Derived.Test.YtcilpkgidhkfjaaTJ
set_option linter.unusedVariables false
set_option linter.unusedSimpArgs false
set_option linter.unnecessarySimpa false
set_option linter.unusedSectionVars false
/- What the statements' own helpers answer (printed by wip/tools/lawgen.py). -/
namespace GoV
open Go
theorem laws_szStepS_ok (v0 : List (Int × Int × Int)) (v1 : Int) (hw : WfT (.sl (.pair (.int .i64) (.pair (.int .i64) (.int .i64)))) v0) (h1 : 0 ≤ v1) (h2 : v1 ≤ 1048576) : ∃ r, laws_szStepS v0 v1 = some r ∧ r ≤ v1 ∧ (0 ≤ r → (szT (.sl (.pair (.int .i64) (.pair (.int .i64) (.int .i64)))) v0 : Int) + r = v1) := by
  have hl := hw.1
  have e0 : IntKind.i64.wrap (v1 - (v0.length : Int)) = v1 - (v0.length : Int) := wrap_id (by omega) (by omega)
  by_cases hn : v1 - (v0.length : Int) < 0
  · exact ⟨-1, laws_szStepS.eq v0 v1 (by simp only [laws_szStepS.t, e0, dec_t hn, cond_true]), by omega, fun h => by omega⟩
  · exact ⟨v1 - (v0.length : Int), laws_szStepS.eq v0 v1 (by simp only [laws_szStepS.t, e0, dec_f hn, cond_false]), by omega, fun _ => by rw [szT_sl_flat (t := (.pair (.int .i64) (.pair (.int .i64) (.int .i64)))) v0 rfl]; omega⟩
theorem laws_toStep_id (v0 : Int) (v1 : Int) (v2 : Int) (h : szT (.pair (.int .i64) (.pair (.int .i64) (.int .i64))) (v0, (v1, v2)) ≤ 1073741824) : laws_toStep v0 v1 v2 = some (v0, v1, v2) := by
  exact laws_toStep.eq v0 v1 v2 (by simp only [laws_toStep.t, Option.bind_some])
theorem laws_toStepS_id (v0 : List (Int × Int × Int)) (h : szT (.sl (.pair (.int .i64) (.pair (.int .i64) (.int .i64)))) v0 ≤ 1073741824) : laws_toStepS v0 = some v0 := by
  have hlen : v0.length ≤ 1073741824 := Nat.le_trans (szT_len (t := (.pair (.int .i64) (.pair (.int .i64) (.int .i64))))) h
  have key : ∀ i, i ≤ v0.length → ∀ a : List (Int × Int × Int), a.length = v0.length → a.take i = v0.take i → laws_toStepS.l3 v0 a (i : Int) = some v0 := by
    refine upto ?_ ?_
    · intro a ha hh
      have ea := take_all_eq ha hh
      subst ea
      exact laws_toStepS.eq3 a a (a.length : Int) (by simp only [laws_toStepS.t3, ix_lt, Nat.lt_irrefl, decide_false, cond_false])
    · intro i hi ih a ha hh
      have hc := laws_toStep_id ((v0.getD i ((0 : Int), (0 : Int), (0 : Int))).fst) ((v0.getD i ((0 : Int), (0 : Int), (0 : Int))).snd.fst) ((v0.getD i ((0 : Int), (0 : Int), (0 : Int))).snd.snd) (Nat.le_trans (szT_mem (t := (.pair (.int .i64) (.pair (.int .i64) (.int .i64)))) (getD_mem ((0 : Int), (0 : Int), (0 : Int)) hi)) h)
      have g := ih (a.set i (v0.getD i ((0 : Int), (0 : Int), (0 : Int)))) (by simp [ha]) (set_step hi ha hh)
      have hia : i < a.length := by omega
      refine laws_toStepS.eq3 v0 a (i : Int) ?_
      simp only [laws_toStepS.t3, ix_lt, ix_nn, ix_nat, dec_t hi, dec_t hia, cond_true, hc, Option.bind_some, wrap_succ (show i < 9223372036854775807 by omega)]
      exact g
  refine laws_toStepS.eq v0 ?_
  have h3 : ((v0.length : Int) ≤ ((4294967296 : Nat) : Int)) := by omega
  simp only [laws_toStepS.t, decide_true, dec_t h3, cond_true, ix_nat]
  exact key 0 (Nat.zero_le _) _ (by simp) (by simp)
theorem laws_toIntS_id (v0 : List Int) (h : szT (.sl (.int .i64)) v0 ≤ 1073741824) : laws_toIntS v0 = some v0 := by
  have hlen : v0.length ≤ 1073741824 := Nat.le_trans (szT_len (t := (.int .i64))) h
  have key : ∀ i, i ≤ v0.length → ∀ a : List Int, a.length = v0.length → a.take i = v0.take i → laws_toIntS.l3 v0 a (i : Int) = some v0 := by
    refine upto ?_ ?_
    · intro a ha hh
      have ea := take_all_eq ha hh
      subst ea
      exact laws_toIntS.eq3 a a (a.length : Int) (by simp only [laws_toIntS.t3, ix_lt, Nat.lt_irrefl, decide_false, cond_false])
    · intro i hi ih a ha hh
      have g := ih (a.set i (v0.getD i (0 : Int))) (by simp [ha]) (set_step hi ha hh)
      have hia : i < a.length := by omega
      refine laws_toIntS.eq3 v0 a (i : Int) ?_
      simp only [laws_toIntS.t3, ix_lt, ix_nn, ix_nat, dec_t hi, dec_t hia, cond_true, wrap_succ (show i < 9223372036854775807 by omega)]
      exact g
  refine laws_toIntS.eq v0 ?_
  have h3 : ((v0.length : Int) ≤ ((4294967296 : Nat) : Int)) := by omega
  simp only [laws_toIntS.t, decide_true, dec_t h3, cond_true, ix_nat]
  exact key 0 (Nat.zero_le _) _ (by simp) (by simp)
theorem slices_IndexFunc_impl_Step_impl_Step_impl_areAll_impl_Step_1_impl_isStep_ok (v0 : List (Int × Int × Int)) (p : (Int) × ((Int) × (Int)) → Bool) (hl : v0.length ≤ 4611686018427387904) (hp : ∀ x, x ∈ v0 → impl_areAll_impl_Step_1_impl_isStep ((x).fst) ((x).snd.fst) ((x).snd.snd) = some (p x)) : ∃ r : Int, slices_IndexFunc_impl_Step_impl_Step_impl_areAll_impl_Step_1_impl_isStep v0 = some r ∧ decide (r ≥ 0) = v0.any p := by
  have key : ∀ i, i ≤ v0.length → ∃ r : Int, slices_IndexFunc_impl_Step_impl_Step_impl_areAll_impl_Step_1_impl_isStep.l2 (v0) ((↑v0.length : Int)) (i : Int) = some r ∧ decide (r ≥ 0) = (v0.drop i).any p := by
    refine upto ?_ ?_
    · exact ⟨-1, slices_IndexFunc_impl_Step_impl_Step_impl_areAll_impl_Step_1_impl_isStep.eq2 (v0) ((↑v0.length : Int)) (v0.length : Int) (by simp only [slices_IndexFunc_impl_Step_impl_Step_impl_areAll_impl_Step_1_impl_isStep.t2, ix_lt, Nat.lt_irrefl, decide_false, cond_false]), by simp⟩
    · intro i hi ih
      have hc := hp _ (getD_mem ((0 : Int), (0 : Int), (0 : Int)) hi)
      rw [drop_getD ((0 : Int), (0 : Int), (0 : Int)) hi, List.any_cons]
      cases hx : p (v0.getD i ((0 : Int), (0 : Int), (0 : Int))) with
      | true => exact ⟨i, slices_IndexFunc_impl_Step_impl_Step_impl_areAll_impl_Step_1_impl_isStep.eq2 (v0) ((↑v0.length : Int)) (i : Int) (by simp only [slices_IndexFunc_impl_Step_impl_Step_impl_areAll_impl_Step_1_impl_isStep.t2, ix_lt, ix_nn, ix_nat, dec_t hi, cond_true, hc, hx, Option.bind_some]), by simp⟩
      | false =>
        obtain ⟨r, g0, g1⟩ := ih
        exact ⟨r, slices_IndexFunc_impl_Step_impl_Step_impl_areAll_impl_Step_1_impl_isStep.eq2 (v0) ((↑v0.length : Int)) (i : Int) (by simp only [slices_IndexFunc_impl_Step_impl_Step_impl_areAll_impl_Step_1_impl_isStep.t2, ix_lt, ix_nn, ix_nat, dec_t hi, cond_true, cond_false, hc, hx, Option.bind_some, wrap_succ (show i < 9223372036854775807 by omega), g0]), by rw [g1, Bool.false_or]⟩
  obtain ⟨r, g0, g1⟩ := key 0 (Nat.zero_le _)
  exact ⟨r, slices_IndexFunc_impl_Step_impl_Step_impl_areAll_impl_Step_1_impl_isStep.eq v0 (by simp only [slices_IndexFunc_impl_Step_impl_Step_impl_areAll_impl_Step_1_impl_isStep.t]; exact g0), by simpa using g1⟩
theorem slices_ContainsFunc_impl_Step_impl_Step_impl_areAll_impl_Step_1_impl_isStep_ok (v0 : List (Int × Int × Int)) (p : (Int) × ((Int) × (Int)) → Bool) (hl : v0.length ≤ 4611686018427387904) (hp : ∀ x, x ∈ v0 → impl_areAll_impl_Step_1_impl_isStep ((x).fst) ((x).snd.fst) ((x).snd.snd) = some (p x)) : slices_ContainsFunc_impl_Step_impl_Step_impl_areAll_impl_Step_1_impl_isStep v0 = some (v0.any p) := by
  obtain ⟨r, g0, g1⟩ := slices_IndexFunc_impl_Step_impl_Step_impl_areAll_impl_Step_1_impl_isStep_ok (v0) p hl hp
  exact slices_ContainsFunc_impl_Step_impl_Step_impl_areAll_impl_Step_1_impl_isStep.eq v0 (by simp only [slices_ContainsFunc_impl_Step_impl_Step_impl_areAll_impl_Step_1_impl_isStep.t, g0, Option.bind_some, g1])
theorem impl_areAll_impl_Step_impl_isStep_ok (v0 : List (Int × Int × Int)) (p : (Int) × ((Int) × (Int)) → Bool) (hl : v0.length ≤ 4611686018427387904) (hp : ∀ x, x ∈ v0 → impl_isStep (((x).fst)) (((x).snd.fst)) (((x).snd.snd)) = some (p x)) : impl_areAll_impl_Step_impl_isStep v0 = some (v0.all p) := by
  have g := slices_ContainsFunc_impl_Step_impl_Step_impl_areAll_impl_Step_1_impl_isStep_ok (v0) (fun x => !p x) hl (fun x hx => impl_areAll_impl_Step_1_impl_isStep.eq ((x).fst) ((x).snd.fst) ((x).snd.snd) (by simp only [impl_areAll_impl_Step_1_impl_isStep.t, hp x hx, Option.bind_some]))
  exact impl_areAll_impl_Step_impl_isStep.eq v0 (by simp only [impl_areAll_impl_Step_impl_isStep.t, g, Option.bind_some, List.all_eq_not_any_not])
theorem slices_IndexFunc_int_int_impl_areAll_int_1_impl_isTxn_ok (v0 : List Int) (p : Int → Bool) (hl : v0.length ≤ 4611686018427387904) (hp : ∀ x, x ∈ v0 → impl_areAll_int_1_impl_isTxn (x) = some (p x)) : ∃ r : Int, slices_IndexFunc_int_int_impl_areAll_int_1_impl_isTxn v0 = some r ∧ decide (r ≥ 0) = v0.any p := by
  have key : ∀ i, i ≤ v0.length → ∃ r : Int, slices_IndexFunc_int_int_impl_areAll_int_1_impl_isTxn.l2 (v0) ((↑v0.length : Int)) (i : Int) = some r ∧ decide (r ≥ 0) = (v0.drop i).any p := by
    refine upto ?_ ?_
    · exact ⟨-1, slices_IndexFunc_int_int_impl_areAll_int_1_impl_isTxn.eq2 (v0) ((↑v0.length : Int)) (v0.length : Int) (by simp only [slices_IndexFunc_int_int_impl_areAll_int_1_impl_isTxn.t2, ix_lt, Nat.lt_irrefl, decide_false, cond_false]), by simp⟩
    · intro i hi ih
      have hc := hp _ (getD_mem (0 : Int) hi)
      rw [drop_getD (0 : Int) hi, List.any_cons]
      cases hx : p (v0.getD i (0 : Int)) with
      | true => exact ⟨i, slices_IndexFunc_int_int_impl_areAll_int_1_impl_isTxn.eq2 (v0) ((↑v0.length : Int)) (i : Int) (by simp only [slices_IndexFunc_int_int_impl_areAll_int_1_impl_isTxn.t2, ix_lt, ix_nn, ix_nat, dec_t hi, cond_true, hc, hx, Option.bind_some]), by simp⟩
      | false =>
        obtain ⟨r, g0, g1⟩ := ih
        exact ⟨r, slices_IndexFunc_int_int_impl_areAll_int_1_impl_isTxn.eq2 (v0) ((↑v0.length : Int)) (i : Int) (by simp only [slices_IndexFunc_int_int_impl_areAll_int_1_impl_isTxn.t2, ix_lt, ix_nn, ix_nat, dec_t hi, cond_true, cond_false, hc, hx, Option.bind_some, wrap_succ (show i < 9223372036854775807 by omega), g0]), by rw [g1, Bool.false_or]⟩
  obtain ⟨r, g0, g1⟩ := key 0 (Nat.zero_le _)
  exact ⟨r, slices_IndexFunc_int_int_impl_areAll_int_1_impl_isTxn.eq v0 (by simp only [slices_IndexFunc_int_int_impl_areAll_int_1_impl_isTxn.t]; exact g0), by simpa using g1⟩
theorem slices_ContainsFunc_int_int_impl_areAll_int_1_impl_isTxn_ok (v0 : List Int) (p : Int → Bool) (hl : v0.length ≤ 4611686018427387904) (hp : ∀ x, x ∈ v0 → impl_areAll_int_1_impl_isTxn (x) = some (p x)) : slices_ContainsFunc_int_int_impl_areAll_int_1_impl_isTxn v0 = some (v0.any p) := by
  obtain ⟨r, g0, g1⟩ := slices_IndexFunc_int_int_impl_areAll_int_1_impl_isTxn_ok (v0) p hl hp
  exact slices_ContainsFunc_int_int_impl_areAll_int_1_impl_isTxn.eq v0 (by simp only [slices_ContainsFunc_int_int_impl_areAll_int_1_impl_isTxn.t, g0, Option.bind_some, g1])
theorem impl_areAll_int_impl_isTxn_ok (v0 : List Int) (p : Int → Bool) (hl : v0.length ≤ 4611686018427387904) (hp : ∀ x, x ∈ v0 → impl_isTxn ((x)) = some (p x)) : impl_areAll_int_impl_isTxn v0 = some (v0.all p) := by
  have g := slices_ContainsFunc_int_int_impl_areAll_int_1_impl_isTxn_ok (v0) (fun x => !p x) hl (fun x hx => impl_areAll_int_1_impl_isTxn.eq (x) (by simp only [impl_areAll_int_1_impl_isTxn.t, hp x hx, Option.bind_some]))
  exact impl_areAll_int_impl_isTxn.eq v0 (by simp only [impl_areAll_int_impl_isTxn.t, g, Option.bind_some, List.all_eq_not_any_not])
theorem slices_IndexFunc_impl_Step_impl_Step_impl_stepsOf_1_ok (v0 : List (Int × Int × Int)) (v1 : Int) (p : (Int) × ((Int) × (Int)) → Bool) (hl : v0.length ≤ 4611686018427387904) (hp : ∀ x, x ∈ v0 → impl_stepsOf_1 ((x).fst) ((x).snd.fst) ((x).snd.snd) (v1) = some (p x)) : ∃ r : Int, slices_IndexFunc_impl_Step_impl_Step_impl_stepsOf_1 v0 v1 = some r ∧ decide (r ≥ 0) = v0.any p := by
  have key : ∀ i, i ≤ v0.length → ∃ r : Int, slices_IndexFunc_impl_Step_impl_Step_impl_stepsOf_1.l2 (v0) (v1) ((↑v0.length : Int)) (i : Int) = some r ∧ decide (r ≥ 0) = (v0.drop i).any p := by
    refine upto ?_ ?_
    · exact ⟨-1, slices_IndexFunc_impl_Step_impl_Step_impl_stepsOf_1.eq2 (v0) (v1) ((↑v0.length : Int)) (v0.length : Int) (by simp only [slices_IndexFunc_impl_Step_impl_Step_impl_stepsOf_1.t2, ix_lt, Nat.lt_irrefl, decide_false, cond_false]), by simp⟩
    · intro i hi ih
      have hc := hp _ (getD_mem ((0 : Int), (0 : Int), (0 : Int)) hi)
      rw [drop_getD ((0 : Int), (0 : Int), (0 : Int)) hi, List.any_cons]
      cases hx : p (v0.getD i ((0 : Int), (0 : Int), (0 : Int))) with
      | true => exact ⟨i, slices_IndexFunc_impl_Step_impl_Step_impl_stepsOf_1.eq2 (v0) (v1) ((↑v0.length : Int)) (i : Int) (by simp only [slices_IndexFunc_impl_Step_impl_Step_impl_stepsOf_1.t2, ix_lt, ix_nn, ix_nat, dec_t hi, cond_true, hc, hx, Option.bind_some]), by simp⟩
      | false =>
        obtain ⟨r, g0, g1⟩ := ih
        exact ⟨r, slices_IndexFunc_impl_Step_impl_Step_impl_stepsOf_1.eq2 (v0) (v1) ((↑v0.length : Int)) (i : Int) (by simp only [slices_IndexFunc_impl_Step_impl_Step_impl_stepsOf_1.t2, ix_lt, ix_nn, ix_nat, dec_t hi, cond_true, cond_false, hc, hx, Option.bind_some, wrap_succ (show i < 9223372036854775807 by omega), g0]), by rw [g1, Bool.false_or]⟩
  obtain ⟨r, g0, g1⟩ := key 0 (Nat.zero_le _)
  exact ⟨r, slices_IndexFunc_impl_Step_impl_Step_impl_stepsOf_1.eq v0 v1 (by simp only [slices_IndexFunc_impl_Step_impl_Step_impl_stepsOf_1.t]; exact g0), by simpa using g1⟩
theorem laws_eqStep_rf (v0 : Int) (v1 : Int) (v2 : Int) (h : szT (.pair (.int .i64) (.pair (.int .i64) (.int .i64))) (v0, (v1, v2)) ≤ 1073741824) : laws_eqStep v0 v1 v2 v0 v1 v2 = some true := by
  exact laws_eqStep.eq v0 v1 v2 v0 v1 v2 (by simp only [laws_eqStep.t, Option.bind_some, bne_ref, beq_ref, bang_t, cond_false])
theorem laws_eqStepS_rf (v0 : List (Int × Int × Int)) (h : szT (.sl (.pair (.int .i64) (.pair (.int .i64) (.int .i64)))) v0 ≤ 1073741824) : laws_eqStepS v0 v0 = some true := by
  have hlen : v0.length ≤ 1073741824 := Nat.le_trans (szT_len (t := (.pair (.int .i64) (.pair (.int .i64) (.int .i64))))) h
  have key : ∀ i, i ≤ v0.length → laws_eqStepS.l4 v0 v0 (i : Int) = some true := by
    refine upto ?_ ?_
    · exact laws_eqStepS.eq4 v0 v0 (v0.length : Int) (by simp only [laws_eqStepS.t4, ix_lt, Nat.lt_irrefl, decide_false, cond_false])
    · intro i hi ih
      have hc := laws_eqStep_rf ((v0.getD i ((0 : Int), (0 : Int), (0 : Int))).fst) ((v0.getD i ((0 : Int), (0 : Int), (0 : Int))).snd.fst) ((v0.getD i ((0 : Int), (0 : Int), (0 : Int))).snd.snd) (Nat.le_trans (szT_mem (t := (.pair (.int .i64) (.pair (.int .i64) (.int .i64)))) (getD_mem ((0 : Int), (0 : Int), (0 : Int)) hi)) h)
      exact laws_eqStepS.eq4 v0 v0 (i : Int) (by simp only [laws_eqStepS.t4, ix_lt, ix_nn, ix_nat, dec_t hi, cond_true, cond_false, bne_ref, beq_ref, bang_t, hc, Option.bind_some, bang_t, wrap_succ (show i < 9223372036854775807 by omega), ih])
  exact laws_eqStepS.eq v0 v0 (by simp only [laws_eqStepS.t, bne_ref, cond_false]; exact key 0 (Nat.zero_le _))
theorem laws_eqIntS_rf (v0 : List Int) (h : szT (.sl (.int .i64)) v0 ≤ 1073741824) : laws_eqIntS v0 v0 = some true := by
  have hlen : v0.length ≤ 1073741824 := Nat.le_trans (szT_len (t := (.int .i64))) h
  have key : ∀ i, i ≤ v0.length → laws_eqIntS.l4 v0 v0 (i : Int) = some true := by
    refine upto ?_ ?_
    · exact laws_eqIntS.eq4 v0 v0 (v0.length : Int) (by simp only [laws_eqIntS.t4, ix_lt, Nat.lt_irrefl, decide_false, cond_false])
    · intro i hi ih
      exact laws_eqIntS.eq4 v0 v0 (i : Int) (by simp only [laws_eqIntS.t4, ix_lt, ix_nn, ix_nat, dec_t hi, cond_true, cond_false, bne_ref, beq_ref, bang_t, wrap_succ (show i < 9223372036854775807 by omega), ih])
  exact laws_eqIntS.eq v0 v0 (by simp only [laws_eqIntS.t, bne_ref, cond_false]; exact key 0 (Nat.zero_le _))
theorem laws_markStepS_5b1_ok (v0 : List (Int × Int × Int)) (v1 : Int) (h0 : 0 ≤ v1) (h1 : v1 + (cntT (.sl (.pair (.int .i64) (.pair (.int .i64) (.int .i64)))) v0 : Int) ≤ 4611686018427387904) (h2 : szT (.sl (.pair (.int .i64) (.pair (.int .i64) (.int .i64)))) v0 ≤ 1073741824) : laws_markStepS_5b1 v0 v1 = some ((mrL (mrE (.pair (.int .i64) (.pair (.int .i64) (.int .i64)))) v0 v1).2, (mrL (mrE (.pair (.int .i64) (.pair (.int .i64) (.int .i64)))) v0 v1).1) := by
  have key : ∀ (rest pre : List (Int × Int × Int)) (k : Int), 0 ≤ k → k + (cntT (.sl (.pair (.int .i64) (.pair (.int .i64) (.int .i64)))) rest : Int) ≤ 4611686018427387904 → pre.length + szT (.sl (.pair (.int .i64) (.pair (.int .i64) (.int .i64)))) rest ≤ 1073741824 →
      laws_markStepS_5b1.l2 (pre ++ rest) k (pre.length : Int) = some ((mrL (mrE (.pair (.int .i64) (.pair (.int .i64) (.int .i64)))) rest k).2, pre ++ (mrL (mrE (.pair (.int .i64) (.pair (.int .i64) (.int .i64)))) rest k).1) := by
    intro rest
    induction rest with
    | nil =>
      intro pre k _ _ _
      exact laws_markStepS_5b1.eq2 _ _ _ (by simp only [laws_markStepS_5b1.t2, List.append_nil, ix_lt, Nat.lt_irrefl, decide_false, cond_false, mrL_nil])
    | cons x r ih =>
      intro pre k hk hb hl
      rw [cnt_cons] at hb
      simp only [cntT] at hb
      simp only [szT, List.length_cons, List.map_cons, List.sum_cons] at hl
      have g := ih (pre ++ [(mrE (.pair (.int .i64) (.pair (.int .i64) (.int .i64))) x k).1]) (mrE (.pair (.int .i64) (.pair (.int .i64) (.int .i64))) x k).2 (by rw [mrE_cnt]; omega) (by rw [mrE_cnt]; simp only [cntT] at hb ⊢; omega) (by simp only [szT, List.length_append, List.length_cons, List.length_nil] at hl ⊢; omega)
      refine laws_markStepS_5b1.eq2 _ _ _ ?_
      simp only [mrL_cons, mrE_int, mrE_bool, mrE_sl, mrE_pair]
      simp only [laws_markStepS_5b1.t2, lenI_mid, ix_nn, ix_nat, len_mid, set_mid, getD_mid, cond_true, cond_false, bne_ref, beq_ref, bang_t, wrap_k (k := k) (by omega) (by omega), wrap_k (k := (k + 1)) (by omega) (by omega), wrap_k (k := ((k + 1) + 1)) (by omega) (by omega), wrap_succ (show pre.length < 9223372036854775807 by omega), Option.bind_some, dec_rfl, Bool.and_true]
      rw [push_mid]
      simpa [mrE_int, mrE_bool, mrE_sl, mrE_pair] using g
  exact laws_markStepS_5b1.eq v0 v1 (by simp only [laws_markStepS_5b1.t]; exact key v0 [] v1 h0 h1 (by simpa using h2))
theorem laws_markIntS_83f_ok (v0 : List Int) (v1 : Int) (h0 : 0 ≤ v1) (h1 : v1 + (cntT (.sl (.int .i64)) v0 : Int) ≤ 4611686018427387904) (h2 : szT (.sl (.int .i64)) v0 ≤ 1073741824) : laws_markIntS_83f v0 v1 = some ((mrL (mrE (.int .i64)) v0 v1).2, (mrL (mrE (.int .i64)) v0 v1).1) := by
  have key : ∀ (rest pre : List Int) (k : Int), 0 ≤ k → k + (cntT (.sl (.int .i64)) rest : Int) ≤ 4611686018427387904 → pre.length + szT (.sl (.int .i64)) rest ≤ 1073741824 →
      laws_markIntS_83f.l2 (pre ++ rest) k (pre.length : Int) = some ((mrL (mrE (.int .i64)) rest k).2, pre ++ (mrL (mrE (.int .i64)) rest k).1) := by
    intro rest
    induction rest with
    | nil =>
      intro pre k _ _ _
      exact laws_markIntS_83f.eq2 _ _ _ (by simp only [laws_markIntS_83f.t2, List.append_nil, ix_lt, Nat.lt_irrefl, decide_false, cond_false, mrL_nil])
    | cons x r ih =>
      intro pre k hk hb hl
      rw [cnt_cons] at hb
      simp only [cntT] at hb
      simp only [szT, List.length_cons, List.map_cons, List.sum_cons] at hl
      have g := ih (pre ++ [(mrE (.int .i64) x k).1]) (mrE (.int .i64) x k).2 (by rw [mrE_cnt]; omega) (by rw [mrE_cnt]; simp only [cntT] at hb ⊢; omega) (by simp only [szT, List.length_append, List.length_cons, List.length_nil] at hl ⊢; omega)
      refine laws_markIntS_83f.eq2 _ _ _ ?_
      simp only [mrL_cons, mrE_int, mrE_bool, mrE_sl, mrE_pair]
      simp only [laws_markIntS_83f.t2, lenI_mid, ix_nn, ix_nat, len_mid, set_mid, getD_mid, cond_true, cond_false, bne_ref, beq_ref, bang_t, wrap_k (k := k) (by omega) (by omega), wrap_succ (show pre.length < 9223372036854775807 by omega), Option.bind_some, dec_rfl, Bool.and_true]
      rw [push_mid]
      simpa [mrE_int, mrE_bool, mrE_sl, mrE_pair] using g
  exact laws_markIntS_83f.eq v0 v1 (by simp only [laws_markIntS_83f.t]; exact key v0 [] v1 h0 h1 (by simpa using h2))
theorem laws_heldStepS_ok (v0 : List (Int × Int × Int)) (v1 : Int) (h0 : 0 ≤ v1) (h1 : v1 + (cntT (.sl (.pair (.int .i64) (.pair (.int .i64) (.int .i64)))) v0 : Int) ≤ 4611686018427387904) (h2 : szT (.sl (.pair (.int .i64) (.pair (.int .i64) (.int .i64)))) v0 ≤ 1073741824) : laws_heldStepS (mrL (mrE (.pair (.int .i64) (.pair (.int .i64) (.int .i64)))) v0 v1).1 v1 = some (mrL (mrE (.pair (.int .i64) (.pair (.int .i64) (.int .i64)))) v0 v1).2 := by
  have key : ∀ (rest pre : List (Int × Int × Int)) (k : Int), 0 ≤ k → k + (cntT (.sl (.pair (.int .i64) (.pair (.int .i64) (.int .i64)))) rest : Int) ≤ 4611686018427387904 → pre.length + szT (.sl (.pair (.int .i64) (.pair (.int .i64) (.int .i64)))) rest ≤ 1073741824 →
      laws_heldStepS.l2 (pre ++ (mrL (mrE (.pair (.int .i64) (.pair (.int .i64) (.int .i64)))) rest k).1) k (pre.length : Int) = some (mrL (mrE (.pair (.int .i64) (.pair (.int .i64) (.int .i64)))) rest k).2 := by
    intro rest
    induction rest with
    | nil =>
      intro pre k _ _ _
      exact laws_heldStepS.eq2 _ _ _ (by simp only [laws_heldStepS.t2, List.append_nil, ix_lt, Nat.lt_irrefl, decide_false, cond_false, mrL_nil])
    | cons x r ih =>
      intro pre k hk hb hl
      rw [cnt_cons] at hb
      simp only [cntT] at hb
      simp only [szT, List.length_cons, List.map_cons, List.sum_cons] at hl
      have g := ih (pre ++ [(mrE (.pair (.int .i64) (.pair (.int .i64) (.int .i64))) x k).1]) (mrE (.pair (.int .i64) (.pair (.int .i64) (.int .i64))) x k).2 (by rw [mrE_cnt]; omega) (by rw [mrE_cnt]; simp only [cntT] at hb ⊢; omega) (by simp only [szT, List.length_append, List.length_cons, List.length_nil] at hl ⊢; omega)
      refine laws_heldStepS.eq2 _ _ _ ?_
      simp only [mrL_cons, mrE_int, mrE_bool, mrE_sl, mrE_pair]
      simp only [laws_heldStepS.t2, lenI_mid, ix_nn, ix_nat, len_mid, set_mid, getD_mid, cond_true, cond_false, bne_ref, beq_ref, bang_t, wrap_k (k := k) (by omega) (by omega), wrap_k (k := (k + 1)) (by omega) (by omega), wrap_k (k := ((k + 1) + 1)) (by omega) (by omega), wrap_succ (show pre.length < 9223372036854775807 by omega), Option.bind_some, dec_rfl, Bool.and_true]
      rw [push_mid]
      simpa [mrE_int, mrE_bool, mrE_sl, mrE_pair] using g
  exact laws_heldStepS.eq _ v1 (by simp only [laws_heldStepS.t]; exact key v0 [] v1 h0 h1 (by simpa using h2))
end GoV

/- Small words of the program and of its specification. -/
namespace GoV
open Go
theorem impl_within_eq (x lo hi : Int) : impl_within x lo hi = some (inB lo hi x) := by
  refine impl_within.eq x lo hi ?_
  simp only [impl_within.t, inB]
  by_cases h : lo ≤ x <;> simp [h]
theorem spec_l1In_eq (x lo hi : Int) : spec_l1In x lo hi = some (inB lo hi x) := by
  refine spec_l1In.eq x lo hi ?_
  simp only [spec_l1In.t, inB]
  by_cases h : lo ≤ x <;> simp [h]
end GoV
