/- A part of the proof of FnExactGoodQuery: an interpreter of the model over plain data, its soundness, and what it makes of the functions that the statement reaches. Conditions: none beyond what the given statement itself says. -/
import Derived.Test.YtcilpkgidhkfjaaTJ
set_option linter.unusedVariables false
set_option linter.unusedSimpArgs false
set_option linter.unnecessarySimpa false
set_option linter.unusedSectionVars false
/- What the statements' own helpers answer (printed by wip/tools/lawgen.py). -/
namespace GoV
open Go
theorem laws_szIntS_ok (v0 : List Int) (v1 : Int) (hw : WfT (.sl (.int .i64)) v0) (h1 : 0 ≤ v1) (h2 : v1 ≤ 1048576) : ∃ r, laws_szIntS v0 v1 = some r ∧ r ≤ v1 ∧ (0 ≤ r → (szT (.sl (.int .i64)) v0 : Int) + r = v1) := by
  have hl := hw.1
  have e0 : IntKind.i64.wrap (v1 - (v0.length : Int)) = v1 - (v0.length : Int) := wrap_id (by omega) (by omega)
  by_cases hn : v1 - (v0.length : Int) < 0
  · exact ⟨-1, laws_szIntS.eq v0 v1 (by simp only [laws_szIntS.t, e0, dec_t hn, cond_true]), by omega, fun h => by omega⟩
  · exact ⟨v1 - (v0.length : Int), laws_szIntS.eq v0 v1 (by simp only [laws_szIntS.t, e0, dec_f hn, cond_false]), by omega, fun _ => by rw [szT_sl_flat (t := (.int .i64)) v0 rfl]; omega⟩
theorem laws_toIntS_id (v0 : List Int) (h : szT (.sl (.int .i64)) v0 ≤ 1073741824) : laws_toIntS v0 = some v0 := by
  have hlen : v0.length ≤ 1073741824 := Nat.le_trans (szT_len (t := (.int .i64))) h
  have key : ∀ i, i ≤ v0.length → ∀ a : List Int, a.length = v0.length → a.take i = v0.take i → laws_toIntS.l3 v0 a (i : Int) = some v0 := by
    refine upto ?_ ?_
    · intro a ha hh
      have ea := take_all_eq ha hh
      subst ea
      exact laws_toIntS.eq3 a a (a.length : Int) (by simp only [laws_toIntS.t3, ix_lt, Nat.lt_irrefl, decide_false, cond_false])
    · intro i hi ih a ha hh
      have g := ih (a.set i (v0.getD i (0 : Int))) (by simp [ha]) (set_step hi ha hh)
      have hia : i < a.length := by omega
      refine laws_toIntS.eq3 v0 a (i : Int) ?_
      simp only [laws_toIntS.t3, ix_lt, ix_nn, ix_nat, dec_t hi, dec_t hia, cond_true, wrap_succ (show i < 9223372036854775807 by omega)]
      exact g
  refine laws_toIntS.eq v0 ?_
  have h3 : ((v0.length : Int) ≤ ((4294967296 : Nat) : Int)) := by omega
  simp only [laws_toIntS.t, decide_true, dec_t h3, cond_true, ix_nat]
  exact key 0 (Nat.zero_le _) _ (by simp) (by simp)
theorem laws_eqIntS_rf (v0 : List Int) (h : szT (.sl (.int .i64)) v0 ≤ 1073741824) : laws_eqIntS v0 v0 = some true := by
  have hlen : v0.length ≤ 1073741824 := Nat.le_trans (szT_len (t := (.int .i64))) h
  have key : ∀ i, i ≤ v0.length → laws_eqIntS.l4 v0 v0 (i : Int) = some true := by
    refine upto ?_ ?_
    · exact laws_eqIntS.eq4 v0 v0 (v0.length : Int) (by simp only [laws_eqIntS.t4, ix_lt, Nat.lt_irrefl, decide_false, cond_false])
    · intro i hi ih
      exact laws_eqIntS.eq4 v0 v0 (i : Int) (by simp only [laws_eqIntS.t4, ix_lt, ix_nn, ix_nat, dec_t hi, cond_true, cond_false, bne_ref, beq_ref, bang_t, wrap_succ (show i < 9223372036854775807 by omega), ih])
  exact laws_eqIntS.eq v0 v0 (by simp only [laws_eqIntS.t, bne_ref, cond_false]; exact key 0 (Nat.zero_le _))
theorem laws_szAtom_ok (v0 : Int) (v1 : List Int) (v2 : Int) (hw : WfT (.pair (.int .i64) (.sl (.int .i64))) (v0, v1)) (h1 : 0 ≤ v2) (h2 : v2 ≤ 1048576) : ∃ r, laws_szAtom v0 v1 v2 = some r ∧ r ≤ v2 ∧ (0 ≤ r → (szT (.pair (.int .i64) (.sl (.int .i64))) (v0, v1) : Int) + r = v2) := by
  obtain ⟨r1, e1, a1, b1⟩ := laws_szIntS_ok v1 v2 hw.2 h1 h2
  by_cases n1 : r1 < 0
  · exact ⟨-1, laws_szAtom.eq v0 v1 v2 (by simp only [laws_szAtom.t, dec_t n1, e1, cond_true, cond_false, Option.bind_some]), by omega, fun h => by omega⟩
  refine ⟨r1, laws_szAtom.eq v0 v1 v2 (by simp only [laws_szAtom.t, e1, dec_f n1, cond_true, cond_false, Option.bind_some]), by omega, fun h => ?_⟩
  have k1 := b1 (by omega)
  simp only [szT] at k1 ⊢
  omega
theorem laws_szAtomS_ok (v0 : List (Int × List Int)) (v1 : Int) (hw : WfT (.sl (.pair (.int .i64) (.sl (.int .i64)))) v0) (h1 : 0 ≤ v1) (h2 : v1 ≤ 1048576) : ∃ r, laws_szAtomS v0 v1 = some r ∧ r ≤ v1 ∧ (0 ≤ r → (szT (.sl (.pair (.int .i64) (.sl (.int .i64)))) v0 : Int) + r = v1) := by
  have hl := hw.1
  have e0 : IntKind.i64.wrap (v1 - (v0.length : Int)) = v1 - (v0.length : Int) := wrap_id (by omega) (by omega)
  by_cases hn : v1 - (v0.length : Int) < 0
  · exact ⟨-1, laws_szAtomS.eq v0 v1 (by simp only [laws_szAtomS.t, e0, dec_t hn, cond_true]), by omega, fun h => by omega⟩
  · have key : ∀ i, i ≤ v0.length → ∀ m : Int, 0 ≤ m → m ≤ 1048576 → ∃ r, laws_szAtomS.l5 v0 m (i : Int) = some r ∧ r ≤ m ∧ (0 ≤ r → ((((v0.drop i).map (szT (.pair (.int .i64) (.sl (.int .i64))))).sum : Nat) : Int) + r = m) := by
      refine upto ?_ ?_
      · intro m h1 h2
        exact ⟨m, laws_szAtomS.eq5 v0 m (v0.length : Int) (by simp only [laws_szAtomS.t5, ix_lt, Nat.lt_irrefl, decide_false, cond_false]), Int.le_refl _, fun _ => by simp⟩
      · intro i hi ih m h1 h2
        obtain ⟨r, hr, hr1, hr2⟩ := laws_szAtom_ok ((v0.getD i ((0 : Int), [])).fst) ((v0.getD i ((0 : Int), [])).snd) m (hw.2 _ (getD_mem ((0 : Int), []) hi)) h1 h2
        by_cases hneg : r < 0
        · exact ⟨-1, laws_szAtomS.eq5 v0 m (i : Int) (by simp only [laws_szAtomS.t5, ix_lt, ix_nn, ix_nat, dec_t hi, cond_true, hr, Option.bind_some, dec_t hneg]), by omega, fun h => by omega⟩
        · obtain ⟨r2, g0, g1, g2⟩ := ih r (by omega) (by omega)
          refine ⟨r2, laws_szAtomS.eq5 v0 m (i : Int) (by simp only [laws_szAtomS.t5, ix_lt, ix_nn, ix_nat, dec_t hi, cond_true, hr, Option.bind_some, dec_f hneg, cond_false, wrap_succ (show i < 9223372036854775807 by omega), g0]), by omega, fun h => ?_⟩
          have k1 := hr2 (by omega)
          have k2 := g2 h
          rw [drop_getD ((0 : Int), []) hi]
          simp only [List.map_cons, List.sum_cons]
          simp only [szT] at k1 k2 ⊢
          omega
    obtain ⟨r, g0, g1, g2⟩ := key 0 (Nat.zero_le _) (v1 - (v0.length : Int)) (by omega) (by omega)
    refine ⟨r, laws_szAtomS.eq v0 v1 (by simp only [laws_szAtomS.t, e0, dec_f hn, cond_false]; exact g0), by omega, fun h => ?_⟩
    have := g2 h
    simp only [List.drop_zero] at this
    simp only [szT] at this ⊢
    omega
theorem laws_szQuery_ok (v0 : List Int) (v1 : List (Int × List Int)) (v2 : Int) (hw : WfT (.pair (.sl (.int .i64)) (.sl (.pair (.int .i64) (.sl (.int .i64))))) (v0, v1)) (h1 : 0 ≤ v2) (h2 : v2 ≤ 1048576) : ∃ r, laws_szQuery v0 v1 v2 = some r ∧ r ≤ v2 ∧ (0 ≤ r → (szT (.pair (.sl (.int .i64)) (.sl (.pair (.int .i64) (.sl (.int .i64))))) (v0, v1) : Int) + r = v2) := by
  obtain ⟨r1, e1, a1, b1⟩ := laws_szIntS_ok v0 v2 hw.1 h1 h2
  by_cases n1 : r1 < 0
  · exact ⟨-1, laws_szQuery.eq v0 v1 v2 (by simp only [laws_szQuery.t, dec_t n1, e1, cond_true, cond_false, Option.bind_some]), by omega, fun h => by omega⟩
  obtain ⟨r2, e2, a2, b2⟩ := laws_szAtomS_ok v1 r1 hw.2 (by omega) (by omega)
  by_cases n2 : r2 < 0
  · exact ⟨-1, laws_szQuery.eq v0 v1 v2 (by simp only [laws_szQuery.t, e1, dec_f n1, dec_t n2, e2, cond_true, cond_false, Option.bind_some]), by omega, fun h => by omega⟩
  refine ⟨r2, laws_szQuery.eq v0 v1 v2 (by simp only [laws_szQuery.t, e1, dec_f n1, e2, dec_f n2, cond_true, cond_false, Option.bind_some]), by omega, fun h => ?_⟩
  have k1 := b1 (by omega)
  have k2 := b2 (by omega)
  simp only [szT] at k1 k2 ⊢
  omega
theorem laws_toAtom_id (v0 : Int) (v1 : List Int) (h : szT (.pair (.int .i64) (.sl (.int .i64))) (v0, v1) ≤ 1073741824) : laws_toAtom v0 v1 = some (v0, v1) := by
  have e1 := laws_toIntS_id v1 (by simp only [szT] at h ⊢; omega)
  exact laws_toAtom.eq v0 v1 (by simp only [laws_toAtom.t, e1, Option.bind_some])
theorem laws_toAtomS_id (v0 : List (Int × List Int)) (h : szT (.sl (.pair (.int .i64) (.sl (.int .i64)))) v0 ≤ 1073741824) : laws_toAtomS v0 = some v0 := by
  have hlen : v0.length ≤ 1073741824 := Nat.le_trans (szT_len (t := (.pair (.int .i64) (.sl (.int .i64))))) h
  have key : ∀ i, i ≤ v0.length → ∀ a : List (Int × List Int), a.length = v0.length → a.take i = v0.take i → laws_toAtomS.l3 v0 a (i : Int) = some v0 := by
    refine upto ?_ ?_
    · intro a ha hh
      have ea := take_all_eq ha hh
      subst ea
      exact laws_toAtomS.eq3 a a (a.length : Int) (by simp only [laws_toAtomS.t3, ix_lt, Nat.lt_irrefl, decide_false, cond_false])
    · intro i hi ih a ha hh
      have hc := laws_toAtom_id ((v0.getD i ((0 : Int), [])).fst) ((v0.getD i ((0 : Int), [])).snd) (Nat.le_trans (szT_mem (t := (.pair (.int .i64) (.sl (.int .i64)))) (getD_mem ((0 : Int), []) hi)) h)
      have g := ih (a.set i (v0.getD i ((0 : Int), []))) (by simp [ha]) (set_step hi ha hh)
      have hia : i < a.length := by omega
      refine laws_toAtomS.eq3 v0 a (i : Int) ?_
      simp only [laws_toAtomS.t3, ix_lt, ix_nn, ix_nat, dec_t hi, dec_t hia, cond_true, hc, Option.bind_some, wrap_succ (show i < 9223372036854775807 by omega)]
      exact g
  refine laws_toAtomS.eq v0 ?_
  have h3 : ((v0.length : Int) ≤ ((4294967296 : Nat) : Int)) := by omega
  simp only [laws_toAtomS.t, decide_true, dec_t h3, cond_true, ix_nat]
  exact key 0 (Nat.zero_le _) _ (by simp) (by simp)
theorem laws_toQuery_id (v0 : List Int) (v1 : List (Int × List Int)) (h : szT (.pair (.sl (.int .i64)) (.sl (.pair (.int .i64) (.sl (.int .i64))))) (v0, v1) ≤ 1073741824) : laws_toQuery v0 v1 = some (v0, v1) := by
  have e1 := laws_toIntS_id v0 (by simp only [szT] at h ⊢; omega)
  have e2 := laws_toAtomS_id v1 (by simp only [szT] at h ⊢; omega)
  exact laws_toQuery.eq v0 v1 (by simp only [laws_toQuery.t, e1, e2, Option.bind_some])
theorem slices_IndexFunc_int_int_impl_areAll_int_1_impl_isVar_ok (v0 : List Int) (p : Int → Bool) (hl : v0.length ≤ 4611686018427387904) (hp : ∀ x, x ∈ v0 → impl_areAll_int_1_impl_isVar (x) = some (p x)) : ∃ r : Int, slices_IndexFunc_int_int_impl_areAll_int_1_impl_isVar v0 = some r ∧ decide (r ≥ 0) = v0.any p := by
  have key : ∀ i, i ≤ v0.length → ∃ r : Int, slices_IndexFunc_int_int_impl_areAll_int_1_impl_isVar.l2 (v0) ((↑v0.length : Int)) (i : Int) = some r ∧ decide (r ≥ 0) = (v0.drop i).any p := by
    refine upto ?_ ?_
    · exact ⟨-1, slices_IndexFunc_int_int_impl_areAll_int_1_impl_isVar.eq2 (v0) ((↑v0.length : Int)) (v0.length : Int) (by simp only [slices_IndexFunc_int_int_impl_areAll_int_1_impl_isVar.t2, ix_lt, Nat.lt_irrefl, decide_false, cond_false]), by simp⟩
    · intro i hi ih
      have hc := hp _ (getD_mem (0 : Int) hi)
      rw [drop_getD (0 : Int) hi, List.any_cons]
      cases hx : p (v0.getD i (0 : Int)) with
      | true => exact ⟨i, slices_IndexFunc_int_int_impl_areAll_int_1_impl_isVar.eq2 (v0) ((↑v0.length : Int)) (i : Int) (by simp only [slices_IndexFunc_int_int_impl_areAll_int_1_impl_isVar.t2, ix_lt, ix_nn, ix_nat, dec_t hi, cond_true, hc, hx, Option.bind_some]), by simp⟩
      | false =>
        obtain ⟨r, g0, g1⟩ := ih
        exact ⟨r, slices_IndexFunc_int_int_impl_areAll_int_1_impl_isVar.eq2 (v0) ((↑v0.length : Int)) (i : Int) (by simp only [slices_IndexFunc_int_int_impl_areAll_int_1_impl_isVar.t2, ix_lt, ix_nn, ix_nat, dec_t hi, cond_true, cond_false, hc, hx, Option.bind_some, wrap_succ (show i < 9223372036854775807 by omega), g0]), by rw [g1, Bool.false_or]⟩
  obtain ⟨r, g0, g1⟩ := key 0 (Nat.zero_le _)
  exact ⟨r, slices_IndexFunc_int_int_impl_areAll_int_1_impl_isVar.eq v0 (by simp only [slices_IndexFunc_int_int_impl_areAll_int_1_impl_isVar.t]; exact g0), by simpa using g1⟩
theorem slices_ContainsFunc_int_int_impl_areAll_int_1_impl_isVar_ok (v0 : List Int) (p : Int → Bool) (hl : v0.length ≤ 4611686018427387904) (hp : ∀ x, x ∈ v0 → impl_areAll_int_1_impl_isVar (x) = some (p x)) : slices_ContainsFunc_int_int_impl_areAll_int_1_impl_isVar v0 = some (v0.any p) := by
  obtain ⟨r, g0, g1⟩ := slices_IndexFunc_int_int_impl_areAll_int_1_impl_isVar_ok (v0) p hl hp
  exact slices_ContainsFunc_int_int_impl_areAll_int_1_impl_isVar.eq v0 (by simp only [slices_ContainsFunc_int_int_impl_areAll_int_1_impl_isVar.t, g0, Option.bind_some, g1])
theorem impl_areAll_int_impl_isVar_ok (v0 : List Int) (p : Int → Bool) (hl : v0.length ≤ 4611686018427387904) (hp : ∀ x, x ∈ v0 → impl_isVar ((x)) = some (p x)) : impl_areAll_int_impl_isVar v0 = some (v0.all p) := by
  have g := slices_ContainsFunc_int_int_impl_areAll_int_1_impl_isVar_ok (v0) (fun x => !p x) hl (fun x hx => impl_areAll_int_1_impl_isVar.eq (x) (by simp only [impl_areAll_int_1_impl_isVar.t, hp x hx, Option.bind_some]))
  exact impl_areAll_int_impl_isVar.eq v0 (by simp only [impl_areAll_int_impl_isVar.t, g, Option.bind_some, List.all_eq_not_any_not])
theorem laws_eqAtom_rf (v0 : Int) (v1 : List Int) (h : szT (.pair (.int .i64) (.sl (.int .i64))) (v0, v1) ≤ 1073741824) : laws_eqAtom v0 v1 v0 v1 = some true := by
  have e1 := laws_eqIntS_rf v1 (by simp only [szT] at h ⊢; omega)
  exact laws_eqAtom.eq v0 v1 v0 v1 (by simp only [laws_eqAtom.t, e1, Option.bind_some, bne_ref, beq_ref, bang_t, cond_false])
theorem laws_eqAtomS_rf (v0 : List (Int × List Int)) (h : szT (.sl (.pair (.int .i64) (.sl (.int .i64)))) v0 ≤ 1073741824) : laws_eqAtomS v0 v0 = some true := by
  have hlen : v0.length ≤ 1073741824 := Nat.le_trans (szT_len (t := (.pair (.int .i64) (.sl (.int .i64))))) h
  have key : ∀ i, i ≤ v0.length → laws_eqAtomS.l4 v0 v0 (i : Int) = some true := by
    refine upto ?_ ?_
    · exact laws_eqAtomS.eq4 v0 v0 (v0.length : Int) (by simp only [laws_eqAtomS.t4, ix_lt, Nat.lt_irrefl, decide_false, cond_false])
    · intro i hi ih
      have hc := laws_eqAtom_rf ((v0.getD i ((0 : Int), [])).fst) ((v0.getD i ((0 : Int), [])).snd) (Nat.le_trans (szT_mem (t := (.pair (.int .i64) (.sl (.int .i64)))) (getD_mem ((0 : Int), []) hi)) h)
      exact laws_eqAtomS.eq4 v0 v0 (i : Int) (by simp only [laws_eqAtomS.t4, ix_lt, ix_nn, ix_nat, dec_t hi, cond_true, cond_false, bne_ref, beq_ref, bang_t, hc, Option.bind_some, bang_t, wrap_succ (show i < 9223372036854775807 by omega), ih])
  exact laws_eqAtomS.eq v0 v0 (by simp only [laws_eqAtomS.t, bne_ref, cond_false]; exact key 0 (Nat.zero_le _))
theorem laws_eqQuery_rf (v0 : List Int) (v1 : List (Int × List Int)) (h : szT (.pair (.sl (.int .i64)) (.sl (.pair (.int .i64) (.sl (.int .i64))))) (v0, v1) ≤ 1073741824) : laws_eqQuery v0 v1 v0 v1 = some true := by
  have e1 := laws_eqIntS_rf v0 (by simp only [szT] at h ⊢; omega)
  have e2 := laws_eqAtomS_rf v1 (by simp only [szT] at h ⊢; omega)
  exact laws_eqQuery.eq v0 v1 v0 v1 (by simp only [laws_eqQuery.t, e1, e2, Option.bind_some, bne_ref, beq_ref, bang_t, cond_false])
theorem slices_IndexFunc_int_int_impl_areAll_int_1_impl_areTables_1_ok (v0 : List Int) (p : Int → Bool) (hl : v0.length ≤ 4611686018427387904) (hp : ∀ x, x ∈ v0 → impl_areAll_int_1_impl_areTables_1 (x) = some (p x)) : ∃ r : Int, slices_IndexFunc_int_int_impl_areAll_int_1_impl_areTables_1 v0 = some r ∧ decide (r ≥ 0) = v0.any p := by
  have key : ∀ i, i ≤ v0.length → ∃ r : Int, slices_IndexFunc_int_int_impl_areAll_int_1_impl_areTables_1.l2 (v0) ((↑v0.length : Int)) (i : Int) = some r ∧ decide (r ≥ 0) = (v0.drop i).any p := by
    refine upto ?_ ?_
    · exact ⟨-1, slices_IndexFunc_int_int_impl_areAll_int_1_impl_areTables_1.eq2 (v0) ((↑v0.length : Int)) (v0.length : Int) (by simp only [slices_IndexFunc_int_int_impl_areAll_int_1_impl_areTables_1.t2, ix_lt, Nat.lt_irrefl, decide_false, cond_false]), by simp⟩
    · intro i hi ih
      have hc := hp _ (getD_mem (0 : Int) hi)
      rw [drop_getD (0 : Int) hi, List.any_cons]
      cases hx : p (v0.getD i (0 : Int)) with
      | true => exact ⟨i, slices_IndexFunc_int_int_impl_areAll_int_1_impl_areTables_1.eq2 (v0) ((↑v0.length : Int)) (i : Int) (by simp only [slices_IndexFunc_int_int_impl_areAll_int_1_impl_areTables_1.t2, ix_lt, ix_nn, ix_nat, dec_t hi, cond_true, hc, hx, Option.bind_some]), by simp⟩
      | false =>
        obtain ⟨r, g0, g1⟩ := ih
        exact ⟨r, slices_IndexFunc_int_int_impl_areAll_int_1_impl_areTables_1.eq2 (v0) ((↑v0.length : Int)) (i : Int) (by simp only [slices_IndexFunc_int_int_impl_areAll_int_1_impl_areTables_1.t2, ix_lt, ix_nn, ix_nat, dec_t hi, cond_true, cond_false, hc, hx, Option.bind_some, wrap_succ (show i < 9223372036854775807 by omega), g0]), by rw [g1, Bool.false_or]⟩
  obtain ⟨r, g0, g1⟩ := key 0 (Nat.zero_le _)
  exact ⟨r, slices_IndexFunc_int_int_impl_areAll_int_1_impl_areTables_1.eq v0 (by simp only [slices_IndexFunc_int_int_impl_areAll_int_1_impl_areTables_1.t]; exact g0), by simpa using g1⟩
theorem slices_ContainsFunc_int_int_impl_areAll_int_1_impl_areTables_1_ok (v0 : List Int) (p : Int → Bool) (hl : v0.length ≤ 4611686018427387904) (hp : ∀ x, x ∈ v0 → impl_areAll_int_1_impl_areTables_1 (x) = some (p x)) : slices_ContainsFunc_int_int_impl_areAll_int_1_impl_areTables_1 v0 = some (v0.any p) := by
  obtain ⟨r, g0, g1⟩ := slices_IndexFunc_int_int_impl_areAll_int_1_impl_areTables_1_ok (v0) p hl hp
  exact slices_ContainsFunc_int_int_impl_areAll_int_1_impl_areTables_1.eq v0 (by simp only [slices_ContainsFunc_int_int_impl_areAll_int_1_impl_areTables_1.t, g0, Option.bind_some, g1])
theorem impl_areAll_int_impl_areTables_1_ok (v0 : List Int) (p : Int → Bool) (hl : v0.length ≤ 4611686018427387904) (hp : ∀ x, x ∈ v0 → impl_areTables_1 ((x)) = some (p x)) : impl_areAll_int_impl_areTables_1 v0 = some (v0.all p) := by
  have g := slices_ContainsFunc_int_int_impl_areAll_int_1_impl_areTables_1_ok (v0) (fun x => !p x) hl (fun x hx => impl_areAll_int_1_impl_areTables_1.eq (x) (by simp only [impl_areAll_int_1_impl_areTables_1.t, hp x hx, Option.bind_some]))
  exact impl_areAll_int_impl_areTables_1.eq v0 (by simp only [impl_areAll_int_impl_areTables_1.t, g, Option.bind_some, List.all_eq_not_any_not])
theorem slices_IndexFunc_impl_Atom_impl_Atom_impl_areAll_impl_Atom_1_impl_isQuery_1_ok (v0 : List (Int × List Int)) (v1 : List Int) (p : (Int) × (List Int) → Bool) (hl : v0.length ≤ 4611686018427387904) (hp : ∀ x, x ∈ v0 → impl_areAll_impl_Atom_1_impl_isQuery_1 ((x).fst) ((x).snd) (v1) = some (p x)) : ∃ r : Int, slices_IndexFunc_impl_Atom_impl_Atom_impl_areAll_impl_Atom_1_impl_isQuery_1 v0 v1 = some r ∧ decide (r ≥ 0) = v0.any p := by
  have key : ∀ i, i ≤ v0.length → ∃ r : Int, slices_IndexFunc_impl_Atom_impl_Atom_impl_areAll_impl_Atom_1_impl_isQuery_1.l2 (v0) (v1) ((↑v0.length : Int)) (i : Int) = some r ∧ decide (r ≥ 0) = (v0.drop i).any p := by
    refine upto ?_ ?_
    · exact ⟨-1, slices_IndexFunc_impl_Atom_impl_Atom_impl_areAll_impl_Atom_1_impl_isQuery_1.eq2 (v0) (v1) ((↑v0.length : Int)) (v0.length : Int) (by simp only [slices_IndexFunc_impl_Atom_impl_Atom_impl_areAll_impl_Atom_1_impl_isQuery_1.t2, ix_lt, Nat.lt_irrefl, decide_false, cond_false]), by simp⟩
    · intro i hi ih
      have hc := hp _ (getD_mem ((0 : Int), []) hi)
      rw [drop_getD ((0 : Int), []) hi, List.any_cons]
      cases hx : p (v0.getD i ((0 : Int), [])) with
      | true => exact ⟨i, slices_IndexFunc_impl_Atom_impl_Atom_impl_areAll_impl_Atom_1_impl_isQuery_1.eq2 (v0) (v1) ((↑v0.length : Int)) (i : Int) (by simp only [slices_IndexFunc_impl_Atom_impl_Atom_impl_areAll_impl_Atom_1_impl_isQuery_1.t2, ix_lt, ix_nn, ix_nat, dec_t hi, cond_true, hc, hx, Option.bind_some]), by simp⟩
      | false =>
        obtain ⟨r, g0, g1⟩ := ih
        exact ⟨r, slices_IndexFunc_impl_Atom_impl_Atom_impl_areAll_impl_Atom_1_impl_isQuery_1.eq2 (v0) (v1) ((↑v0.length : Int)) (i : Int) (by simp only [slices_IndexFunc_impl_Atom_impl_Atom_impl_areAll_impl_Atom_1_impl_isQuery_1.t2, ix_lt, ix_nn, ix_nat, dec_t hi, cond_true, cond_false, hc, hx, Option.bind_some, wrap_succ (show i < 9223372036854775807 by omega), g0]), by rw [g1, Bool.false_or]⟩
  obtain ⟨r, g0, g1⟩ := key 0 (Nat.zero_le _)
  exact ⟨r, slices_IndexFunc_impl_Atom_impl_Atom_impl_areAll_impl_Atom_1_impl_isQuery_1.eq v0 v1 (by simp only [slices_IndexFunc_impl_Atom_impl_Atom_impl_areAll_impl_Atom_1_impl_isQuery_1.t]; exact g0), by simpa using g1⟩
theorem slices_ContainsFunc_impl_Atom_impl_Atom_impl_areAll_impl_Atom_1_impl_isQuery_1_ok (v0 : List (Int × List Int)) (v1 : List Int) (p : (Int) × (List Int) → Bool) (hl : v0.length ≤ 4611686018427387904) (hp : ∀ x, x ∈ v0 → impl_areAll_impl_Atom_1_impl_isQuery_1 ((x).fst) ((x).snd) (v1) = some (p x)) : slices_ContainsFunc_impl_Atom_impl_Atom_impl_areAll_impl_Atom_1_impl_isQuery_1 v0 v1 = some (v0.any p) := by
  obtain ⟨r, g0, g1⟩ := slices_IndexFunc_impl_Atom_impl_Atom_impl_areAll_impl_Atom_1_impl_isQuery_1_ok (v0) (v1) p hl hp
  exact slices_ContainsFunc_impl_Atom_impl_Atom_impl_areAll_impl_Atom_1_impl_isQuery_1.eq v0 v1 (by simp only [slices_ContainsFunc_impl_Atom_impl_Atom_impl_areAll_impl_Atom_1_impl_isQuery_1.t, g0, Option.bind_some, g1])
theorem impl_areAll_impl_Atom_impl_isQuery_1_ok (v0 : List (Int × List Int)) (v1 : List Int) (p : (Int) × (List Int) → Bool) (hl : v0.length ≤ 4611686018427387904) (hp : ∀ x, x ∈ v0 → impl_isQuery_1 (((x).fst)) (((x).snd)) ((v1)) = some (p x)) : impl_areAll_impl_Atom_impl_isQuery_1 v0 v1 = some (v0.all p) := by
  have g := slices_ContainsFunc_impl_Atom_impl_Atom_impl_areAll_impl_Atom_1_impl_isQuery_1_ok (v0) (v1) (fun x => !p x) hl (fun x hx => impl_areAll_impl_Atom_1_impl_isQuery_1.eq ((x).fst) ((x).snd) (v1) (by simp only [impl_areAll_impl_Atom_1_impl_isQuery_1.t, hp x hx, Option.bind_some]))
  exact impl_areAll_impl_Atom_impl_isQuery_1.eq v0 v1 (by simp only [impl_areAll_impl_Atom_impl_isQuery_1.t, g, Option.bind_some, List.all_eq_not_any_not])
theorem slices_IndexFunc_int_int_impl_areAll_int_1_impl_isHead_1_ok (v0 : List Int) (v1 : List Int) (p : Int → Bool) (hl : v0.length ≤ 4611686018427387904) (hp : ∀ x, x ∈ v0 → impl_areAll_int_1_impl_isHead_1 (x) (v1) = some (p x)) : ∃ r : Int, slices_IndexFunc_int_int_impl_areAll_int_1_impl_isHead_1 v0 v1 = some r ∧ decide (r ≥ 0) = v0.any p := by
  have key : ∀ i, i ≤ v0.length → ∃ r : Int, slices_IndexFunc_int_int_impl_areAll_int_1_impl_isHead_1.l2 (v0) (v1) ((↑v0.length : Int)) (i : Int) = some r ∧ decide (r ≥ 0) = (v0.drop i).any p := by
    refine upto ?_ ?_
    · exact ⟨-1, slices_IndexFunc_int_int_impl_areAll_int_1_impl_isHead_1.eq2 (v0) (v1) ((↑v0.length : Int)) (v0.length : Int) (by simp only [slices_IndexFunc_int_int_impl_areAll_int_1_impl_isHead_1.t2, ix_lt, Nat.lt_irrefl, decide_false, cond_false]), by simp⟩
    · intro i hi ih
      have hc := hp _ (getD_mem (0 : Int) hi)
      rw [drop_getD (0 : Int) hi, List.any_cons]
      cases hx : p (v0.getD i (0 : Int)) with
      | true => exact ⟨i, slices_IndexFunc_int_int_impl_areAll_int_1_impl_isHead_1.eq2 (v0) (v1) ((↑v0.length : Int)) (i : Int) (by simp only [slices_IndexFunc_int_int_impl_areAll_int_1_impl_isHead_1.t2, ix_lt, ix_nn, ix_nat, dec_t hi, cond_true, hc, hx, Option.bind_some]), by simp⟩
      | false =>
        obtain ⟨r, g0, g1⟩ := ih
        exact ⟨r, slices_IndexFunc_int_int_impl_areAll_int_1_impl_isHead_1.eq2 (v0) (v1) ((↑v0.length : Int)) (i : Int) (by simp only [slices_IndexFunc_int_int_impl_areAll_int_1_impl_isHead_1.t2, ix_lt, ix_nn, ix_nat, dec_t hi, cond_true, cond_false, hc, hx, Option.bind_some, wrap_succ (show i < 9223372036854775807 by omega), g0]), by rw [g1, Bool.false_or]⟩
  obtain ⟨r, g0, g1⟩ := key 0 (Nat.zero_le _)
  exact ⟨r, slices_IndexFunc_int_int_impl_areAll_int_1_impl_isHead_1.eq v0 v1 (by simp only [slices_IndexFunc_int_int_impl_areAll_int_1_impl_isHead_1.t]; exact g0), by simpa using g1⟩
theorem slices_ContainsFunc_int_int_impl_areAll_int_1_impl_isHead_1_ok (v0 : List Int) (v1 : List Int) (p : Int → Bool) (hl : v0.length ≤ 4611686018427387904) (hp : ∀ x, x ∈ v0 → impl_areAll_int_1_impl_isHead_1 (x) (v1) = some (p x)) : slices_ContainsFunc_int_int_impl_areAll_int_1_impl_isHead_1 v0 v1 = some (v0.any p) := by
  obtain ⟨r, g0, g1⟩ := slices_IndexFunc_int_int_impl_areAll_int_1_impl_isHead_1_ok (v0) (v1) p hl hp
  exact slices_ContainsFunc_int_int_impl_areAll_int_1_impl_isHead_1.eq v0 v1 (by simp only [slices_ContainsFunc_int_int_impl_areAll_int_1_impl_isHead_1.t, g0, Option.bind_some, g1])
theorem impl_areAll_int_impl_isHead_1_ok (v0 : List Int) (v1 : List Int) (p : Int → Bool) (hl : v0.length ≤ 4611686018427387904) (hp : ∀ x, x ∈ v0 → impl_isHead_1 ((x)) ((v1)) = some (p x)) : impl_areAll_int_impl_isHead_1 v0 v1 = some (v0.all p) := by
  have g := slices_ContainsFunc_int_int_impl_areAll_int_1_impl_isHead_1_ok (v0) (v1) (fun x => !p x) hl (fun x hx => impl_areAll_int_1_impl_isHead_1.eq (x) (v1) (by simp only [impl_areAll_int_1_impl_isHead_1.t, hp x hx, Option.bind_some]))
  exact impl_areAll_int_impl_isHead_1.eq v0 v1 (by simp only [impl_areAll_int_impl_isHead_1.t, g, Option.bind_some, List.all_eq_not_any_not])
end GoV

/- Small words of the program and of its specification. -/
namespace GoV
open Go
theorem impl_within_eq (x lo hi : Int) : impl_within x lo hi = some (inB lo hi x) := by
  refine impl_within.eq x lo hi ?_
  simp only [impl_within.t, inB]
  by_cases h : lo ≤ x <;> simp [h]
theorem spec_l1In_eq (x lo hi : Int) : spec_l1In x lo hi = some (inB lo hi x) := by
  refine spec_l1In.eq x lo hi ?_
  simp only [spec_l1In.t, inB]
  by_cases h : lo ≤ x <;> simp [h]
end GoV
