/- A part of the proof of FnExactPopMap: an interpreter of the model over plain data, its soundness, and what it makes of the functions that the statement reaches. Conditions: none beyond what the given statement itself says. -/
import Derived.Test.YtnfegdcbofnjhaaTK
set_option linter.unusedVariables false
set_option linter.unusedSimpArgs false
set_option linter.unnecessarySimpa false
set_option linter.unusedSectionVars false
/- What the statements' own helpers answer (printed by wip/tools/lawgen.py). -/
namespace GoV
open Go
theorem laws_szMapS_ok (v0 : List (Int × Int)) (v1 : Int) (hw : WfT (.sl (.pair (.int .i64) (.int .i64))) v0) (h1 : 0 ≤ v1) (h2 : v1 ≤ 1048576) : ∃ r, laws_szMapS v0 v1 = some r ∧ r ≤ v1 ∧ (0 ≤ r → (szT (.sl (.pair (.int .i64) (.int .i64))) v0 : Int) + r = v1) := by
  have hl := hw.1
  have e0 : IntKind.i64.wrap (v1 - (v0.length : Int)) = v1 - (v0.length : Int) := wrap_id (by omega) (by omega)
  by_cases hn : v1 - (v0.length : Int) < 0
  · exact ⟨-1, laws_szMapS.eq v0 v1 (by simp only [laws_szMapS.t, e0, dec_t hn, cond_true]), by omega, fun h => by omega⟩
  · exact ⟨v1 - (v0.length : Int), laws_szMapS.eq v0 v1 (by simp only [laws_szMapS.t, e0, dec_f hn, cond_false]), by omega, fun _ => by rw [szT_sl_flat (t := (.pair (.int .i64) (.int .i64))) v0 rfl]; omega⟩
theorem laws_szWindow_ok (v0 : List (Int × Int)) (v1 : List (Int × Int)) (v2 : List (Int × Int)) (v3 : Int) (v4 : Int) (v5 : Int) (hw : WfT (.pair (.sl (.pair (.int .i64) (.int .i64))) (.pair (.sl (.pair (.int .i64) (.int .i64))) (.pair (.sl (.pair (.int .i64) (.int .i64))) (.pair (.int .i64) (.int .i64))))) (v0, (v1, (v2, (v3, v4))))) (h1 : 0 ≤ v5) (h2 : v5 ≤ 1048576) : ∃ r, laws_szWindow v0 v1 v2 v3 v4 v5 = some r ∧ r ≤ v5 ∧ (0 ≤ r → (szT (.pair (.sl (.pair (.int .i64) (.int .i64))) (.pair (.sl (.pair (.int .i64) (.int .i64))) (.pair (.sl (.pair (.int .i64) (.int .i64))) (.pair (.int .i64) (.int .i64))))) (v0, (v1, (v2, (v3, v4)))) : Int) + r = v5) := by
  obtain ⟨r1, e1, a1, b1⟩ := laws_szMapS_ok v0 v5 hw.1 h1 h2
  by_cases n1 : r1 < 0
  · exact ⟨-1, laws_szWindow.eq v0 v1 v2 v3 v4 v5 (by simp only [laws_szWindow.t, dec_t n1, e1, cond_true, cond_false, Option.bind_some]), by omega, fun h => by omega⟩
  obtain ⟨r2, e2, a2, b2⟩ := laws_szMapS_ok v1 r1 hw.2.1 (by omega) (by omega)
  by_cases n2 : r2 < 0
  · exact ⟨-1, laws_szWindow.eq v0 v1 v2 v3 v4 v5 (by simp only [laws_szWindow.t, e1, dec_f n1, dec_t n2, e2, cond_true, cond_false, Option.bind_some]), by omega, fun h => by omega⟩
  obtain ⟨r3, e3, a3, b3⟩ := laws_szMapS_ok v2 r2 hw.2.2.1 (by omega) (by omega)
  by_cases n3 : r3 < 0
  · exact ⟨-1, laws_szWindow.eq v0 v1 v2 v3 v4 v5 (by simp only [laws_szWindow.t, e1, dec_f n1, e2, dec_f n2, dec_t n3, e3, cond_true, cond_false, Option.bind_some]), by omega, fun h => by omega⟩
  refine ⟨r3, laws_szWindow.eq v0 v1 v2 v3 v4 v5 (by simp only [laws_szWindow.t, e1, dec_f n1, e2, dec_f n2, e3, dec_f n3, cond_true, cond_false, Option.bind_some]), by omega, fun h => ?_⟩
  have k1 := b1 (by omega)
  have k2 := b2 (by omega)
  have k3 := b3 (by omega)
  simp only [szT] at k1 k2 k3 ⊢
  omega
theorem laws_toMap_id (v0 : Int) (v1 : Int) (h : szT (.pair (.int .i64) (.int .i64)) (v0, v1) ≤ 1073741824) : laws_toMap v0 v1 = some (v0, v1) := by
  exact laws_toMap.eq v0 v1 (by simp only [laws_toMap.t, Option.bind_some])
theorem laws_toMapS_id (v0 : List (Int × Int)) (h : szT (.sl (.pair (.int .i64) (.int .i64))) v0 ≤ 1073741824) : laws_toMapS v0 = some v0 := by
  have hlen : v0.length ≤ 1073741824 := Nat.le_trans (szT_len (t := (.pair (.int .i64) (.int .i64)))) h
  have key : ∀ i, i ≤ v0.length → ∀ a : List (Int × Int), a.length = v0.length → a.take i = v0.take i → laws_toMapS.l3 v0 a (i : Int) = some v0 := by
    refine upto ?_ ?_
    · intro a ha hh
      have ea := take_all_eq ha hh
      subst ea
      exact laws_toMapS.eq3 a a (a.length : Int) (by simp only [laws_toMapS.t3, ix_lt, Nat.lt_irrefl, decide_false, cond_false])
    · intro i hi ih a ha hh
      have hc := laws_toMap_id ((v0.getD i ((0 : Int), (0 : Int))).fst) ((v0.getD i ((0 : Int), (0 : Int))).snd) (Nat.le_trans (szT_mem (t := (.pair (.int .i64) (.int .i64))) (getD_mem ((0 : Int), (0 : Int)) hi)) h)
      have g := ih (a.set i (v0.getD i ((0 : Int), (0 : Int)))) (by simp [ha]) (set_step hi ha hh)
      have hia : i < a.length := by omega
      refine laws_toMapS.eq3 v0 a (i : Int) ?_
      simp only [laws_toMapS.t3, ix_lt, ix_nn, ix_nat, dec_t hi, dec_t hia, cond_true, hc, Option.bind_some, wrap_succ (show i < 9223372036854775807 by omega)]
      exact g
  refine laws_toMapS.eq v0 ?_
  have h3 : ((v0.length : Int) ≤ ((4294967296 : Nat) : Int)) := by omega
  simp only [laws_toMapS.t, decide_true, dec_t h3, cond_true, ix_nat]
  exact key 0 (Nat.zero_le _) _ (by simp) (by simp)
theorem laws_toWindow_id (v0 : List (Int × Int)) (v1 : List (Int × Int)) (v2 : List (Int × Int)) (v3 : Int) (v4 : Int) (h : szT (.pair (.sl (.pair (.int .i64) (.int .i64))) (.pair (.sl (.pair (.int .i64) (.int .i64))) (.pair (.sl (.pair (.int .i64) (.int .i64))) (.pair (.int .i64) (.int .i64))))) (v0, (v1, (v2, (v3, v4)))) ≤ 1073741824) : laws_toWindow v0 v1 v2 v3 v4 = some (v0, v1, v2, v3, v4) := by
  have e1 := laws_toMapS_id v0 (by simp only [szT] at h ⊢; omega)
  have e2 := laws_toMapS_id v1 (by simp only [szT] at h ⊢; omega)
  have e3 := laws_toMapS_id v2 (by simp only [szT] at h ⊢; omega)
  have e4 := laws_toMap_id v3 v4 (by simp only [szT] at h ⊢; omega)
  exact laws_toWindow.eq v0 v1 v2 v3 v4 (by simp only [laws_toWindow.t, e1, e2, e3, e4, Option.bind_some])
theorem xs01_ok (v0 : List (Int × Int)) (p : (Int) × (Int) → Bool) (hl : v0.length ≤ 4611686018427387904) (hp : ∀ x, x ∈ v0 → xi03 ((x).fst) ((x).snd) = some (p x)) : ∃ r : Int, xs01 v0 = some r ∧ decide (r ≥ 0) = v0.any p := by
  have key : ∀ i, i ≤ v0.length → ∃ r : Int, xs01.l2 (v0) ((↑v0.length : Int)) (i : Int) = some r ∧ decide (r ≥ 0) = (v0.drop i).any p := by
    refine upto ?_ ?_
    · exact ⟨-1, xs01.eq2 (v0) ((↑v0.length : Int)) (v0.length : Int) (by simp only [xs01.t2, ix_lt, Nat.lt_irrefl, decide_false, cond_false]), by simp⟩
    · intro i hi ih
      have hc := hp _ (getD_mem ((0 : Int), (0 : Int)) hi)
      rw [drop_getD ((0 : Int), (0 : Int)) hi, List.any_cons]
      cases hx : p (v0.getD i ((0 : Int), (0 : Int))) with
      | true => exact ⟨i, xs01.eq2 (v0) ((↑v0.length : Int)) (i : Int) (by simp only [xs01.t2, ix_lt, ix_nn, ix_nat, dec_t hi, cond_true, hc, hx, Option.bind_some]), by simp⟩
      | false =>
        obtain ⟨r, g0, g1⟩ := ih
        exact ⟨r, xs01.eq2 (v0) ((↑v0.length : Int)) (i : Int) (by simp only [xs01.t2, ix_lt, ix_nn, ix_nat, dec_t hi, cond_true, cond_false, hc, hx, Option.bind_some, wrap_succ (show i < 9223372036854775807 by omega), g0]), by rw [g1, Bool.false_or]⟩
  obtain ⟨r, g0, g1⟩ := key 0 (Nat.zero_le _)
  exact ⟨r, xs01.eq v0 (by simp only [xs01.t]; exact g0), by simpa using g1⟩
theorem xs00_ok (v0 : List (Int × Int)) (p : (Int) × (Int) → Bool) (hl : v0.length ≤ 4611686018427387904) (hp : ∀ x, x ∈ v0 → xi03 ((x).fst) ((x).snd) = some (p x)) : xs00 v0 = some (v0.any p) := by
  obtain ⟨r, g0, g1⟩ := xs01_ok (v0) p hl hp
  exact xs00.eq v0 (by simp only [xs00.t, g0, Option.bind_some, g1])
theorem xi04_ok (v0 : List (Int × Int)) (p : (Int) × (Int) → Bool) (hl : v0.length ≤ 4611686018427387904) (hp : ∀ x, x ∈ v0 → impl_GoodMap (((x).fst)) (((x).snd)) = some (p x)) : xi04 v0 = some (v0.all p) := by
  have g := xs00_ok (v0) (fun x => !p x) hl (fun x hx => xi03.eq ((x).fst) ((x).snd) (by simp only [xi03.t, hp x hx, Option.bind_some]))
  exact xi04.eq v0 (by simp only [xi04.t, g, Option.bind_some, List.all_eq_not_any_not])
theorem laws_eqMap_rf (v0 : Int) (v1 : Int) (h : szT (.pair (.int .i64) (.int .i64)) (v0, v1) ≤ 1073741824) : laws_eqMap v0 v1 v0 v1 = some true := by
  exact laws_eqMap.eq v0 v1 v0 v1 (by simp only [laws_eqMap.t, Option.bind_some, bne_ref, beq_ref, bang_t, cond_false])
theorem laws_eqMapS_rf (v0 : List (Int × Int)) (h : szT (.sl (.pair (.int .i64) (.int .i64))) v0 ≤ 1073741824) : laws_eqMapS v0 v0 = some true := by
  have hlen : v0.length ≤ 1073741824 := Nat.le_trans (szT_len (t := (.pair (.int .i64) (.int .i64)))) h
  have key : ∀ i, i ≤ v0.length → laws_eqMapS.l4 v0 v0 (i : Int) = some true := by
    refine upto ?_ ?_
    · exact laws_eqMapS.eq4 v0 v0 (v0.length : Int) (by simp only [laws_eqMapS.t4, ix_lt, Nat.lt_irrefl, decide_false, cond_false])
    · intro i hi ih
      have hc := laws_eqMap_rf ((v0.getD i ((0 : Int), (0 : Int))).fst) ((v0.getD i ((0 : Int), (0 : Int))).snd) (Nat.le_trans (szT_mem (t := (.pair (.int .i64) (.int .i64))) (getD_mem ((0 : Int), (0 : Int)) hi)) h)
      exact laws_eqMapS.eq4 v0 v0 (i : Int) (by simp only [laws_eqMapS.t4, ix_lt, ix_nn, ix_nat, dec_t hi, cond_true, cond_false, bne_ref, beq_ref, bang_t, hc, Option.bind_some, bang_t, wrap_succ (show i < 9223372036854775807 by omega), ih])
  exact laws_eqMapS.eq v0 v0 (by simp only [laws_eqMapS.t, bne_ref, cond_false]; exact key 0 (Nat.zero_le _))
theorem laws_eqWindow_rf (v0 : List (Int × Int)) (v1 : List (Int × Int)) (v2 : List (Int × Int)) (v3 : Int) (v4 : Int) (h : szT (.pair (.sl (.pair (.int .i64) (.int .i64))) (.pair (.sl (.pair (.int .i64) (.int .i64))) (.pair (.sl (.pair (.int .i64) (.int .i64))) (.pair (.int .i64) (.int .i64))))) (v0, (v1, (v2, (v3, v4)))) ≤ 1073741824) : laws_eqWindow v0 v1 v2 v3 v4 v0 v1 v2 v3 v4 = some true := by
  have e1 := laws_eqMapS_rf v0 (by simp only [szT] at h ⊢; omega)
  have e2 := laws_eqMapS_rf v1 (by simp only [szT] at h ⊢; omega)
  have e3 := laws_eqMapS_rf v2 (by simp only [szT] at h ⊢; omega)
  have e4 := laws_eqMap_rf v3 v4 (by simp only [szT] at h ⊢; omega)
  exact laws_eqWindow.eq v0 v1 v2 v3 v4 v0 v1 v2 v3 v4 (by simp only [laws_eqWindow.t, e1, e2, e3, e4, Option.bind_some, bne_ref, beq_ref, bang_t, cond_false])
theorem laws_markMapS_cfe_ok (v0 : List (Int × Int)) (v1 : Int) (h0 : 0 ≤ v1) (h1 : v1 + (cntT (.sl (.pair (.int .i64) (.int .i64))) v0 : Int) ≤ 4611686018427387904) (h2 : szT (.sl (.pair (.int .i64) (.int .i64))) v0 ≤ 1073741824) : laws_markMapS_cfe v0 v1 = some ((mrL (mrE (.pair (.int .i64) (.int .i64))) v0 v1).2, (mrL (mrE (.pair (.int .i64) (.int .i64))) v0 v1).1) := by
  have key : ∀ (rest pre : List (Int × Int)) (k : Int), 0 ≤ k → k + (cntT (.sl (.pair (.int .i64) (.int .i64))) rest : Int) ≤ 4611686018427387904 → pre.length + szT (.sl (.pair (.int .i64) (.int .i64))) rest ≤ 1073741824 →
      laws_markMapS_cfe.l2 (pre ++ rest) k (pre.length : Int) = some ((mrL (mrE (.pair (.int .i64) (.int .i64))) rest k).2, pre ++ (mrL (mrE (.pair (.int .i64) (.int .i64))) rest k).1) := by
    intro rest
    induction rest with
    | nil =>
      intro pre k _ _ _
      exact laws_markMapS_cfe.eq2 _ _ _ (by simp only [laws_markMapS_cfe.t2, List.append_nil, ix_lt, Nat.lt_irrefl, decide_false, cond_false, mrL_nil])
    | cons x r ih =>
      intro pre k hk hb hl
      rw [cnt_cons] at hb
      simp only [cntT] at hb
      simp only [szT, List.length_cons, List.map_cons, List.sum_cons] at hl
      have g := ih (pre ++ [(mrE (.pair (.int .i64) (.int .i64)) x k).1]) (mrE (.pair (.int .i64) (.int .i64)) x k).2 (by rw [mrE_cnt]; omega) (by rw [mrE_cnt]; simp only [cntT] at hb ⊢; omega) (by simp only [szT, List.length_append, List.length_cons, List.length_nil] at hl ⊢; omega)
      refine laws_markMapS_cfe.eq2 _ _ _ ?_
      simp only [mrL_cons, mrE_int, mrE_bool, mrE_sl, mrE_pair]
      simp only [laws_markMapS_cfe.t2, lenI_mid, ix_nn, ix_nat, len_mid, set_mid, getD_mid, cond_true, cond_false, bne_ref, beq_ref, bang_t, wrap_k (k := k) (by omega) (by omega), wrap_k (k := (k + 1)) (by omega) (by omega), wrap_succ (show pre.length < 9223372036854775807 by omega), Option.bind_some, dec_rfl, Bool.and_true]
      rw [push_mid]
      simpa [mrE_int, mrE_bool, mrE_sl, mrE_pair] using g
  exact laws_markMapS_cfe.eq v0 v1 (by simp only [laws_markMapS_cfe.t]; exact key v0 [] v1 h0 h1 (by simpa using h2))
theorem xl08_ok (v0 : List (Int × Int)) (v1 : List (Int × Int)) (v2 : List (Int × Int)) (v3 : Int) (v4 : Int) (v5 : Int) (h0 : 0 ≤ v5) (h1 : v5 + (cntT (.pair (.sl (.pair (.int .i64) (.int .i64))) (.pair (.sl (.pair (.int .i64) (.int .i64))) (.pair (.sl (.pair (.int .i64) (.int .i64))) (.pair (.int .i64) (.int .i64))))) (v0, (v1, (v2, (v3, v4)))) : Int) ≤ 4611686018427387904) (h2 : szT (.pair (.sl (.pair (.int .i64) (.int .i64))) (.pair (.sl (.pair (.int .i64) (.int .i64))) (.pair (.sl (.pair (.int .i64) (.int .i64))) (.pair (.int .i64) (.int .i64))))) (v0, (v1, (v2, (v3, v4)))) ≤ 1073741824) : xl08 v0 v1 v2 v3 v4 v5 = some ((mrT (.pair (.sl (.pair (.int .i64) (.int .i64))) (.pair (.sl (.pair (.int .i64) (.int .i64))) (.pair (.sl (.pair (.int .i64) (.int .i64))) (.pair (.int .i64) (.int .i64))))) (v0, (v1, (v2, (v3, v4)))) v5).2, (mrT (.pair (.sl (.pair (.int .i64) (.int .i64))) (.pair (.sl (.pair (.int .i64) (.int .i64))) (.pair (.sl (.pair (.int .i64) (.int .i64))) (.pair (.int .i64) (.int .i64))))) (v0, (v1, (v2, (v3, v4)))) v5).1.1, (mrT (.pair (.sl (.pair (.int .i64) (.int .i64))) (.pair (.sl (.pair (.int .i64) (.int .i64))) (.pair (.sl (.pair (.int .i64) (.int .i64))) (.pair (.int .i64) (.int .i64))))) (v0, (v1, (v2, (v3, v4)))) v5).1.2.1, (mrT (.pair (.sl (.pair (.int .i64) (.int .i64))) (.pair (.sl (.pair (.int .i64) (.int .i64))) (.pair (.sl (.pair (.int .i64) (.int .i64))) (.pair (.int .i64) (.int .i64))))) (v0, (v1, (v2, (v3, v4)))) v5).1.2.2.1, (mrT (.pair (.sl (.pair (.int .i64) (.int .i64))) (.pair (.sl (.pair (.int .i64) (.int .i64))) (.pair (.sl (.pair (.int .i64) (.int .i64))) (.pair (.int .i64) (.int .i64))))) (v0, (v1, (v2, (v3, v4)))) v5).1.2.2.2.1, (mrT (.pair (.sl (.pair (.int .i64) (.int .i64))) (.pair (.sl (.pair (.int .i64) (.int .i64))) (.pair (.sl (.pair (.int .i64) (.int .i64))) (.pair (.int .i64) (.int .i64))))) (v0, (v1, (v2, (v3, v4)))) v5).1.2.2.2.2) := by
  simp only [cntT] at h1
  simp only [szT] at h2
  have n1 := mrL_cnt (t := (.pair (.int .i64) (.int .i64))) v0 v5
  have n1b := n1
  simp only [cntT] at n1b
  have c1 := laws_markMapS_cfe_ok v0 v5 (by omega) (by simp only [cntT]; omega) (by simp only [szT]; omega)
  have n2 := mrL_cnt (t := (.pair (.int .i64) (.int .i64))) v1 (mrL (mrE (.pair (.int .i64) (.int .i64))) v0 v5).2
  have n2b := n2
  simp only [cntT] at n2b
  have c2 := laws_markMapS_cfe_ok v1 (mrL (mrE (.pair (.int .i64) (.int .i64))) v0 v5).2 (by omega) (by simp only [cntT]; omega) (by simp only [szT]; omega)
  have n3 := mrL_cnt (t := (.pair (.int .i64) (.int .i64))) v2 (mrL (mrE (.pair (.int .i64) (.int .i64))) v1 (mrL (mrE (.pair (.int .i64) (.int .i64))) v0 v5).2).2
  have n3b := n3
  simp only [cntT] at n3b
  have c3 := laws_markMapS_cfe_ok v2 (mrL (mrE (.pair (.int .i64) (.int .i64))) v1 (mrL (mrE (.pair (.int .i64) (.int .i64))) v0 v5).2).2 (by omega) (by simp only [cntT]; omega) (by simp only [szT]; omega)
  try simp only [mrT] at c1 c2 c3
  refine xl08.eq _ _ _ _ _ _ ?_
  simp only [xl08.t, mrT, c1, c2, c3, Option.bind_some, cond_false]
theorem laws_heldMapS_ok (v0 : List (Int × Int)) (v1 : Int) (h0 : 0 ≤ v1) (h1 : v1 + (cntT (.sl (.pair (.int .i64) (.int .i64))) v0 : Int) ≤ 4611686018427387904) (h2 : szT (.sl (.pair (.int .i64) (.int .i64))) v0 ≤ 1073741824) : laws_heldMapS (mrL (mrE (.pair (.int .i64) (.int .i64))) v0 v1).1 v1 = some (mrL (mrE (.pair (.int .i64) (.int .i64))) v0 v1).2 := by
  have key : ∀ (rest pre : List (Int × Int)) (k : Int), 0 ≤ k → k + (cntT (.sl (.pair (.int .i64) (.int .i64))) rest : Int) ≤ 4611686018427387904 → pre.length + szT (.sl (.pair (.int .i64) (.int .i64))) rest ≤ 1073741824 →
      laws_heldMapS.l2 (pre ++ (mrL (mrE (.pair (.int .i64) (.int .i64))) rest k).1) k (pre.length : Int) = some (mrL (mrE (.pair (.int .i64) (.int .i64))) rest k).2 := by
    intro rest
    induction rest with
    | nil =>
      intro pre k _ _ _
      exact laws_heldMapS.eq2 _ _ _ (by simp only [laws_heldMapS.t2, List.append_nil, ix_lt, Nat.lt_irrefl, decide_false, cond_false, mrL_nil])
    | cons x r ih =>
      intro pre k hk hb hl
      rw [cnt_cons] at hb
      simp only [cntT] at hb
      simp only [szT, List.length_cons, List.map_cons, List.sum_cons] at hl
      have g := ih (pre ++ [(mrE (.pair (.int .i64) (.int .i64)) x k).1]) (mrE (.pair (.int .i64) (.int .i64)) x k).2 (by rw [mrE_cnt]; omega) (by rw [mrE_cnt]; simp only [cntT] at hb ⊢; omega) (by simp only [szT, List.length_append, List.length_cons, List.length_nil] at hl ⊢; omega)
      refine laws_heldMapS.eq2 _ _ _ ?_
      simp only [mrL_cons, mrE_int, mrE_bool, mrE_sl, mrE_pair]
      simp only [laws_heldMapS.t2, lenI_mid, ix_nn, ix_nat, len_mid, set_mid, getD_mid, cond_true, cond_false, bne_ref, beq_ref, bang_t, wrap_k (k := k) (by omega) (by omega), wrap_k (k := (k + 1)) (by omega) (by omega), wrap_succ (show pre.length < 9223372036854775807 by omega), Option.bind_some, dec_rfl, Bool.and_true]
      rw [push_mid]
      simpa [mrE_int, mrE_bool, mrE_sl, mrE_pair] using g
  exact laws_heldMapS.eq _ v1 (by simp only [laws_heldMapS.t]; exact key v0 [] v1 h0 h1 (by simpa using h2))
theorem laws_heldWindow_ok (v0 : List (Int × Int)) (v1 : List (Int × Int)) (v2 : List (Int × Int)) (v3 : Int) (v4 : Int) (v5 : Int) (h0 : 0 ≤ v5) (h1 : v5 + (cntT (.pair (.sl (.pair (.int .i64) (.int .i64))) (.pair (.sl (.pair (.int .i64) (.int .i64))) (.pair (.sl (.pair (.int .i64) (.int .i64))) (.pair (.int .i64) (.int .i64))))) (v0, (v1, (v2, (v3, v4)))) : Int) ≤ 4611686018427387904) (h2 : szT (.pair (.sl (.pair (.int .i64) (.int .i64))) (.pair (.sl (.pair (.int .i64) (.int .i64))) (.pair (.sl (.pair (.int .i64) (.int .i64))) (.pair (.int .i64) (.int .i64))))) (v0, (v1, (v2, (v3, v4)))) ≤ 1073741824) : laws_heldWindow ((mrT (.pair (.sl (.pair (.int .i64) (.int .i64))) (.pair (.sl (.pair (.int .i64) (.int .i64))) (.pair (.sl (.pair (.int .i64) (.int .i64))) (.pair (.int .i64) (.int .i64))))) (v0, (v1, (v2, (v3, v4)))) v5).1.1) ((mrT (.pair (.sl (.pair (.int .i64) (.int .i64))) (.pair (.sl (.pair (.int .i64) (.int .i64))) (.pair (.sl (.pair (.int .i64) (.int .i64))) (.pair (.int .i64) (.int .i64))))) (v0, (v1, (v2, (v3, v4)))) v5).1.2.1) ((mrT (.pair (.sl (.pair (.int .i64) (.int .i64))) (.pair (.sl (.pair (.int .i64) (.int .i64))) (.pair (.sl (.pair (.int .i64) (.int .i64))) (.pair (.int .i64) (.int .i64))))) (v0, (v1, (v2, (v3, v4)))) v5).1.2.2.1) ((mrT (.pair (.sl (.pair (.int .i64) (.int .i64))) (.pair (.sl (.pair (.int .i64) (.int .i64))) (.pair (.sl (.pair (.int .i64) (.int .i64))) (.pair (.int .i64) (.int .i64))))) (v0, (v1, (v2, (v3, v4)))) v5).1.2.2.2.1) ((mrT (.pair (.sl (.pair (.int .i64) (.int .i64))) (.pair (.sl (.pair (.int .i64) (.int .i64))) (.pair (.sl (.pair (.int .i64) (.int .i64))) (.pair (.int .i64) (.int .i64))))) (v0, (v1, (v2, (v3, v4)))) v5).1.2.2.2.2) v5 = some (mrT (.pair (.sl (.pair (.int .i64) (.int .i64))) (.pair (.sl (.pair (.int .i64) (.int .i64))) (.pair (.sl (.pair (.int .i64) (.int .i64))) (.pair (.int .i64) (.int .i64))))) (v0, (v1, (v2, (v3, v4)))) v5).2 := by
  simp only [cntT] at h1
  simp only [szT] at h2
  have n1 := mrL_cnt (t := (.pair (.int .i64) (.int .i64))) v0 v5
  have n1b := n1
  simp only [cntT] at n1b
  have c1 := laws_heldMapS_ok v0 v5 (by omega) (by simp only [cntT]; omega) (by simp only [szT]; omega)
  have g1 : ¬ (mrL (mrE (.pair (.int .i64) (.int .i64))) v0 v5).2 < 0 := by omega
  have n2 := mrL_cnt (t := (.pair (.int .i64) (.int .i64))) v1 (mrL (mrE (.pair (.int .i64) (.int .i64))) v0 v5).2
  have n2b := n2
  simp only [cntT] at n2b
  have c2 := laws_heldMapS_ok v1 (mrL (mrE (.pair (.int .i64) (.int .i64))) v0 v5).2 (by omega) (by simp only [cntT]; omega) (by simp only [szT]; omega)
  have g2 : ¬ (mrL (mrE (.pair (.int .i64) (.int .i64))) v1 (mrL (mrE (.pair (.int .i64) (.int .i64))) v0 v5).2).2 < 0 := by omega
  have n3 := mrL_cnt (t := (.pair (.int .i64) (.int .i64))) v2 (mrL (mrE (.pair (.int .i64) (.int .i64))) v1 (mrL (mrE (.pair (.int .i64) (.int .i64))) v0 v5).2).2
  have n3b := n3
  simp only [cntT] at n3b
  have c3 := laws_heldMapS_ok v2 (mrL (mrE (.pair (.int .i64) (.int .i64))) v1 (mrL (mrE (.pair (.int .i64) (.int .i64))) v0 v5).2).2 (by omega) (by simp only [cntT]; omega) (by simp only [szT]; omega)
  have g3 : ¬ (mrL (mrE (.pair (.int .i64) (.int .i64))) v2 (mrL (mrE (.pair (.int .i64) (.int .i64))) v1 (mrL (mrE (.pair (.int .i64) (.int .i64))) v0 v5).2).2).2 < 0 := by omega
  try simp only [mrT] at c1 g1 c2 g2 c3 g3
  refine laws_heldWindow.eq _ _ _ _ _ _ ?_
  simp only [laws_heldWindow.t, mrT, c1, dec_f g1, c2, dec_f g2, c3, dec_f g3, Option.bind_some, cond_false]
end GoV

/- Small words of the program and of its specification. -/
namespace GoV
open Go
theorem impl_within_eq (x lo hi : Int) : impl_within x lo hi = some (inB lo hi x) := by
  refine impl_within.eq x lo hi ?_
  simp only [impl_within.t, inB]
  by_cases h : lo ≤ x <;> simp [h]
theorem spec_l1In_eq (x lo hi : Int) : spec_l1In x lo hi = some (inB lo hi x) := by
  refine spec_l1In.eq x lo hi ?_
  simp only [spec_l1In.t, inB]
  by_cases h : lo ≤ x <;> simp [h]
end GoV
