/- A part of the proof of FnExactGroupTable: an interpreter of the model over plain data, its soundness, and what it makes of the functions that the statement reaches. Conditions: none beyond what the given statement itself says. -/
import Derived.Test.YtjbhilkkckfkmaaTK
set_option linter.unusedVariables false
set_option linter.unusedSimpArgs false
set_option linter.unnecessarySimpa false
set_option linter.unusedSectionVars false
/- What the statements' own helpers answer (printed by wip/tools/lawgen.py). -/
namespace GoV
open Go
theorem laws_szIntS_ok (v0 : List Int) (v1 : Int) (hw : WfT (.sl (.int .i64)) v0) (h1 : 0 ≤ v1) (h2 : v1 ≤ 1048576) : ∃ r, laws_szIntS v0 v1 = some r ∧ r ≤ v1 ∧ (0 ≤ r → (szT (.sl (.int .i64)) v0 : Int) + r = v1) := by
  have hl := hw.1
  have e0 : IntKind.i64.wrap (v1 - (v0.length : Int)) = v1 - (v0.length : Int) := wrap_id (by omega) (by omega)
  by_cases hn : v1 - (v0.length : Int) < 0
  · exact ⟨-1, laws_szIntS.eq v0 v1 (by simp only [laws_szIntS.t, e0, dec_t hn, cond_true]), by omega, fun h => by omega⟩
  · exact ⟨v1 - (v0.length : Int), laws_szIntS.eq v0 v1 (by simp only [laws_szIntS.t, e0, dec_f hn, cond_false]), by omega, fun _ => by rw [szT_sl_flat (t := (.int .i64)) v0 rfl]; omega⟩
theorem laws_szRow_ok (v0 : List Int) (v1 : Int) (hw : WfT (.sl (.int .i64)) v0) (h1 : 0 ≤ v1) (h2 : v1 ≤ 1048576) : ∃ r, laws_szRow v0 v1 = some r ∧ r ≤ v1 ∧ (0 ≤ r → (szT (.sl (.int .i64)) v0 : Int) + r = v1) := by
  obtain ⟨r1, e1, a1, b1⟩ := laws_szIntS_ok v0 v1 hw h1 h2
  by_cases n1 : r1 < 0
  · exact ⟨-1, laws_szRow.eq v0 v1 (by simp only [laws_szRow.t, dec_t n1, e1, cond_true, cond_false, Option.bind_some]), by omega, fun h => by omega⟩
  refine ⟨r1, laws_szRow.eq v0 v1 (by simp only [laws_szRow.t, e1, dec_f n1, cond_true, cond_false, Option.bind_some]), by omega, fun h => ?_⟩
  have k1 := b1 (by omega)
  simp only [szT] at k1 ⊢
  omega
theorem laws_toIntS_id (v0 : List Int) (h : szT (.sl (.int .i64)) v0 ≤ 1073741824) : laws_toIntS v0 = some v0 := by
  have hlen : v0.length ≤ 1073741824 := Nat.le_trans (szT_len (t := (.int .i64))) h
  have key : ∀ i, i ≤ v0.length → ∀ a : List Int, a.length = v0.length → a.take i = v0.take i → laws_toIntS.l3 v0 a (i : Int) = some v0 := by
    refine upto ?_ ?_
    · intro a ha hh
      have ea := take_all_eq ha hh
      subst ea
      exact laws_toIntS.eq3 a a (a.length : Int) (by simp only [laws_toIntS.t3, ix_lt, Nat.lt_irrefl, decide_false, cond_false])
    · intro i hi ih a ha hh
      have g := ih (a.set i (v0.getD i (0 : Int))) (by simp [ha]) (set_step hi ha hh)
      have hia : i < a.length := by omega
      refine laws_toIntS.eq3 v0 a (i : Int) ?_
      simp only [laws_toIntS.t3, ix_lt, ix_nn, ix_nat, dec_t hi, dec_t hia, cond_true, wrap_succ (show i < 9223372036854775807 by omega)]
      exact g
  refine laws_toIntS.eq v0 ?_
  have h3 : ((v0.length : Int) ≤ ((4294967296 : Nat) : Int)) := by omega
  simp only [laws_toIntS.t, decide_true, dec_t h3, cond_true, ix_nat]
  exact key 0 (Nat.zero_le _) _ (by simp) (by simp)
theorem laws_toRow_id (v0 : List Int) (h : szT (.sl (.int .i64)) v0 ≤ 1073741824) : laws_toRow v0 = some v0 := by
  have e1 := laws_toIntS_id v0 (by simp only [szT] at h ⊢; omega)
  exact laws_toRow.eq v0 (by simp only [laws_toRow.t, e1, Option.bind_some])
theorem xs06_ok (v0 : List Int) (p : Int → Bool) (hl : v0.length ≤ 4611686018427387904) (hp : ∀ x, x ∈ v0 → xi0g (x) = some (p x)) : ∃ r : Int, xs06 v0 = some r ∧ decide (r ≥ 0) = v0.any p := by
  have key : ∀ i, i ≤ v0.length → ∃ r : Int, xs06.l2 (v0) ((↑v0.length : Int)) (i : Int) = some r ∧ decide (r ≥ 0) = (v0.drop i).any p := by
    refine upto ?_ ?_
    · exact ⟨-1, xs06.eq2 (v0) ((↑v0.length : Int)) (v0.length : Int) (by simp only [xs06.t2, ix_lt, Nat.lt_irrefl, decide_false, cond_false]), by simp⟩
    · intro i hi ih
      have hc := hp _ (getD_mem (0 : Int) hi)
      rw [drop_getD (0 : Int) hi, List.any_cons]
      cases hx : p (v0.getD i (0 : Int)) with
      | true => exact ⟨i, xs06.eq2 (v0) ((↑v0.length : Int)) (i : Int) (by simp only [xs06.t2, ix_lt, ix_nn, ix_nat, dec_t hi, cond_true, hc, hx, Option.bind_some]), by simp⟩
      | false =>
        obtain ⟨r, g0, g1⟩ := ih
        exact ⟨r, xs06.eq2 (v0) ((↑v0.length : Int)) (i : Int) (by simp only [xs06.t2, ix_lt, ix_nn, ix_nat, dec_t hi, cond_true, cond_false, hc, hx, Option.bind_some, wrap_succ (show i < 9223372036854775807 by omega), g0]), by rw [g1, Bool.false_or]⟩
  obtain ⟨r, g0, g1⟩ := key 0 (Nat.zero_le _)
  exact ⟨r, xs06.eq v0 (by simp only [xs06.t]; exact g0), by simpa using g1⟩
theorem xs04_ok (v0 : List Int) (p : Int → Bool) (hl : v0.length ≤ 4611686018427387904) (hp : ∀ x, x ∈ v0 → xi0g (x) = some (p x)) : xs04 v0 = some (v0.any p) := by
  obtain ⟨r, g0, g1⟩ := xs06_ok (v0) p hl hp
  exact xs04.eq v0 (by simp only [xs04.t, g0, Option.bind_some, g1])
theorem xi0h_ok (v0 : List Int) (p : Int → Bool) (hl : v0.length ≤ 4611686018427387904) (hp : ∀ x, x ∈ v0 → impl_isCell ((x)) = some (p x)) : xi0h v0 = some (v0.all p) := by
  have g := xs04_ok (v0) (fun x => !p x) hl (fun x hx => xi0g.eq (x) (by simp only [xi0g.t, hp x hx, Option.bind_some]))
  exact xi0h.eq v0 (by simp only [xi0h.t, g, Option.bind_some, List.all_eq_not_any_not])
theorem xs07_ok (v0 : List (List Int × Int × Int)) (p : (List Int) × ((Int) × (Int)) → Bool) (hl : v0.length ≤ 4611686018427387904) (hp : ∀ x, x ∈ v0 → impl_grouped_2 ((x).fst) ((x).snd.fst) ((x).snd.snd) = some (p x)) : ∃ r : Int, xs07 v0 = some r ∧ decide (r ≥ 0) = v0.any p := by
  have key : ∀ i, i ≤ v0.length → ∃ r : Int, xs07.l2 (v0) ((↑v0.length : Int)) (i : Int) = some r ∧ decide (r ≥ 0) = (v0.drop i).any p := by
    refine upto ?_ ?_
    · exact ⟨-1, xs07.eq2 (v0) ((↑v0.length : Int)) (v0.length : Int) (by simp only [xs07.t2, ix_lt, Nat.lt_irrefl, decide_false, cond_false]), by simp⟩
    · intro i hi ih
      have hc := hp _ (getD_mem ([], (0 : Int), (0 : Int)) hi)
      rw [drop_getD ([], (0 : Int), (0 : Int)) hi, List.any_cons]
      cases hx : p (v0.getD i ([], (0 : Int), (0 : Int))) with
      | true => exact ⟨i, xs07.eq2 (v0) ((↑v0.length : Int)) (i : Int) (by simp only [xs07.t2, ix_lt, ix_nn, ix_nat, dec_t hi, cond_true, hc, hx, Option.bind_some]), by simp⟩
      | false =>
        obtain ⟨r, g0, g1⟩ := ih
        exact ⟨r, xs07.eq2 (v0) ((↑v0.length : Int)) (i : Int) (by simp only [xs07.t2, ix_lt, ix_nn, ix_nat, dec_t hi, cond_true, cond_false, hc, hx, Option.bind_some, wrap_succ (show i < 9223372036854775807 by omega), g0]), by rw [g1, Bool.false_or]⟩
  obtain ⟨r, g0, g1⟩ := key 0 (Nat.zero_le _)
  exact ⟨r, xs07.eq v0 (by simp only [xs07.t]; exact g0), by simpa using g1⟩
theorem laws_eqIntS_rf (v0 : List Int) (h : szT (.sl (.int .i64)) v0 ≤ 1073741824) : laws_eqIntS v0 v0 = some true := by
  have hlen : v0.length ≤ 1073741824 := Nat.le_trans (szT_len (t := (.int .i64))) h
  have key : ∀ i, i ≤ v0.length → laws_eqIntS.l4 v0 v0 (i : Int) = some true := by
    refine upto ?_ ?_
    · exact laws_eqIntS.eq4 v0 v0 (v0.length : Int) (by simp only [laws_eqIntS.t4, ix_lt, Nat.lt_irrefl, decide_false, cond_false])
    · intro i hi ih
      exact laws_eqIntS.eq4 v0 v0 (i : Int) (by simp only [laws_eqIntS.t4, ix_lt, ix_nn, ix_nat, dec_t hi, cond_true, cond_false, bne_ref, beq_ref, bang_t, wrap_succ (show i < 9223372036854775807 by omega), ih])
  exact laws_eqIntS.eq v0 v0 (by simp only [laws_eqIntS.t, bne_ref, cond_false]; exact key 0 (Nat.zero_le _))
theorem laws_eqRow_rf (v0 : List Int) (h : szT (.sl (.int .i64)) v0 ≤ 1073741824) : laws_eqRow v0 v0 = some true := by
  have e1 := laws_eqIntS_rf v0 (by simp only [szT] at h ⊢; omega)
  exact laws_eqRow.eq v0 v0 (by simp only [laws_eqRow.t, e1, Option.bind_some, bne_ref, beq_ref, bang_t, cond_false])
theorem laws_eqGroup_rf (v0 : List Int) (v1 : Int) (v2 : Int) (h : szT (.pair (.sl (.int .i64)) (.pair (.int .i64) (.int .i64))) (v0, (v1, v2)) ≤ 1073741824) : laws_eqGroup v0 v1 v2 v0 v1 v2 = some true := by
  have e1 := laws_eqRow_rf v0 (by simp only [szT] at h ⊢; omega)
  exact laws_eqGroup.eq v0 v1 v2 v0 v1 v2 (by simp only [laws_eqGroup.t, e1, Option.bind_some, bne_ref, beq_ref, bang_t, cond_false])
theorem laws_eqGroupS_rf (v0 : List (List Int × Int × Int)) (h : szT (.sl (.pair (.sl (.int .i64)) (.pair (.int .i64) (.int .i64)))) v0 ≤ 1073741824) : laws_eqGroupS v0 v0 = some true := by
  have hlen : v0.length ≤ 1073741824 := Nat.le_trans (szT_len (t := (.pair (.sl (.int .i64)) (.pair (.int .i64) (.int .i64))))) h
  have key : ∀ i, i ≤ v0.length → laws_eqGroupS.l4 v0 v0 (i : Int) = some true := by
    refine upto ?_ ?_
    · exact laws_eqGroupS.eq4 v0 v0 (v0.length : Int) (by simp only [laws_eqGroupS.t4, ix_lt, Nat.lt_irrefl, decide_false, cond_false])
    · intro i hi ih
      have hc := laws_eqGroup_rf ((v0.getD i ([], (0 : Int), (0 : Int))).fst) ((v0.getD i ([], (0 : Int), (0 : Int))).snd.fst) ((v0.getD i ([], (0 : Int), (0 : Int))).snd.snd) (Nat.le_trans (szT_mem (t := (.pair (.sl (.int .i64)) (.pair (.int .i64) (.int .i64)))) (getD_mem ([], (0 : Int), (0 : Int)) hi)) h)
      exact laws_eqGroupS.eq4 v0 v0 (i : Int) (by simp only [laws_eqGroupS.t4, ix_lt, ix_nn, ix_nat, dec_t hi, cond_true, cond_false, bne_ref, beq_ref, bang_t, hc, Option.bind_some, bang_t, wrap_succ (show i < 9223372036854775807 by omega), ih])
  exact laws_eqGroupS.eq v0 v0 (by simp only [laws_eqGroupS.t, bne_ref, cond_false]; exact key 0 (Nat.zero_le _))
theorem laws_markIntS_83f_ok (v0 : List Int) (v1 : Int) (h0 : 0 ≤ v1) (h1 : v1 + (cntT (.sl (.int .i64)) v0 : Int) ≤ 4611686018427387904) (h2 : szT (.sl (.int .i64)) v0 ≤ 1073741824) : laws_markIntS_83f v0 v1 = some ((mrL (mrE (.int .i64)) v0 v1).2, (mrL (mrE (.int .i64)) v0 v1).1) := by
  have key : ∀ (rest pre : List Int) (k : Int), 0 ≤ k → k + (cntT (.sl (.int .i64)) rest : Int) ≤ 4611686018427387904 → pre.length + szT (.sl (.int .i64)) rest ≤ 1073741824 →
      laws_markIntS_83f.l2 (pre ++ rest) k (pre.length : Int) = some ((mrL (mrE (.int .i64)) rest k).2, pre ++ (mrL (mrE (.int .i64)) rest k).1) := by
    intro rest
    induction rest with
    | nil =>
      intro pre k _ _ _
      exact laws_markIntS_83f.eq2 _ _ _ (by simp only [laws_markIntS_83f.t2, List.append_nil, ix_lt, Nat.lt_irrefl, decide_false, cond_false, mrL_nil])
    | cons x r ih =>
      intro pre k hk hb hl
      rw [cnt_cons] at hb
      simp only [cntT] at hb
      simp only [szT, List.length_cons, List.map_cons, List.sum_cons] at hl
      have g := ih (pre ++ [(mrE (.int .i64) x k).1]) (mrE (.int .i64) x k).2 (by rw [mrE_cnt]; omega) (by rw [mrE_cnt]; simp only [cntT] at hb ⊢; omega) (by simp only [szT, List.length_append, List.length_cons, List.length_nil] at hl ⊢; omega)
      refine laws_markIntS_83f.eq2 _ _ _ ?_
      simp only [mrL_cons, mrE_int, mrE_bool, mrE_sl, mrE_pair]
      simp only [laws_markIntS_83f.t2, lenI_mid, ix_nn, ix_nat, len_mid, set_mid, getD_mid, cond_true, cond_false, bne_ref, beq_ref, bang_t, wrap_k (k := k) (by omega) (by omega), wrap_succ (show pre.length < 9223372036854775807 by omega), Option.bind_some, dec_rfl, Bool.and_true]
      rw [push_mid]
      simpa [mrE_int, mrE_bool, mrE_sl, mrE_pair] using g
  exact laws_markIntS_83f.eq v0 v1 (by simp only [laws_markIntS_83f.t]; exact key v0 [] v1 h0 h1 (by simpa using h2))
theorem xl0m_ok (v0 : List (List Int × Int × Int)) (v1 : Int) (h0 : 0 ≤ v1) (h1 : v1 + (cntT (.sl (.pair (.sl (.int .i64)) (.pair (.int .i64) (.int .i64)))) v0 : Int) ≤ 4611686018427387904) (h2 : szT (.sl (.pair (.sl (.int .i64)) (.pair (.int .i64) (.int .i64)))) v0 ≤ 1073741824) : xl0m v0 v1 = some ((mrL (mrE (.pair (.sl (.int .i64)) (.pair (.int .i64) (.int .i64)))) v0 v1).2, (mrL (mrE (.pair (.sl (.int .i64)) (.pair (.int .i64) (.int .i64)))) v0 v1).1) := by
  have key : ∀ (rest pre : List (List Int × Int × Int)) (k : Int), 0 ≤ k → k + (cntT (.sl (.pair (.sl (.int .i64)) (.pair (.int .i64) (.int .i64)))) rest : Int) ≤ 4611686018427387904 → pre.length + szT (.sl (.pair (.sl (.int .i64)) (.pair (.int .i64) (.int .i64)))) rest ≤ 1073741824 →
      xl0m.l2 (pre ++ rest) k (pre.length : Int) = some ((mrL (mrE (.pair (.sl (.int .i64)) (.pair (.int .i64) (.int .i64)))) rest k).2, pre ++ (mrL (mrE (.pair (.sl (.int .i64)) (.pair (.int .i64) (.int .i64)))) rest k).1) := by
    intro rest
    induction rest with
    | nil =>
      intro pre k _ _ _
      exact xl0m.eq2 _ _ _ (by simp only [xl0m.t2, List.append_nil, ix_lt, Nat.lt_irrefl, decide_false, cond_false, mrL_nil])
    | cons x r ih =>
      intro pre k hk hb hl
      rw [cnt_cons] at hb
      simp only [cntT] at hb
      simp only [szT, List.length_cons, List.map_cons, List.sum_cons] at hl
      have n1 := mrL_cnt (t := (.int .i64)) x.1 k
      simp only [cntT] at n1
      have c1 := laws_markIntS_83f_ok x.1 k (by omega) (by simp only [cntT]; omega) (by simp only [szT]; omega)
      have g := ih (pre ++ [(mrE (.pair (.sl (.int .i64)) (.pair (.int .i64) (.int .i64))) x k).1]) (mrE (.pair (.sl (.int .i64)) (.pair (.int .i64) (.int .i64))) x k).2 (by rw [mrE_cnt]; omega) (by rw [mrE_cnt]; simp only [cntT] at hb ⊢; omega) (by simp only [szT, List.length_append, List.length_cons, List.length_nil] at hl ⊢; omega)
      refine xl0m.eq2 _ _ _ ?_
      simp only [mrL_cons, mrE_int, mrE_bool, mrE_sl, mrE_pair]
      simp only [xl0m.t2, lenI_mid, ix_nn, ix_nat, len_mid, set_mid, getD_mid, cond_true, cond_false, bne_ref, beq_ref, bang_t, wrap_k (k := (mrL (mrE (.int .i64)) x.1 k).2) (by omega) (by omega), wrap_k (k := ((mrL (mrE (.int .i64)) x.1 k).2 + 1)) (by omega) (by omega), c1, wrap_succ (show pre.length < 9223372036854775807 by omega), Option.bind_some, dec_rfl, Bool.and_true]
      rw [push_mid]
      simpa [mrE_int, mrE_bool, mrE_sl, mrE_pair] using g
  exact xl0m.eq v0 v1 (by simp only [xl0m.t]; exact key v0 [] v1 h0 h1 (by simpa using h2))
theorem laws_heldIntS_ok (v0 : List Int) (v1 : Int) (h0 : 0 ≤ v1) (h1 : v1 + (cntT (.sl (.int .i64)) v0 : Int) ≤ 4611686018427387904) (h2 : szT (.sl (.int .i64)) v0 ≤ 1073741824) : laws_heldIntS (mrL (mrE (.int .i64)) v0 v1).1 v1 = some (mrL (mrE (.int .i64)) v0 v1).2 := by
  have key : ∀ (rest pre : List Int) (k : Int), 0 ≤ k → k + (cntT (.sl (.int .i64)) rest : Int) ≤ 4611686018427387904 → pre.length + szT (.sl (.int .i64)) rest ≤ 1073741824 →
      laws_heldIntS.l2 (pre ++ (mrL (mrE (.int .i64)) rest k).1) k (pre.length : Int) = some (mrL (mrE (.int .i64)) rest k).2 := by
    intro rest
    induction rest with
    | nil =>
      intro pre k _ _ _
      exact laws_heldIntS.eq2 _ _ _ (by simp only [laws_heldIntS.t2, List.append_nil, ix_lt, Nat.lt_irrefl, decide_false, cond_false, mrL_nil])
    | cons x r ih =>
      intro pre k hk hb hl
      rw [cnt_cons] at hb
      simp only [cntT] at hb
      simp only [szT, List.length_cons, List.map_cons, List.sum_cons] at hl
      have g := ih (pre ++ [(mrE (.int .i64) x k).1]) (mrE (.int .i64) x k).2 (by rw [mrE_cnt]; omega) (by rw [mrE_cnt]; simp only [cntT] at hb ⊢; omega) (by simp only [szT, List.length_append, List.length_cons, List.length_nil] at hl ⊢; omega)
      refine laws_heldIntS.eq2 _ _ _ ?_
      simp only [mrL_cons, mrE_int, mrE_bool, mrE_sl, mrE_pair]
      simp only [laws_heldIntS.t2, lenI_mid, ix_nn, ix_nat, len_mid, set_mid, getD_mid, cond_true, cond_false, bne_ref, beq_ref, bang_t, wrap_k (k := k) (by omega) (by omega), wrap_succ (show pre.length < 9223372036854775807 by omega), Option.bind_some, dec_rfl, Bool.and_true]
      rw [push_mid]
      simpa [mrE_int, mrE_bool, mrE_sl, mrE_pair] using g
  exact laws_heldIntS.eq _ v1 (by simp only [laws_heldIntS.t]; exact key v0 [] v1 h0 h1 (by simpa using h2))
theorem laws_heldGroupS_ok (v0 : List (List Int × Int × Int)) (v1 : Int) (h0 : 0 ≤ v1) (h1 : v1 + (cntT (.sl (.pair (.sl (.int .i64)) (.pair (.int .i64) (.int .i64)))) v0 : Int) ≤ 4611686018427387904) (h2 : szT (.sl (.pair (.sl (.int .i64)) (.pair (.int .i64) (.int .i64)))) v0 ≤ 1073741824) : laws_heldGroupS (mrL (mrE (.pair (.sl (.int .i64)) (.pair (.int .i64) (.int .i64)))) v0 v1).1 v1 = some (mrL (mrE (.pair (.sl (.int .i64)) (.pair (.int .i64) (.int .i64)))) v0 v1).2 := by
  have key : ∀ (rest pre : List (List Int × Int × Int)) (k : Int), 0 ≤ k → k + (cntT (.sl (.pair (.sl (.int .i64)) (.pair (.int .i64) (.int .i64)))) rest : Int) ≤ 4611686018427387904 → pre.length + szT (.sl (.pair (.sl (.int .i64)) (.pair (.int .i64) (.int .i64)))) rest ≤ 1073741824 →
      laws_heldGroupS.l2 (pre ++ (mrL (mrE (.pair (.sl (.int .i64)) (.pair (.int .i64) (.int .i64)))) rest k).1) k (pre.length : Int) = some (mrL (mrE (.pair (.sl (.int .i64)) (.pair (.int .i64) (.int .i64)))) rest k).2 := by
    intro rest
    induction rest with
    | nil =>
      intro pre k _ _ _
      exact laws_heldGroupS.eq2 _ _ _ (by simp only [laws_heldGroupS.t2, List.append_nil, ix_lt, Nat.lt_irrefl, decide_false, cond_false, mrL_nil])
    | cons x r ih =>
      intro pre k hk hb hl
      rw [cnt_cons] at hb
      simp only [cntT] at hb
      simp only [szT, List.length_cons, List.map_cons, List.sum_cons] at hl
      have n1 := mrL_cnt (t := (.int .i64)) x.1 k
      simp only [cntT] at n1
      have c1 := laws_heldIntS_ok x.1 k (by omega) (by simp only [cntT]; omega) (by simp only [szT]; omega)
      have g1 : ¬ (mrL (mrE (.int .i64)) x.1 k).2 < 0 := by omega
      have g := ih (pre ++ [(mrE (.pair (.sl (.int .i64)) (.pair (.int .i64) (.int .i64))) x k).1]) (mrE (.pair (.sl (.int .i64)) (.pair (.int .i64) (.int .i64))) x k).2 (by rw [mrE_cnt]; omega) (by rw [mrE_cnt]; simp only [cntT] at hb ⊢; omega) (by simp only [szT, List.length_append, List.length_cons, List.length_nil] at hl ⊢; omega)
      refine laws_heldGroupS.eq2 _ _ _ ?_
      simp only [mrL_cons, mrE_int, mrE_bool, mrE_sl, mrE_pair]
      simp only [laws_heldGroupS.t2, lenI_mid, ix_nn, ix_nat, len_mid, set_mid, getD_mid, cond_true, cond_false, bne_ref, beq_ref, bang_t, wrap_k (k := (mrL (mrE (.int .i64)) x.1 k).2) (by omega) (by omega), wrap_k (k := ((mrL (mrE (.int .i64)) x.1 k).2 + 1)) (by omega) (by omega), c1, dec_f g1, wrap_succ (show pre.length < 9223372036854775807 by omega), Option.bind_some, dec_rfl, Bool.and_true]
      rw [push_mid]
      simpa [mrE_int, mrE_bool, mrE_sl, mrE_pair] using g
  exact laws_heldGroupS.eq _ v1 (by simp only [laws_heldGroupS.t]; exact key v0 [] v1 h0 h1 (by simpa using h2))
theorem xs02_ok (v0 : List Int) (v1 : Int) (p : Int → Bool) (hl : v0.length ≤ 4611686018427387904) (hp : ∀ x, x ∈ v0 → xi0d (x) (v1) = some (p x)) : ∃ r : Int, xs02 v0 v1 = some r ∧ decide (r ≥ 0) = v0.any p := by
  have key : ∀ i, i ≤ v0.length → ∃ r : Int, xs02.l2 (v0) (v1) ((↑v0.length : Int)) (i : Int) = some r ∧ decide (r ≥ 0) = (v0.drop i).any p := by
    refine upto ?_ ?_
    · exact ⟨-1, xs02.eq2 (v0) (v1) ((↑v0.length : Int)) (v0.length : Int) (by simp only [xs02.t2, ix_lt, Nat.lt_irrefl, decide_false, cond_false]), by simp⟩
    · intro i hi ih
      have hc := hp _ (getD_mem (0 : Int) hi)
      rw [drop_getD (0 : Int) hi, List.any_cons]
      cases hx : p (v0.getD i (0 : Int)) with
      | true => exact ⟨i, xs02.eq2 (v0) (v1) ((↑v0.length : Int)) (i : Int) (by simp only [xs02.t2, ix_lt, ix_nn, ix_nat, dec_t hi, cond_true, hc, hx, Option.bind_some]), by simp⟩
      | false =>
        obtain ⟨r, g0, g1⟩ := ih
        exact ⟨r, xs02.eq2 (v0) (v1) ((↑v0.length : Int)) (i : Int) (by simp only [xs02.t2, ix_lt, ix_nn, ix_nat, dec_t hi, cond_true, cond_false, hc, hx, Option.bind_some, wrap_succ (show i < 9223372036854775807 by omega), g0]), by rw [g1, Bool.false_or]⟩
  obtain ⟨r, g0, g1⟩ := key 0 (Nat.zero_le _)
  exact ⟨r, xs02.eq v0 v1 (by simp only [xs02.t]; exact g0), by simpa using g1⟩
theorem xs00_ok (v0 : List Int) (v1 : Int) (p : Int → Bool) (hl : v0.length ≤ 4611686018427387904) (hp : ∀ x, x ∈ v0 → xi0d (x) (v1) = some (p x)) : xs00 v0 v1 = some (v0.any p) := by
  obtain ⟨r, g0, g1⟩ := xs02_ok (v0) (v1) p hl hp
  exact xs00.eq v0 v1 (by simp only [xs00.t, g0, Option.bind_some, g1])
theorem xi0f_ok (v0 : List Int) (v1 : Int) (p : Int → Bool) (hl : v0.length ≤ 4611686018427387904) (hp : ∀ x, x ∈ v0 → impl_areColumns_1 ((x)) ((v1)) = some (p x)) : xi0f v0 v1 = some (v0.all p) := by
  have g := xs00_ok (v0) (v1) (fun x => !p x) hl (fun x hx => xi0d.eq (x) (v1) (by simp only [xi0d.t, hp x hx, Option.bind_some]))
  exact xi0f.eq v0 v1 (by simp only [xi0f.t, g, Option.bind_some, List.all_eq_not_any_not])
theorem laws_szWeighted_ok (v0 : List Int) (v1 : Int) (v2 : Int) (hw : WfT (.pair (.sl (.int .i64)) (.int .i64)) (v0, v1)) (h1 : 0 ≤ v2) (h2 : v2 ≤ 1048576) : ∃ r, laws_szWeighted v0 v1 v2 = some r ∧ r ≤ v2 ∧ (0 ≤ r → (szT (.pair (.sl (.int .i64)) (.int .i64)) (v0, v1) : Int) + r = v2) := by
  obtain ⟨r1, e1, a1, b1⟩ := laws_szRow_ok v0 v2 hw.1 h1 h2
  by_cases n1 : r1 < 0
  · exact ⟨-1, laws_szWeighted.eq v0 v1 v2 (by simp only [laws_szWeighted.t, dec_t n1, e1, cond_true, cond_false, Option.bind_some]), by omega, fun h => by omega⟩
  refine ⟨r1, laws_szWeighted.eq v0 v1 v2 (by simp only [laws_szWeighted.t, e1, dec_f n1, cond_true, cond_false, Option.bind_some]), by omega, fun h => ?_⟩
  have k1 := b1 (by omega)
  simp only [szT] at k1 ⊢
  omega
theorem laws_szWeightedS_ok (v0 : List (List Int × Int)) (v1 : Int) (hw : WfT (.sl (.pair (.sl (.int .i64)) (.int .i64))) v0) (h1 : 0 ≤ v1) (h2 : v1 ≤ 1048576) : ∃ r, laws_szWeightedS v0 v1 = some r ∧ r ≤ v1 ∧ (0 ≤ r → (szT (.sl (.pair (.sl (.int .i64)) (.int .i64))) v0 : Int) + r = v1) := by
  have hl := hw.1
  have e0 : IntKind.i64.wrap (v1 - (v0.length : Int)) = v1 - (v0.length : Int) := wrap_id (by omega) (by omega)
  by_cases hn : v1 - (v0.length : Int) < 0
  · exact ⟨-1, laws_szWeightedS.eq v0 v1 (by simp only [laws_szWeightedS.t, e0, dec_t hn, cond_true]), by omega, fun h => by omega⟩
  · have key : ∀ i, i ≤ v0.length → ∀ m : Int, 0 ≤ m → m ≤ 1048576 → ∃ r, laws_szWeightedS.l5 v0 m (i : Int) = some r ∧ r ≤ m ∧ (0 ≤ r → ((((v0.drop i).map (szT (.pair (.sl (.int .i64)) (.int .i64)))).sum : Nat) : Int) + r = m) := by
      refine upto ?_ ?_
      · intro m h1 h2
        exact ⟨m, laws_szWeightedS.eq5 v0 m (v0.length : Int) (by simp only [laws_szWeightedS.t5, ix_lt, Nat.lt_irrefl, decide_false, cond_false]), Int.le_refl _, fun _ => by simp⟩
      · intro i hi ih m h1 h2
        obtain ⟨r, hr, hr1, hr2⟩ := laws_szWeighted_ok ((v0.getD i ([], (0 : Int))).fst) ((v0.getD i ([], (0 : Int))).snd) m (hw.2 _ (getD_mem ([], (0 : Int)) hi)) h1 h2
        by_cases hneg : r < 0
        · exact ⟨-1, laws_szWeightedS.eq5 v0 m (i : Int) (by simp only [laws_szWeightedS.t5, ix_lt, ix_nn, ix_nat, dec_t hi, cond_true, hr, Option.bind_some, dec_t hneg]), by omega, fun h => by omega⟩
        · obtain ⟨r2, g0, g1, g2⟩ := ih r (by omega) (by omega)
          refine ⟨r2, laws_szWeightedS.eq5 v0 m (i : Int) (by simp only [laws_szWeightedS.t5, ix_lt, ix_nn, ix_nat, dec_t hi, cond_true, hr, Option.bind_some, dec_f hneg, cond_false, wrap_succ (show i < 9223372036854775807 by omega), g0]), by omega, fun h => ?_⟩
          have k1 := hr2 (by omega)
          have k2 := g2 h
          rw [drop_getD ([], (0 : Int)) hi]
          simp only [List.map_cons, List.sum_cons]
          simp only [szT] at k1 k2 ⊢
          omega
    obtain ⟨r, g0, g1, g2⟩ := key 0 (Nat.zero_le _) (v1 - (v0.length : Int)) (by omega) (by omega)
    refine ⟨r, laws_szWeightedS.eq v0 v1 (by simp only [laws_szWeightedS.t, e0, dec_f hn, cond_false]; exact g0), by omega, fun h => ?_⟩
    have := g2 h
    simp only [List.drop_zero] at this
    simp only [szT] at this ⊢
    omega
theorem laws_szTable_ok (v0 : Int) (v1 : List (List Int × Int)) (v2 : Int) (hw : WfT (.pair (.int .i64) (.sl (.pair (.sl (.int .i64)) (.int .i64)))) (v0, v1)) (h1 : 0 ≤ v2) (h2 : v2 ≤ 1048576) : ∃ r, laws_szTable v0 v1 v2 = some r ∧ r ≤ v2 ∧ (0 ≤ r → (szT (.pair (.int .i64) (.sl (.pair (.sl (.int .i64)) (.int .i64)))) (v0, v1) : Int) + r = v2) := by
  obtain ⟨r1, e1, a1, b1⟩ := laws_szWeightedS_ok v1 v2 hw.2 h1 h2
  by_cases n1 : r1 < 0
  · exact ⟨-1, laws_szTable.eq v0 v1 v2 (by simp only [laws_szTable.t, dec_t n1, e1, cond_true, cond_false, Option.bind_some]), by omega, fun h => by omega⟩
  refine ⟨r1, laws_szTable.eq v0 v1 v2 (by simp only [laws_szTable.t, e1, dec_f n1, cond_true, cond_false, Option.bind_some]), by omega, fun h => ?_⟩
  have k1 := b1 (by omega)
  simp only [szT] at k1 ⊢
  omega
theorem laws_toWeighted_id (v0 : List Int) (v1 : Int) (h : szT (.pair (.sl (.int .i64)) (.int .i64)) (v0, v1) ≤ 1073741824) : laws_toWeighted v0 v1 = some (v0, v1) := by
  have e1 := laws_toRow_id v0 (by simp only [szT] at h ⊢; omega)
  exact laws_toWeighted.eq v0 v1 (by simp only [laws_toWeighted.t, e1, Option.bind_some])
theorem laws_toWeightedS_id (v0 : List (List Int × Int)) (h : szT (.sl (.pair (.sl (.int .i64)) (.int .i64))) v0 ≤ 1073741824) : laws_toWeightedS v0 = some v0 := by
  have hlen : v0.length ≤ 1073741824 := Nat.le_trans (szT_len (t := (.pair (.sl (.int .i64)) (.int .i64)))) h
  have key : ∀ i, i ≤ v0.length → ∀ a : List (List Int × Int), a.length = v0.length → a.take i = v0.take i → laws_toWeightedS.l3 v0 a (i : Int) = some v0 := by
    refine upto ?_ ?_
    · intro a ha hh
      have ea := take_all_eq ha hh
      subst ea
      exact laws_toWeightedS.eq3 a a (a.length : Int) (by simp only [laws_toWeightedS.t3, ix_lt, Nat.lt_irrefl, decide_false, cond_false])
    · intro i hi ih a ha hh
      have hc := laws_toWeighted_id ((v0.getD i ([], (0 : Int))).fst) ((v0.getD i ([], (0 : Int))).snd) (Nat.le_trans (szT_mem (t := (.pair (.sl (.int .i64)) (.int .i64))) (getD_mem ([], (0 : Int)) hi)) h)
      have g := ih (a.set i (v0.getD i ([], (0 : Int)))) (by simp [ha]) (set_step hi ha hh)
      have hia : i < a.length := by omega
      refine laws_toWeightedS.eq3 v0 a (i : Int) ?_
      simp only [laws_toWeightedS.t3, ix_lt, ix_nn, ix_nat, dec_t hi, dec_t hia, cond_true, hc, Option.bind_some, wrap_succ (show i < 9223372036854775807 by omega)]
      exact g
  refine laws_toWeightedS.eq v0 ?_
  have h3 : ((v0.length : Int) ≤ ((4294967296 : Nat) : Int)) := by omega
  simp only [laws_toWeightedS.t, decide_true, dec_t h3, cond_true, ix_nat]
  exact key 0 (Nat.zero_le _) _ (by simp) (by simp)
theorem laws_toTable_id (v0 : Int) (v1 : List (List Int × Int)) (h : szT (.pair (.int .i64) (.sl (.pair (.sl (.int .i64)) (.int .i64)))) (v0, v1) ≤ 1073741824) : laws_toTable v0 v1 = some (v0, v1) := by
  have e1 := laws_toWeightedS_id v1 (by simp only [szT] at h ⊢; omega)
  exact laws_toTable.eq v0 v1 (by simp only [laws_toTable.t, e1, Option.bind_some])
theorem laws_eqWeighted_rf (v0 : List Int) (v1 : Int) (h : szT (.pair (.sl (.int .i64)) (.int .i64)) (v0, v1) ≤ 1073741824) : laws_eqWeighted v0 v1 v0 v1 = some true := by
  have e1 := laws_eqRow_rf v0 (by simp only [szT] at h ⊢; omega)
  exact laws_eqWeighted.eq v0 v1 v0 v1 (by simp only [laws_eqWeighted.t, e1, Option.bind_some, bne_ref, beq_ref, bang_t, cond_false])
theorem laws_eqWeightedS_rf (v0 : List (List Int × Int)) (h : szT (.sl (.pair (.sl (.int .i64)) (.int .i64))) v0 ≤ 1073741824) : laws_eqWeightedS v0 v0 = some true := by
  have hlen : v0.length ≤ 1073741824 := Nat.le_trans (szT_len (t := (.pair (.sl (.int .i64)) (.int .i64)))) h
  have key : ∀ i, i ≤ v0.length → laws_eqWeightedS.l4 v0 v0 (i : Int) = some true := by
    refine upto ?_ ?_
    · exact laws_eqWeightedS.eq4 v0 v0 (v0.length : Int) (by simp only [laws_eqWeightedS.t4, ix_lt, Nat.lt_irrefl, decide_false, cond_false])
    · intro i hi ih
      have hc := laws_eqWeighted_rf ((v0.getD i ([], (0 : Int))).fst) ((v0.getD i ([], (0 : Int))).snd) (Nat.le_trans (szT_mem (t := (.pair (.sl (.int .i64)) (.int .i64))) (getD_mem ([], (0 : Int)) hi)) h)
      exact laws_eqWeightedS.eq4 v0 v0 (i : Int) (by simp only [laws_eqWeightedS.t4, ix_lt, ix_nn, ix_nat, dec_t hi, cond_true, cond_false, bne_ref, beq_ref, bang_t, hc, Option.bind_some, bang_t, wrap_succ (show i < 9223372036854775807 by omega), ih])
  exact laws_eqWeightedS.eq v0 v0 (by simp only [laws_eqWeightedS.t, bne_ref, cond_false]; exact key 0 (Nat.zero_le _))
theorem laws_eqTable_rf (v0 : Int) (v1 : List (List Int × Int)) (h : szT (.pair (.int .i64) (.sl (.pair (.sl (.int .i64)) (.int .i64)))) (v0, v1) ≤ 1073741824) : laws_eqTable v0 v1 v0 v1 = some true := by
  have e1 := laws_eqWeightedS_rf v1 (by simp only [szT] at h ⊢; omega)
  exact laws_eqTable.eq v0 v1 v0 v1 (by simp only [laws_eqTable.t, e1, Option.bind_some, bne_ref, beq_ref, bang_t, cond_false])
theorem xl0j_ok (v0 : List (List Int × Int)) (v1 : Int) (h0 : 0 ≤ v1) (h1 : v1 + (cntT (.sl (.pair (.sl (.int .i64)) (.int .i64))) v0 : Int) ≤ 4611686018427387904) (h2 : szT (.sl (.pair (.sl (.int .i64)) (.int .i64))) v0 ≤ 1073741824) : xl0j v0 v1 = some ((mrL (mrE (.pair (.sl (.int .i64)) (.int .i64))) v0 v1).2, (mrL (mrE (.pair (.sl (.int .i64)) (.int .i64))) v0 v1).1) := by
  have key : ∀ (rest pre : List (List Int × Int)) (k : Int), 0 ≤ k → k + (cntT (.sl (.pair (.sl (.int .i64)) (.int .i64))) rest : Int) ≤ 4611686018427387904 → pre.length + szT (.sl (.pair (.sl (.int .i64)) (.int .i64))) rest ≤ 1073741824 →
      xl0j.l2 (pre ++ rest) k (pre.length : Int) = some ((mrL (mrE (.pair (.sl (.int .i64)) (.int .i64))) rest k).2, pre ++ (mrL (mrE (.pair (.sl (.int .i64)) (.int .i64))) rest k).1) := by
    intro rest
    induction rest with
    | nil =>
      intro pre k _ _ _
      exact xl0j.eq2 _ _ _ (by simp only [xl0j.t2, List.append_nil, ix_lt, Nat.lt_irrefl, decide_false, cond_false, mrL_nil])
    | cons x r ih =>
      intro pre k hk hb hl
      rw [cnt_cons] at hb
      simp only [cntT] at hb
      simp only [szT, List.length_cons, List.map_cons, List.sum_cons] at hl
      have n1 := mrL_cnt (t := (.int .i64)) x.1 k
      simp only [cntT] at n1
      have c1 := laws_markIntS_83f_ok x.1 k (by omega) (by simp only [cntT]; omega) (by simp only [szT]; omega)
      have g := ih (pre ++ [(mrE (.pair (.sl (.int .i64)) (.int .i64)) x k).1]) (mrE (.pair (.sl (.int .i64)) (.int .i64)) x k).2 (by rw [mrE_cnt]; omega) (by rw [mrE_cnt]; simp only [cntT] at hb ⊢; omega) (by simp only [szT, List.length_append, List.length_cons, List.length_nil] at hl ⊢; omega)
      refine xl0j.eq2 _ _ _ ?_
      simp only [mrL_cons, mrE_int, mrE_bool, mrE_sl, mrE_pair]
      simp only [xl0j.t2, lenI_mid, ix_nn, ix_nat, len_mid, set_mid, getD_mid, cond_true, cond_false, bne_ref, beq_ref, bang_t, wrap_k (k := (mrL (mrE (.int .i64)) x.1 k).2) (by omega) (by omega), c1, wrap_succ (show pre.length < 9223372036854775807 by omega), Option.bind_some, dec_rfl, Bool.and_true]
      rw [push_mid]
      simpa [mrE_int, mrE_bool, mrE_sl, mrE_pair] using g
  exact xl0j.eq v0 v1 (by simp only [xl0j.t]; exact key v0 [] v1 h0 h1 (by simpa using h2))
theorem laws_markTable_d7a_ok (v0 : Int) (v1 : List (List Int × Int)) (v2 : Int) (h0 : 0 ≤ v2) (h1 : v2 + (cntT (.pair (.int .i64) (.sl (.pair (.sl (.int .i64)) (.int .i64)))) (v0, v1) : Int) ≤ 4611686018427387904) (h2 : szT (.pair (.int .i64) (.sl (.pair (.sl (.int .i64)) (.int .i64)))) (v0, v1) ≤ 1073741824) : laws_markTable_d7a v0 v1 v2 = some ((mrT (.pair (.int .i64) (.sl (.pair (.sl (.int .i64)) (.int .i64)))) (v0, v1) v2).2, (mrT (.pair (.int .i64) (.sl (.pair (.sl (.int .i64)) (.int .i64)))) (v0, v1) v2).1.1, (mrT (.pair (.int .i64) (.sl (.pair (.sl (.int .i64)) (.int .i64)))) (v0, v1) v2).1.2) := by
  simp only [cntT] at h1
  simp only [szT] at h2
  have n1 := mrL_cnt (t := (.pair (.sl (.int .i64)) (.int .i64))) v1 v2
  have n1b := n1
  simp only [cntT] at n1b
  have c1 := xl0j_ok v1 v2 (by omega) (by simp only [cntT]; omega) (by simp only [szT]; omega)
  try simp only [mrT] at c1
  refine laws_markTable_d7a.eq _ _ _ ?_
  simp only [laws_markTable_d7a.t, mrT, c1, Option.bind_some, cond_false]
end GoV

/- Small words of the program and of its specification. -/
namespace GoV
open Go
theorem impl_within_eq (x lo hi : Int) : impl_within x lo hi = some (inB lo hi x) := by
  refine impl_within.eq x lo hi ?_
  simp only [impl_within.t, inB]
  by_cases h : lo ≤ x <;> simp [h]
theorem spec_l1In_eq (x lo hi : Int) : spec_l1In x lo hi = some (inB lo hi x) := by
  refine spec_l1In.eq x lo hi ?_
  simp only [spec_l1In.t, inB]
  by_cases h : lo ≤ x <;> simp [h]
end GoV
