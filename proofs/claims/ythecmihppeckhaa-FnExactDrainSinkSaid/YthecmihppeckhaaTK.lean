/- A part of the proof of FnExactDrainSink: an interpreter of the model over plain data, its soundness, and what it makes of the functions that the statement reaches. Conditions: none beyond what the given statement itself says. -/
import Derived.Test.YthecmihppeckhaaTJ
set_option linter.unusedVariables false
set_option linter.unusedSimpArgs false
set_option linter.unnecessarySimpa false
set_option linter.unusedSectionVars false
/- What the statements' own helpers answer (printed by wip/tools/lawgen.py). -/
namespace GoV
open Go
theorem laws_szIntS_ok (v0 : List Int) (v1 : Int) (hw : WfT (.sl (.int .i64)) v0) (h1 : 0 ≤ v1) (h2 : v1 ≤ 1048576) : ∃ r, laws_szIntS v0 v1 = some r ∧ r ≤ v1 ∧ (0 ≤ r → (szT (.sl (.int .i64)) v0 : Int) + r = v1) := by
  have hl := hw.1
  have e0 : IntKind.i64.wrap (v1 - (v0.length : Int)) = v1 - (v0.length : Int) := wrap_id (by omega) (by omega)
  by_cases hn : v1 - (v0.length : Int) < 0
  · exact ⟨-1, laws_szIntS.eq v0 v1 (by simp only [laws_szIntS.t, e0, dec_t hn, cond_true]), by omega, fun h => by omega⟩
  · exact ⟨v1 - (v0.length : Int), laws_szIntS.eq v0 v1 (by simp only [laws_szIntS.t, e0, dec_f hn, cond_false]), by omega, fun _ => by rw [szT_sl_flat (t := (.int .i64)) v0 rfl]; omega⟩
theorem laws_szPrepared_ok (v0 : Int) (v1 : Int) (v2 : List Int) (v3 : Int) (hw : WfT (.pair (.int .i64) (.pair (.int .i64) (.sl (.int .i64)))) (v0, (v1, v2))) (h1 : 0 ≤ v3) (h2 : v3 ≤ 1048576) : ∃ r, laws_szPrepared v0 v1 v2 v3 = some r ∧ r ≤ v3 ∧ (0 ≤ r → (szT (.pair (.int .i64) (.pair (.int .i64) (.sl (.int .i64)))) (v0, (v1, v2)) : Int) + r = v3) := by
  obtain ⟨r1, e1, a1, b1⟩ := laws_szIntS_ok v2 v3 hw.2.2 h1 h2
  by_cases n1 : r1 < 0
  · exact ⟨-1, laws_szPrepared.eq v0 v1 v2 v3 (by simp only [laws_szPrepared.t, dec_t n1, e1, cond_true, cond_false, Option.bind_some]), by omega, fun h => by omega⟩
  refine ⟨r1, laws_szPrepared.eq v0 v1 v2 v3 (by simp only [laws_szPrepared.t, e1, dec_f n1, cond_true, cond_false, Option.bind_some]), by omega, fun h => ?_⟩
  have k1 := b1 (by omega)
  simp only [szT] at k1 ⊢
  omega
theorem laws_szPreparedS_ok (v0 : List (Int × Int × List Int)) (v1 : Int) (hw : WfT (.sl (.pair (.int .i64) (.pair (.int .i64) (.sl (.int .i64))))) v0) (h1 : 0 ≤ v1) (h2 : v1 ≤ 1048576) : ∃ r, laws_szPreparedS v0 v1 = some r ∧ r ≤ v1 ∧ (0 ≤ r → (szT (.sl (.pair (.int .i64) (.pair (.int .i64) (.sl (.int .i64))))) v0 : Int) + r = v1) := by
  have hl := hw.1
  have e0 : IntKind.i64.wrap (v1 - (v0.length : Int)) = v1 - (v0.length : Int) := wrap_id (by omega) (by omega)
  by_cases hn : v1 - (v0.length : Int) < 0
  · exact ⟨-1, laws_szPreparedS.eq v0 v1 (by simp only [laws_szPreparedS.t, e0, dec_t hn, cond_true]), by omega, fun h => by omega⟩
  · have key : ∀ i, i ≤ v0.length → ∀ m : Int, 0 ≤ m → m ≤ 1048576 → ∃ r, laws_szPreparedS.l5 v0 m (i : Int) = some r ∧ r ≤ m ∧ (0 ≤ r → ((((v0.drop i).map (szT (.pair (.int .i64) (.pair (.int .i64) (.sl (.int .i64)))))).sum : Nat) : Int) + r = m) := by
      refine upto ?_ ?_
      · intro m h1 h2
        exact ⟨m, laws_szPreparedS.eq5 v0 m (v0.length : Int) (by simp only [laws_szPreparedS.t5, ix_lt, Nat.lt_irrefl, decide_false, cond_false]), Int.le_refl _, fun _ => by simp⟩
      · intro i hi ih m h1 h2
        obtain ⟨r, hr, hr1, hr2⟩ := laws_szPrepared_ok ((v0.getD i ((0 : Int), (0 : Int), [])).fst) ((v0.getD i ((0 : Int), (0 : Int), [])).snd.fst) ((v0.getD i ((0 : Int), (0 : Int), [])).snd.snd) m (hw.2 _ (getD_mem ((0 : Int), (0 : Int), []) hi)) h1 h2
        by_cases hneg : r < 0
        · exact ⟨-1, laws_szPreparedS.eq5 v0 m (i : Int) (by simp only [laws_szPreparedS.t5, ix_lt, ix_nn, ix_nat, dec_t hi, cond_true, hr, Option.bind_some, dec_t hneg]), by omega, fun h => by omega⟩
        · obtain ⟨r2, g0, g1, g2⟩ := ih r (by omega) (by omega)
          refine ⟨r2, laws_szPreparedS.eq5 v0 m (i : Int) (by simp only [laws_szPreparedS.t5, ix_lt, ix_nn, ix_nat, dec_t hi, cond_true, hr, Option.bind_some, dec_f hneg, cond_false, wrap_succ (show i < 9223372036854775807 by omega), g0]), by omega, fun h => ?_⟩
          have k1 := hr2 (by omega)
          have k2 := g2 h
          rw [drop_getD ((0 : Int), (0 : Int), []) hi]
          simp only [List.map_cons, List.sum_cons]
          simp only [szT] at k1 k2 ⊢
          omega
    obtain ⟨r, g0, g1, g2⟩ := key 0 (Nat.zero_le _) (v1 - (v0.length : Int)) (by omega) (by omega)
    refine ⟨r, laws_szPreparedS.eq v0 v1 (by simp only [laws_szPreparedS.t, e0, dec_f hn, cond_false]; exact g0), by omega, fun h => ?_⟩
    have := g2 h
    simp only [List.drop_zero] at this
    simp only [szT] at this ⊢
    omega
theorem laws_szSink_ok (v0 : List Int) (v1 : Int) (v2 : List Int) (v3 : List (Int × Int × List Int)) (v4 : List Int) (v5 : Int) (v6 : Int) (v7 : Int) (hw : WfT (.pair (.sl (.int .i64)) (.pair (.int .i64) (.pair (.sl (.int .i64)) (.pair (.sl (.pair (.int .i64) (.pair (.int .i64) (.sl (.int .i64))))) (.pair (.sl (.int .i64)) (.pair (.int .i64) (.int .i64))))))) (v0, (v1, (v2, (v3, (v4, (v5, v6))))))) (h1 : 0 ≤ v7) (h2 : v7 ≤ 1048576) : ∃ r, laws_szSink v0 v1 v2 v3 v4 v5 v6 v7 = some r ∧ r ≤ v7 ∧ (0 ≤ r → (szT (.pair (.sl (.int .i64)) (.pair (.int .i64) (.pair (.sl (.int .i64)) (.pair (.sl (.pair (.int .i64) (.pair (.int .i64) (.sl (.int .i64))))) (.pair (.sl (.int .i64)) (.pair (.int .i64) (.int .i64))))))) (v0, (v1, (v2, (v3, (v4, (v5, v6)))))) : Int) + r = v7) := by
  obtain ⟨r1, e1, a1, b1⟩ := laws_szIntS_ok v0 v7 hw.1 h1 h2
  by_cases n1 : r1 < 0
  · exact ⟨-1, laws_szSink.eq v0 v1 v2 v3 v4 v5 v6 v7 (by simp only [laws_szSink.t, dec_t n1, e1, cond_true, cond_false, Option.bind_some]), by omega, fun h => by omega⟩
  obtain ⟨r2, e2, a2, b2⟩ := laws_szIntS_ok v2 r1 hw.2.2.1 (by omega) (by omega)
  by_cases n2 : r2 < 0
  · exact ⟨-1, laws_szSink.eq v0 v1 v2 v3 v4 v5 v6 v7 (by simp only [laws_szSink.t, e1, dec_f n1, dec_t n2, e2, cond_true, cond_false, Option.bind_some]), by omega, fun h => by omega⟩
  obtain ⟨r3, e3, a3, b3⟩ := laws_szPreparedS_ok v3 r2 hw.2.2.2.1 (by omega) (by omega)
  by_cases n3 : r3 < 0
  · exact ⟨-1, laws_szSink.eq v0 v1 v2 v3 v4 v5 v6 v7 (by simp only [laws_szSink.t, e1, dec_f n1, e2, dec_f n2, dec_t n3, e3, cond_true, cond_false, Option.bind_some]), by omega, fun h => by omega⟩
  obtain ⟨r4, e4, a4, b4⟩ := laws_szIntS_ok v4 r3 hw.2.2.2.2.1 (by omega) (by omega)
  by_cases n4 : r4 < 0
  · exact ⟨-1, laws_szSink.eq v0 v1 v2 v3 v4 v5 v6 v7 (by simp only [laws_szSink.t, e1, dec_f n1, e2, dec_f n2, e3, dec_f n3, dec_t n4, e4, cond_true, cond_false, Option.bind_some]), by omega, fun h => by omega⟩
  refine ⟨r4, laws_szSink.eq v0 v1 v2 v3 v4 v5 v6 v7 (by simp only [laws_szSink.t, e1, dec_f n1, e2, dec_f n2, e3, dec_f n3, e4, dec_f n4, cond_true, cond_false, Option.bind_some]), by omega, fun h => ?_⟩
  have k1 := b1 (by omega)
  have k2 := b2 (by omega)
  have k3 := b3 (by omega)
  have k4 := b4 (by omega)
  simp only [szT] at k1 k2 k3 k4 ⊢
  omega
theorem laws_toIntS_id (v0 : List Int) (h : szT (.sl (.int .i64)) v0 ≤ 1073741824) : laws_toIntS v0 = some v0 := by
  have hlen : v0.length ≤ 1073741824 := Nat.le_trans (szT_len (t := (.int .i64))) h
  have key : ∀ i, i ≤ v0.length → ∀ a : List Int, a.length = v0.length → a.take i = v0.take i → laws_toIntS.l3 v0 a (i : Int) = some v0 := by
    refine upto ?_ ?_
    · intro a ha hh
      have ea := take_all_eq ha hh
      subst ea
      exact laws_toIntS.eq3 a a (a.length : Int) (by simp only [laws_toIntS.t3, ix_lt, Nat.lt_irrefl, decide_false, cond_false])
    · intro i hi ih a ha hh
      have g := ih (a.set i (v0.getD i (0 : Int))) (by simp [ha]) (set_step hi ha hh)
      have hia : i < a.length := by omega
      refine laws_toIntS.eq3 v0 a (i : Int) ?_
      simp only [laws_toIntS.t3, ix_lt, ix_nn, ix_nat, dec_t hi, dec_t hia, cond_true, wrap_succ (show i < 9223372036854775807 by omega)]
      exact g
  refine laws_toIntS.eq v0 ?_
  have h3 : ((v0.length : Int) ≤ ((4294967296 : Nat) : Int)) := by omega
  simp only [laws_toIntS.t, decide_true, dec_t h3, cond_true, ix_nat]
  exact key 0 (Nat.zero_le _) _ (by simp) (by simp)
theorem laws_toPrepared_id (v0 : Int) (v1 : Int) (v2 : List Int) (h : szT (.pair (.int .i64) (.pair (.int .i64) (.sl (.int .i64)))) (v0, (v1, v2)) ≤ 1073741824) : laws_toPrepared v0 v1 v2 = some (v0, v1, v2) := by
  have e1 := laws_toIntS_id v2 (by simp only [szT] at h ⊢; omega)
  exact laws_toPrepared.eq v0 v1 v2 (by simp only [laws_toPrepared.t, e1, Option.bind_some])
theorem laws_toPreparedS_id (v0 : List (Int × Int × List Int)) (h : szT (.sl (.pair (.int .i64) (.pair (.int .i64) (.sl (.int .i64))))) v0 ≤ 1073741824) : laws_toPreparedS v0 = some v0 := by
  have hlen : v0.length ≤ 1073741824 := Nat.le_trans (szT_len (t := (.pair (.int .i64) (.pair (.int .i64) (.sl (.int .i64)))))) h
  have key : ∀ i, i ≤ v0.length → ∀ a : List (Int × Int × List Int), a.length = v0.length → a.take i = v0.take i → laws_toPreparedS.l3 v0 a (i : Int) = some v0 := by
    refine upto ?_ ?_
    · intro a ha hh
      have ea := take_all_eq ha hh
      subst ea
      exact laws_toPreparedS.eq3 a a (a.length : Int) (by simp only [laws_toPreparedS.t3, ix_lt, Nat.lt_irrefl, decide_false, cond_false])
    · intro i hi ih a ha hh
      have hc := laws_toPrepared_id ((v0.getD i ((0 : Int), (0 : Int), [])).fst) ((v0.getD i ((0 : Int), (0 : Int), [])).snd.fst) ((v0.getD i ((0 : Int), (0 : Int), [])).snd.snd) (Nat.le_trans (szT_mem (t := (.pair (.int .i64) (.pair (.int .i64) (.sl (.int .i64))))) (getD_mem ((0 : Int), (0 : Int), []) hi)) h)
      have g := ih (a.set i (v0.getD i ((0 : Int), (0 : Int), []))) (by simp [ha]) (set_step hi ha hh)
      have hia : i < a.length := by omega
      refine laws_toPreparedS.eq3 v0 a (i : Int) ?_
      simp only [laws_toPreparedS.t3, ix_lt, ix_nn, ix_nat, dec_t hi, dec_t hia, cond_true, hc, Option.bind_some, wrap_succ (show i < 9223372036854775807 by omega)]
      exact g
  refine laws_toPreparedS.eq v0 ?_
  have h3 : ((v0.length : Int) ≤ ((4294967296 : Nat) : Int)) := by omega
  simp only [laws_toPreparedS.t, decide_true, dec_t h3, cond_true, ix_nat]
  exact key 0 (Nat.zero_le _) _ (by simp) (by simp)
theorem laws_toSink_id (v0 : List Int) (v1 : Int) (v2 : List Int) (v3 : List (Int × Int × List Int)) (v4 : List Int) (v5 : Int) (v6 : Int) (h : szT (.pair (.sl (.int .i64)) (.pair (.int .i64) (.pair (.sl (.int .i64)) (.pair (.sl (.pair (.int .i64) (.pair (.int .i64) (.sl (.int .i64))))) (.pair (.sl (.int .i64)) (.pair (.int .i64) (.int .i64))))))) (v0, (v1, (v2, (v3, (v4, (v5, v6)))))) ≤ 1073741824) : laws_toSink v0 v1 v2 v3 v4 v5 v6 = some (v0, v1, v2, v3, v4, v5, v6) := by
  have e1 := laws_toIntS_id v0 (by simp only [szT] at h ⊢; omega)
  have e2 := laws_toIntS_id v2 (by simp only [szT] at h ⊢; omega)
  have e3 := laws_toPreparedS_id v3 (by simp only [szT] at h ⊢; omega)
  have e4 := laws_toIntS_id v4 (by simp only [szT] at h ⊢; omega)
  exact laws_toSink.eq v0 v1 v2 v3 v4 v5 v6 (by simp only [laws_toSink.t, e1, e2, e3, e4, Option.bind_some])
theorem laws_eqIntS_rf (v0 : List Int) (h : szT (.sl (.int .i64)) v0 ≤ 1073741824) : laws_eqIntS v0 v0 = some true := by
  have hlen : v0.length ≤ 1073741824 := Nat.le_trans (szT_len (t := (.int .i64))) h
  have key : ∀ i, i ≤ v0.length → laws_eqIntS.l4 v0 v0 (i : Int) = some true := by
    refine upto ?_ ?_
    · exact laws_eqIntS.eq4 v0 v0 (v0.length : Int) (by simp only [laws_eqIntS.t4, ix_lt, Nat.lt_irrefl, decide_false, cond_false])
    · intro i hi ih
      exact laws_eqIntS.eq4 v0 v0 (i : Int) (by simp only [laws_eqIntS.t4, ix_lt, ix_nn, ix_nat, dec_t hi, cond_true, cond_false, bne_ref, beq_ref, bang_t, wrap_succ (show i < 9223372036854775807 by omega), ih])
  exact laws_eqIntS.eq v0 v0 (by simp only [laws_eqIntS.t, bne_ref, cond_false]; exact key 0 (Nat.zero_le _))
theorem laws_eqPrepared_rf (v0 : Int) (v1 : Int) (v2 : List Int) (h : szT (.pair (.int .i64) (.pair (.int .i64) (.sl (.int .i64)))) (v0, (v1, v2)) ≤ 1073741824) : laws_eqPrepared v0 v1 v2 v0 v1 v2 = some true := by
  have e1 := laws_eqIntS_rf v2 (by simp only [szT] at h ⊢; omega)
  exact laws_eqPrepared.eq v0 v1 v2 v0 v1 v2 (by simp only [laws_eqPrepared.t, e1, Option.bind_some, bne_ref, beq_ref, bang_t, cond_false])
theorem laws_eqPreparedS_rf (v0 : List (Int × Int × List Int)) (h : szT (.sl (.pair (.int .i64) (.pair (.int .i64) (.sl (.int .i64))))) v0 ≤ 1073741824) : laws_eqPreparedS v0 v0 = some true := by
  have hlen : v0.length ≤ 1073741824 := Nat.le_trans (szT_len (t := (.pair (.int .i64) (.pair (.int .i64) (.sl (.int .i64)))))) h
  have key : ∀ i, i ≤ v0.length → laws_eqPreparedS.l4 v0 v0 (i : Int) = some true := by
    refine upto ?_ ?_
    · exact laws_eqPreparedS.eq4 v0 v0 (v0.length : Int) (by simp only [laws_eqPreparedS.t4, ix_lt, Nat.lt_irrefl, decide_false, cond_false])
    · intro i hi ih
      have hc := laws_eqPrepared_rf ((v0.getD i ((0 : Int), (0 : Int), [])).fst) ((v0.getD i ((0 : Int), (0 : Int), [])).snd.fst) ((v0.getD i ((0 : Int), (0 : Int), [])).snd.snd) (Nat.le_trans (szT_mem (t := (.pair (.int .i64) (.pair (.int .i64) (.sl (.int .i64))))) (getD_mem ((0 : Int), (0 : Int), []) hi)) h)
      exact laws_eqPreparedS.eq4 v0 v0 (i : Int) (by simp only [laws_eqPreparedS.t4, ix_lt, ix_nn, ix_nat, dec_t hi, cond_true, cond_false, bne_ref, beq_ref, bang_t, hc, Option.bind_some, bang_t, wrap_succ (show i < 9223372036854775807 by omega), ih])
  exact laws_eqPreparedS.eq v0 v0 (by simp only [laws_eqPreparedS.t, bne_ref, cond_false]; exact key 0 (Nat.zero_le _))
theorem laws_eqSink_rf (v0 : List Int) (v1 : Int) (v2 : List Int) (v3 : List (Int × Int × List Int)) (v4 : List Int) (v5 : Int) (v6 : Int) (h : szT (.pair (.sl (.int .i64)) (.pair (.int .i64) (.pair (.sl (.int .i64)) (.pair (.sl (.pair (.int .i64) (.pair (.int .i64) (.sl (.int .i64))))) (.pair (.sl (.int .i64)) (.pair (.int .i64) (.int .i64))))))) (v0, (v1, (v2, (v3, (v4, (v5, v6)))))) ≤ 1073741824) : laws_eqSink v0 v1 v2 v3 v4 v5 v6 v0 v1 v2 v3 v4 v5 v6 = some true := by
  have e1 := laws_eqIntS_rf v0 (by simp only [szT] at h ⊢; omega)
  have e2 := laws_eqIntS_rf v2 (by simp only [szT] at h ⊢; omega)
  have e3 := laws_eqPreparedS_rf v3 (by simp only [szT] at h ⊢; omega)
  have e4 := laws_eqIntS_rf v4 (by simp only [szT] at h ⊢; omega)
  exact laws_eqSink.eq v0 v1 v2 v3 v4 v5 v6 v0 v1 v2 v3 v4 v5 v6 (by simp only [laws_eqSink.t, e1, e2, e3, e4, Option.bind_some, bne_ref, beq_ref, bang_t, cond_false])
theorem laws_markIntS_83f_ok (v0 : List Int) (v1 : Int) (h0 : 0 ≤ v1) (h1 : v1 + (cntT (.sl (.int .i64)) v0 : Int) ≤ 4611686018427387904) (h2 : szT (.sl (.int .i64)) v0 ≤ 1073741824) : laws_markIntS_83f v0 v1 = some ((mrL (mrE (.int .i64)) v0 v1).2, (mrL (mrE (.int .i64)) v0 v1).1) := by
  have key : ∀ (rest pre : List Int) (k : Int), 0 ≤ k → k + (cntT (.sl (.int .i64)) rest : Int) ≤ 4611686018427387904 → pre.length + szT (.sl (.int .i64)) rest ≤ 1073741824 →
      laws_markIntS_83f.l2 (pre ++ rest) k (pre.length : Int) = some ((mrL (mrE (.int .i64)) rest k).2, pre ++ (mrL (mrE (.int .i64)) rest k).1) := by
    intro rest
    induction rest with
    | nil =>
      intro pre k _ _ _
      exact laws_markIntS_83f.eq2 _ _ _ (by simp only [laws_markIntS_83f.t2, List.append_nil, ix_lt, Nat.lt_irrefl, decide_false, cond_false, mrL_nil])
    | cons x r ih =>
      intro pre k hk hb hl
      rw [cnt_cons] at hb
      simp only [cntT] at hb
      simp only [szT, List.length_cons, List.map_cons, List.sum_cons] at hl
      have g := ih (pre ++ [(mrE (.int .i64) x k).1]) (mrE (.int .i64) x k).2 (by rw [mrE_cnt]; omega) (by rw [mrE_cnt]; simp only [cntT] at hb ⊢; omega) (by simp only [szT, List.length_append, List.length_cons, List.length_nil] at hl ⊢; omega)
      refine laws_markIntS_83f.eq2 _ _ _ ?_
      simp only [mrL_cons, mrE_int, mrE_bool, mrE_sl, mrE_pair]
      simp only [laws_markIntS_83f.t2, lenI_mid, ix_nn, ix_nat, len_mid, set_mid, getD_mid, cond_true, cond_false, bne_ref, beq_ref, bang_t, wrap_k (k := k) (by omega) (by omega), wrap_succ (show pre.length < 9223372036854775807 by omega), Option.bind_some, dec_rfl, Bool.and_true]
      rw [push_mid]
      simpa [mrE_int, mrE_bool, mrE_sl, mrE_pair] using g
  exact laws_markIntS_83f.eq v0 v1 (by simp only [laws_markIntS_83f.t]; exact key v0 [] v1 h0 h1 (by simpa using h2))
theorem xl00_ok (v0 : List (Int × Int × List Int)) (v1 : Int) (h0 : 0 ≤ v1) (h1 : v1 + (cntT (.sl (.pair (.int .i64) (.pair (.int .i64) (.sl (.int .i64))))) v0 : Int) ≤ 4611686018427387904) (h2 : szT (.sl (.pair (.int .i64) (.pair (.int .i64) (.sl (.int .i64))))) v0 ≤ 1073741824) : xl00 v0 v1 = some ((mrL (mrE (.pair (.int .i64) (.pair (.int .i64) (.sl (.int .i64))))) v0 v1).2, (mrL (mrE (.pair (.int .i64) (.pair (.int .i64) (.sl (.int .i64))))) v0 v1).1) := by
  have key : ∀ (rest pre : List (Int × Int × List Int)) (k : Int), 0 ≤ k → k + (cntT (.sl (.pair (.int .i64) (.pair (.int .i64) (.sl (.int .i64))))) rest : Int) ≤ 4611686018427387904 → pre.length + szT (.sl (.pair (.int .i64) (.pair (.int .i64) (.sl (.int .i64))))) rest ≤ 1073741824 →
      xl00.l2 (pre ++ rest) k (pre.length : Int) = some ((mrL (mrE (.pair (.int .i64) (.pair (.int .i64) (.sl (.int .i64))))) rest k).2, pre ++ (mrL (mrE (.pair (.int .i64) (.pair (.int .i64) (.sl (.int .i64))))) rest k).1) := by
    intro rest
    induction rest with
    | nil =>
      intro pre k _ _ _
      exact xl00.eq2 _ _ _ (by simp only [xl00.t2, List.append_nil, ix_lt, Nat.lt_irrefl, decide_false, cond_false, mrL_nil])
    | cons x r ih =>
      intro pre k hk hb hl
      rw [cnt_cons] at hb
      simp only [cntT] at hb
      simp only [szT, List.length_cons, List.map_cons, List.sum_cons] at hl
      have n1 := mrL_cnt (t := (.int .i64)) x.2.2 ((k + 1) + 1)
      simp only [cntT] at n1
      have c1 := laws_markIntS_83f_ok x.2.2 ((k + 1) + 1) (by omega) (by simp only [cntT]; omega) (by simp only [szT]; omega)
      have g := ih (pre ++ [(mrE (.pair (.int .i64) (.pair (.int .i64) (.sl (.int .i64)))) x k).1]) (mrE (.pair (.int .i64) (.pair (.int .i64) (.sl (.int .i64)))) x k).2 (by rw [mrE_cnt]; omega) (by rw [mrE_cnt]; simp only [cntT] at hb ⊢; omega) (by simp only [szT, List.length_append, List.length_cons, List.length_nil] at hl ⊢; omega)
      refine xl00.eq2 _ _ _ ?_
      simp only [mrL_cons, mrE_int, mrE_bool, mrE_sl, mrE_pair]
      simp only [xl00.t2, lenI_mid, ix_nn, ix_nat, len_mid, set_mid, getD_mid, cond_true, cond_false, bne_ref, beq_ref, bang_t, wrap_k (k := k) (by omega) (by omega), wrap_k (k := (k + 1)) (by omega) (by omega), c1, wrap_succ (show pre.length < 9223372036854775807 by omega), Option.bind_some, dec_rfl, Bool.and_true]
      rw [push_mid]
      simpa [mrE_int, mrE_bool, mrE_sl, mrE_pair] using g
  exact xl00.eq v0 v1 (by simp only [xl00.t]; exact key v0 [] v1 h0 h1 (by simpa using h2))
theorem laws_markSink_3ad_ok (v0 : List Int) (v1 : Int) (v2 : List Int) (v3 : List (Int × Int × List Int)) (v4 : List Int) (v5 : Int) (v6 : Int) (v7 : Int) (h0 : 0 ≤ v7) (h1 : v7 + (cntT (.pair (.sl (.int .i64)) (.pair (.int .i64) (.pair (.sl (.int .i64)) (.pair (.sl (.pair (.int .i64) (.pair (.int .i64) (.sl (.int .i64))))) (.pair (.sl (.int .i64)) (.pair (.int .i64) (.int .i64))))))) (v0, (v1, (v2, (v3, (v4, (v5, v6)))))) : Int) ≤ 4611686018427387904) (h2 : szT (.pair (.sl (.int .i64)) (.pair (.int .i64) (.pair (.sl (.int .i64)) (.pair (.sl (.pair (.int .i64) (.pair (.int .i64) (.sl (.int .i64))))) (.pair (.sl (.int .i64)) (.pair (.int .i64) (.int .i64))))))) (v0, (v1, (v2, (v3, (v4, (v5, v6)))))) ≤ 1073741824) : laws_markSink_3ad v0 v1 v2 v3 v4 v5 v6 v7 = some ((mrT (.pair (.sl (.int .i64)) (.pair (.int .i64) (.pair (.sl (.int .i64)) (.pair (.sl (.pair (.int .i64) (.pair (.int .i64) (.sl (.int .i64))))) (.pair (.sl (.int .i64)) (.pair (.int .i64) (.int .i64))))))) (v0, (v1, (v2, (v3, (v4, (v5, v6)))))) v7).2, (mrT (.pair (.sl (.int .i64)) (.pair (.int .i64) (.pair (.sl (.int .i64)) (.pair (.sl (.pair (.int .i64) (.pair (.int .i64) (.sl (.int .i64))))) (.pair (.sl (.int .i64)) (.pair (.int .i64) (.int .i64))))))) (v0, (v1, (v2, (v3, (v4, (v5, v6)))))) v7).1.1, (mrT (.pair (.sl (.int .i64)) (.pair (.int .i64) (.pair (.sl (.int .i64)) (.pair (.sl (.pair (.int .i64) (.pair (.int .i64) (.sl (.int .i64))))) (.pair (.sl (.int .i64)) (.pair (.int .i64) (.int .i64))))))) (v0, (v1, (v2, (v3, (v4, (v5, v6)))))) v7).1.2.1, (mrT (.pair (.sl (.int .i64)) (.pair (.int .i64) (.pair (.sl (.int .i64)) (.pair (.sl (.pair (.int .i64) (.pair (.int .i64) (.sl (.int .i64))))) (.pair (.sl (.int .i64)) (.pair (.int .i64) (.int .i64))))))) (v0, (v1, (v2, (v3, (v4, (v5, v6)))))) v7).1.2.2.1, (mrT (.pair (.sl (.int .i64)) (.pair (.int .i64) (.pair (.sl (.int .i64)) (.pair (.sl (.pair (.int .i64) (.pair (.int .i64) (.sl (.int .i64))))) (.pair (.sl (.int .i64)) (.pair (.int .i64) (.int .i64))))))) (v0, (v1, (v2, (v3, (v4, (v5, v6)))))) v7).1.2.2.2.1, (mrT (.pair (.sl (.int .i64)) (.pair (.int .i64) (.pair (.sl (.int .i64)) (.pair (.sl (.pair (.int .i64) (.pair (.int .i64) (.sl (.int .i64))))) (.pair (.sl (.int .i64)) (.pair (.int .i64) (.int .i64))))))) (v0, (v1, (v2, (v3, (v4, (v5, v6)))))) v7).1.2.2.2.2.1, (mrT (.pair (.sl (.int .i64)) (.pair (.int .i64) (.pair (.sl (.int .i64)) (.pair (.sl (.pair (.int .i64) (.pair (.int .i64) (.sl (.int .i64))))) (.pair (.sl (.int .i64)) (.pair (.int .i64) (.int .i64))))))) (v0, (v1, (v2, (v3, (v4, (v5, v6)))))) v7).1.2.2.2.2.2.1, (mrT (.pair (.sl (.int .i64)) (.pair (.int .i64) (.pair (.sl (.int .i64)) (.pair (.sl (.pair (.int .i64) (.pair (.int .i64) (.sl (.int .i64))))) (.pair (.sl (.int .i64)) (.pair (.int .i64) (.int .i64))))))) (v0, (v1, (v2, (v3, (v4, (v5, v6)))))) v7).1.2.2.2.2.2.2) := by
  simp only [cntT] at h1
  simp only [szT] at h2
  have n1 := mrL_cnt (t := (.int .i64)) v0 v7
  have n1b := n1
  simp only [cntT] at n1b
  have c1 := laws_markIntS_83f_ok v0 v7 (by omega) (by simp only [cntT]; omega) (by simp only [szT]; omega)
  have n2 := mrL_cnt (t := (.int .i64)) v2 (mrL (mrE (.int .i64)) v0 v7).2
  have n2b := n2
  simp only [cntT] at n2b
  have c2 := laws_markIntS_83f_ok v2 (mrL (mrE (.int .i64)) v0 v7).2 (by omega) (by simp only [cntT]; omega) (by simp only [szT]; omega)
  have n3 := mrL_cnt (t := (.pair (.int .i64) (.pair (.int .i64) (.sl (.int .i64))))) v3 (mrL (mrE (.int .i64)) v2 (mrL (mrE (.int .i64)) v0 v7).2).2
  have n3b := n3
  simp only [cntT] at n3b
  have c3 := xl00_ok v3 (mrL (mrE (.int .i64)) v2 (mrL (mrE (.int .i64)) v0 v7).2).2 (by omega) (by simp only [cntT]; omega) (by simp only [szT]; omega)
  have n4 := mrL_cnt (t := (.int .i64)) v4 (mrL (mrE (.pair (.int .i64) (.pair (.int .i64) (.sl (.int .i64))))) v3 (mrL (mrE (.int .i64)) v2 (mrL (mrE (.int .i64)) v0 v7).2).2).2
  have n4b := n4
  simp only [cntT] at n4b
  have c4 := laws_markIntS_83f_ok v4 (mrL (mrE (.pair (.int .i64) (.pair (.int .i64) (.sl (.int .i64))))) v3 (mrL (mrE (.int .i64)) v2 (mrL (mrE (.int .i64)) v0 v7).2).2).2 (by omega) (by simp only [cntT]; omega) (by simp only [szT]; omega)
  try simp only [mrT] at c1 c2 c3 c4
  refine laws_markSink_3ad.eq _ _ _ _ _ _ _ _ ?_
  simp only [laws_markSink_3ad.t, mrT, c1, c2, c3, c4, Option.bind_some, cond_false]
theorem laws_heldIntS_ok (v0 : List Int) (v1 : Int) (h0 : 0 ≤ v1) (h1 : v1 + (cntT (.sl (.int .i64)) v0 : Int) ≤ 4611686018427387904) (h2 : szT (.sl (.int .i64)) v0 ≤ 1073741824) : laws_heldIntS (mrL (mrE (.int .i64)) v0 v1).1 v1 = some (mrL (mrE (.int .i64)) v0 v1).2 := by
  have key : ∀ (rest pre : List Int) (k : Int), 0 ≤ k → k + (cntT (.sl (.int .i64)) rest : Int) ≤ 4611686018427387904 → pre.length + szT (.sl (.int .i64)) rest ≤ 1073741824 →
      laws_heldIntS.l2 (pre ++ (mrL (mrE (.int .i64)) rest k).1) k (pre.length : Int) = some (mrL (mrE (.int .i64)) rest k).2 := by
    intro rest
    induction rest with
    | nil =>
      intro pre k _ _ _
      exact laws_heldIntS.eq2 _ _ _ (by simp only [laws_heldIntS.t2, List.append_nil, ix_lt, Nat.lt_irrefl, decide_false, cond_false, mrL_nil])
    | cons x r ih =>
      intro pre k hk hb hl
      rw [cnt_cons] at hb
      simp only [cntT] at hb
      simp only [szT, List.length_cons, List.map_cons, List.sum_cons] at hl
      have g := ih (pre ++ [(mrE (.int .i64) x k).1]) (mrE (.int .i64) x k).2 (by rw [mrE_cnt]; omega) (by rw [mrE_cnt]; simp only [cntT] at hb ⊢; omega) (by simp only [szT, List.length_append, List.length_cons, List.length_nil] at hl ⊢; omega)
      refine laws_heldIntS.eq2 _ _ _ ?_
      simp only [mrL_cons, mrE_int, mrE_bool, mrE_sl, mrE_pair]
      simp only [laws_heldIntS.t2, lenI_mid, ix_nn, ix_nat, len_mid, set_mid, getD_mid, cond_true, cond_false, bne_ref, beq_ref, bang_t, wrap_k (k := k) (by omega) (by omega), wrap_succ (show pre.length < 9223372036854775807 by omega), Option.bind_some, dec_rfl, Bool.and_true]
      rw [push_mid]
      simpa [mrE_int, mrE_bool, mrE_sl, mrE_pair] using g
  exact laws_heldIntS.eq _ v1 (by simp only [laws_heldIntS.t]; exact key v0 [] v1 h0 h1 (by simpa using h2))
theorem laws_heldPreparedS_ok (v0 : List (Int × Int × List Int)) (v1 : Int) (h0 : 0 ≤ v1) (h1 : v1 + (cntT (.sl (.pair (.int .i64) (.pair (.int .i64) (.sl (.int .i64))))) v0 : Int) ≤ 4611686018427387904) (h2 : szT (.sl (.pair (.int .i64) (.pair (.int .i64) (.sl (.int .i64))))) v0 ≤ 1073741824) : laws_heldPreparedS (mrL (mrE (.pair (.int .i64) (.pair (.int .i64) (.sl (.int .i64))))) v0 v1).1 v1 = some (mrL (mrE (.pair (.int .i64) (.pair (.int .i64) (.sl (.int .i64))))) v0 v1).2 := by
  have key : ∀ (rest pre : List (Int × Int × List Int)) (k : Int), 0 ≤ k → k + (cntT (.sl (.pair (.int .i64) (.pair (.int .i64) (.sl (.int .i64))))) rest : Int) ≤ 4611686018427387904 → pre.length + szT (.sl (.pair (.int .i64) (.pair (.int .i64) (.sl (.int .i64))))) rest ≤ 1073741824 →
      laws_heldPreparedS.l2 (pre ++ (mrL (mrE (.pair (.int .i64) (.pair (.int .i64) (.sl (.int .i64))))) rest k).1) k (pre.length : Int) = some (mrL (mrE (.pair (.int .i64) (.pair (.int .i64) (.sl (.int .i64))))) rest k).2 := by
    intro rest
    induction rest with
    | nil =>
      intro pre k _ _ _
      exact laws_heldPreparedS.eq2 _ _ _ (by simp only [laws_heldPreparedS.t2, List.append_nil, ix_lt, Nat.lt_irrefl, decide_false, cond_false, mrL_nil])
    | cons x r ih =>
      intro pre k hk hb hl
      rw [cnt_cons] at hb
      simp only [cntT] at hb
      simp only [szT, List.length_cons, List.map_cons, List.sum_cons] at hl
      have n1 := mrL_cnt (t := (.int .i64)) x.2.2 ((k + 1) + 1)
      simp only [cntT] at n1
      have c1 := laws_heldIntS_ok x.2.2 ((k + 1) + 1) (by omega) (by simp only [cntT]; omega) (by simp only [szT]; omega)
      have g1 : ¬ (mrL (mrE (.int .i64)) x.2.2 ((k + 1) + 1)).2 < 0 := by omega
      have g := ih (pre ++ [(mrE (.pair (.int .i64) (.pair (.int .i64) (.sl (.int .i64)))) x k).1]) (mrE (.pair (.int .i64) (.pair (.int .i64) (.sl (.int .i64)))) x k).2 (by rw [mrE_cnt]; omega) (by rw [mrE_cnt]; simp only [cntT] at hb ⊢; omega) (by simp only [szT, List.length_append, List.length_cons, List.length_nil] at hl ⊢; omega)
      refine laws_heldPreparedS.eq2 _ _ _ ?_
      simp only [mrL_cons, mrE_int, mrE_bool, mrE_sl, mrE_pair]
      simp only [laws_heldPreparedS.t2, lenI_mid, ix_nn, ix_nat, len_mid, set_mid, getD_mid, cond_true, cond_false, bne_ref, beq_ref, bang_t, wrap_k (k := k) (by omega) (by omega), wrap_k (k := (k + 1)) (by omega) (by omega), c1, dec_f g1, wrap_succ (show pre.length < 9223372036854775807 by omega), Option.bind_some, dec_rfl, Bool.and_true]
      rw [push_mid]
      simpa [mrE_int, mrE_bool, mrE_sl, mrE_pair] using g
  exact laws_heldPreparedS.eq _ v1 (by simp only [laws_heldPreparedS.t]; exact key v0 [] v1 h0 h1 (by simpa using h2))
theorem laws_heldSink_ok (v0 : List Int) (v1 : Int) (v2 : List Int) (v3 : List (Int × Int × List Int)) (v4 : List Int) (v5 : Int) (v6 : Int) (v7 : Int) (h0 : 0 ≤ v7) (h1 : v7 + (cntT (.pair (.sl (.int .i64)) (.pair (.int .i64) (.pair (.sl (.int .i64)) (.pair (.sl (.pair (.int .i64) (.pair (.int .i64) (.sl (.int .i64))))) (.pair (.sl (.int .i64)) (.pair (.int .i64) (.int .i64))))))) (v0, (v1, (v2, (v3, (v4, (v5, v6)))))) : Int) ≤ 4611686018427387904) (h2 : szT (.pair (.sl (.int .i64)) (.pair (.int .i64) (.pair (.sl (.int .i64)) (.pair (.sl (.pair (.int .i64) (.pair (.int .i64) (.sl (.int .i64))))) (.pair (.sl (.int .i64)) (.pair (.int .i64) (.int .i64))))))) (v0, (v1, (v2, (v3, (v4, (v5, v6)))))) ≤ 1073741824) : laws_heldSink ((mrT (.pair (.sl (.int .i64)) (.pair (.int .i64) (.pair (.sl (.int .i64)) (.pair (.sl (.pair (.int .i64) (.pair (.int .i64) (.sl (.int .i64))))) (.pair (.sl (.int .i64)) (.pair (.int .i64) (.int .i64))))))) (v0, (v1, (v2, (v3, (v4, (v5, v6)))))) v7).1.1) ((mrT (.pair (.sl (.int .i64)) (.pair (.int .i64) (.pair (.sl (.int .i64)) (.pair (.sl (.pair (.int .i64) (.pair (.int .i64) (.sl (.int .i64))))) (.pair (.sl (.int .i64)) (.pair (.int .i64) (.int .i64))))))) (v0, (v1, (v2, (v3, (v4, (v5, v6)))))) v7).1.2.1) ((mrT (.pair (.sl (.int .i64)) (.pair (.int .i64) (.pair (.sl (.int .i64)) (.pair (.sl (.pair (.int .i64) (.pair (.int .i64) (.sl (.int .i64))))) (.pair (.sl (.int .i64)) (.pair (.int .i64) (.int .i64))))))) (v0, (v1, (v2, (v3, (v4, (v5, v6)))))) v7).1.2.2.1) ((mrT (.pair (.sl (.int .i64)) (.pair (.int .i64) (.pair (.sl (.int .i64)) (.pair (.sl (.pair (.int .i64) (.pair (.int .i64) (.sl (.int .i64))))) (.pair (.sl (.int .i64)) (.pair (.int .i64) (.int .i64))))))) (v0, (v1, (v2, (v3, (v4, (v5, v6)))))) v7).1.2.2.2.1) ((mrT (.pair (.sl (.int .i64)) (.pair (.int .i64) (.pair (.sl (.int .i64)) (.pair (.sl (.pair (.int .i64) (.pair (.int .i64) (.sl (.int .i64))))) (.pair (.sl (.int .i64)) (.pair (.int .i64) (.int .i64))))))) (v0, (v1, (v2, (v3, (v4, (v5, v6)))))) v7).1.2.2.2.2.1) ((mrT (.pair (.sl (.int .i64)) (.pair (.int .i64) (.pair (.sl (.int .i64)) (.pair (.sl (.pair (.int .i64) (.pair (.int .i64) (.sl (.int .i64))))) (.pair (.sl (.int .i64)) (.pair (.int .i64) (.int .i64))))))) (v0, (v1, (v2, (v3, (v4, (v5, v6)))))) v7).1.2.2.2.2.2.1) ((mrT (.pair (.sl (.int .i64)) (.pair (.int .i64) (.pair (.sl (.int .i64)) (.pair (.sl (.pair (.int .i64) (.pair (.int .i64) (.sl (.int .i64))))) (.pair (.sl (.int .i64)) (.pair (.int .i64) (.int .i64))))))) (v0, (v1, (v2, (v3, (v4, (v5, v6)))))) v7).1.2.2.2.2.2.2) v7 = some (mrT (.pair (.sl (.int .i64)) (.pair (.int .i64) (.pair (.sl (.int .i64)) (.pair (.sl (.pair (.int .i64) (.pair (.int .i64) (.sl (.int .i64))))) (.pair (.sl (.int .i64)) (.pair (.int .i64) (.int .i64))))))) (v0, (v1, (v2, (v3, (v4, (v5, v6)))))) v7).2 := by
  simp only [cntT] at h1
  simp only [szT] at h2
  have n1 := mrL_cnt (t := (.int .i64)) v0 v7
  have n1b := n1
  simp only [cntT] at n1b
  have c1 := laws_heldIntS_ok v0 v7 (by omega) (by simp only [cntT]; omega) (by simp only [szT]; omega)
  have g1 : ¬ (mrL (mrE (.int .i64)) v0 v7).2 < 0 := by omega
  have n2 := mrL_cnt (t := (.int .i64)) v2 (mrL (mrE (.int .i64)) v0 v7).2
  have n2b := n2
  simp only [cntT] at n2b
  have c2 := laws_heldIntS_ok v2 (mrL (mrE (.int .i64)) v0 v7).2 (by omega) (by simp only [cntT]; omega) (by simp only [szT]; omega)
  have g2 : ¬ (mrL (mrE (.int .i64)) v2 (mrL (mrE (.int .i64)) v0 v7).2).2 < 0 := by omega
  have n3 := mrL_cnt (t := (.pair (.int .i64) (.pair (.int .i64) (.sl (.int .i64))))) v3 (mrL (mrE (.int .i64)) v2 (mrL (mrE (.int .i64)) v0 v7).2).2
  have n3b := n3
  simp only [cntT] at n3b
  have c3 := laws_heldPreparedS_ok v3 (mrL (mrE (.int .i64)) v2 (mrL (mrE (.int .i64)) v0 v7).2).2 (by omega) (by simp only [cntT]; omega) (by simp only [szT]; omega)
  have g3 : ¬ (mrL (mrE (.pair (.int .i64) (.pair (.int .i64) (.sl (.int .i64))))) v3 (mrL (mrE (.int .i64)) v2 (mrL (mrE (.int .i64)) v0 v7).2).2).2 < 0 := by omega
  have n4 := mrL_cnt (t := (.int .i64)) v4 (mrL (mrE (.pair (.int .i64) (.pair (.int .i64) (.sl (.int .i64))))) v3 (mrL (mrE (.int .i64)) v2 (mrL (mrE (.int .i64)) v0 v7).2).2).2
  have n4b := n4
  simp only [cntT] at n4b
  have c4 := laws_heldIntS_ok v4 (mrL (mrE (.pair (.int .i64) (.pair (.int .i64) (.sl (.int .i64))))) v3 (mrL (mrE (.int .i64)) v2 (mrL (mrE (.int .i64)) v0 v7).2).2).2 (by omega) (by simp only [cntT]; omega) (by simp only [szT]; omega)
  have g4 : ¬ (mrL (mrE (.int .i64)) v4 (mrL (mrE (.pair (.int .i64) (.pair (.int .i64) (.sl (.int .i64))))) v3 (mrL (mrE (.int .i64)) v2 (mrL (mrE (.int .i64)) v0 v7).2).2).2).2 < 0 := by omega
  try simp only [mrT] at c1 g1 c2 g2 c3 g3 c4 g4
  refine laws_heldSink.eq _ _ _ _ _ _ _ _ ?_
  simp only [laws_heldSink.t, mrT, c1, dec_f g1, c2, dec_f g2, c3, dec_f g3, c4, dec_f g4, Option.bind_some, cond_false]
end GoV

/- Small words of the program and of its specification. -/
namespace GoV
open Go
theorem impl_within_eq (x lo hi : Int) : impl_within x lo hi = some (inB lo hi x) := by
  refine impl_within.eq x lo hi ?_
  simp only [impl_within.t, inB]
  by_cases h : lo ≤ x <;> simp [h]
theorem spec_l1In_eq (x lo hi : Int) : spec_l1In x lo hi = some (inB lo hi x) := by
  refine spec_l1In.eq x lo hi ?_
  simp only [spec_l1In.t, inB]
  by_cases h : lo ≤ x <;> simp [h]
end GoV
