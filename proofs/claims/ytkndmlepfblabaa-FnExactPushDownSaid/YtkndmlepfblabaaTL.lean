/- A part of the proof of FnExactPushDown: an interpreter of the model over plain data, its soundness, and what it makes of the functions that the statement reaches. Conditions: none beyond what the given statement itself says. -/
import Derived.Test.YtkndmlepfblabaaTK
set_option linter.unusedVariables false
set_option linter.unusedSimpArgs false
set_option linter.unnecessarySimpa false
set_option linter.unusedSectionVars false
/- What the statements' own helpers answer (printed by wip/tools/lawgen.py). -/
namespace GoV
open Go
theorem laws_szIntS_ok (v0 : List Int) (v1 : Int) (hw : WfT (.sl (.int .i64)) v0) (h1 : 0 ≤ v1) (h2 : v1 ≤ 1048576) : ∃ r, laws_szIntS v0 v1 = some r ∧ r ≤ v1 ∧ (0 ≤ r → (szT (.sl (.int .i64)) v0 : Int) + r = v1) := by
  have hl := hw.1
  have e0 : IntKind.i64.wrap (v1 - (v0.length : Int)) = v1 - (v0.length : Int) := wrap_id (by omega) (by omega)
  by_cases hn : v1 - (v0.length : Int) < 0
  · exact ⟨-1, laws_szIntS.eq v0 v1 (by simp only [laws_szIntS.t, e0, dec_t hn, cond_true]), by omega, fun h => by omega⟩
  · exact ⟨v1 - (v0.length : Int), laws_szIntS.eq v0 v1 (by simp only [laws_szIntS.t, e0, dec_f hn, cond_false]), by omega, fun _ => by rw [szT_sl_flat (t := (.int .i64)) v0 rfl]; omega⟩
theorem laws_szTestS_ok (v0 : List (Int × Int × Int)) (v1 : Int) (hw : WfT (.sl (.pair (.int .i64) (.pair (.int .i64) (.int .i64)))) v0) (h1 : 0 ≤ v1) (h2 : v1 ≤ 1048576) : ∃ r, laws_szTestS v0 v1 = some r ∧ r ≤ v1 ∧ (0 ≤ r → (szT (.sl (.pair (.int .i64) (.pair (.int .i64) (.int .i64)))) v0 : Int) + r = v1) := by
  have hl := hw.1
  have e0 : IntKind.i64.wrap (v1 - (v0.length : Int)) = v1 - (v0.length : Int) := wrap_id (by omega) (by omega)
  by_cases hn : v1 - (v0.length : Int) < 0
  · exact ⟨-1, laws_szTestS.eq v0 v1 (by simp only [laws_szTestS.t, e0, dec_t hn, cond_true]), by omega, fun h => by omega⟩
  · exact ⟨v1 - (v0.length : Int), laws_szTestS.eq v0 v1 (by simp only [laws_szTestS.t, e0, dec_f hn, cond_false]), by omega, fun _ => by rw [szT_sl_flat (t := (.pair (.int .i64) (.pair (.int .i64) (.int .i64)))) v0 rfl]; omega⟩
theorem laws_szIntSS_ok (v0 : List (List Int)) (v1 : Int) (hw : WfT (.sl (.sl (.int .i64))) v0) (h1 : 0 ≤ v1) (h2 : v1 ≤ 1048576) : ∃ r, laws_szIntSS v0 v1 = some r ∧ r ≤ v1 ∧ (0 ≤ r → (szT (.sl (.sl (.int .i64))) v0 : Int) + r = v1) := by
  have hl := hw.1
  have e0 : IntKind.i64.wrap (v1 - (v0.length : Int)) = v1 - (v0.length : Int) := wrap_id (by omega) (by omega)
  by_cases hn : v1 - (v0.length : Int) < 0
  · exact ⟨-1, laws_szIntSS.eq v0 v1 (by simp only [laws_szIntSS.t, e0, dec_t hn, cond_true]), by omega, fun h => by omega⟩
  · have key : ∀ i, i ≤ v0.length → ∀ m : Int, 0 ≤ m → m ≤ 1048576 → ∃ r, laws_szIntSS.l5 v0 m (i : Int) = some r ∧ r ≤ m ∧ (0 ≤ r → ((((v0.drop i).map (szT (.sl (.int .i64)))).sum : Nat) : Int) + r = m) := by
      refine upto ?_ ?_
      · intro m h1 h2
        exact ⟨m, laws_szIntSS.eq5 v0 m (v0.length : Int) (by simp only [laws_szIntSS.t5, ix_lt, Nat.lt_irrefl, decide_false, cond_false]), Int.le_refl _, fun _ => by simp⟩
      · intro i hi ih m h1 h2
        obtain ⟨r, hr, hr1, hr2⟩ := laws_szIntS_ok (v0.getD i []) m (hw.2 _ (getD_mem [] hi)) h1 h2
        by_cases hneg : r < 0
        · exact ⟨-1, laws_szIntSS.eq5 v0 m (i : Int) (by simp only [laws_szIntSS.t5, ix_lt, ix_nn, ix_nat, dec_t hi, cond_true, hr, Option.bind_some, dec_t hneg]), by omega, fun h => by omega⟩
        · obtain ⟨r2, g0, g1, g2⟩ := ih r (by omega) (by omega)
          refine ⟨r2, laws_szIntSS.eq5 v0 m (i : Int) (by simp only [laws_szIntSS.t5, ix_lt, ix_nn, ix_nat, dec_t hi, cond_true, hr, Option.bind_some, dec_f hneg, cond_false, wrap_succ (show i < 9223372036854775807 by omega), g0]), by omega, fun h => ?_⟩
          have k1 := hr2 (by omega)
          have k2 := g2 h
          rw [drop_getD [] hi]
          simp only [List.map_cons, List.sum_cons]
          simp only [szT] at k1 k2 ⊢
          omega
    obtain ⟨r, g0, g1, g2⟩ := key 0 (Nat.zero_le _) (v1 - (v0.length : Int)) (by omega) (by omega)
    refine ⟨r, laws_szIntSS.eq v0 v1 (by simp only [laws_szIntSS.t, e0, dec_f hn, cond_false]; exact g0), by omega, fun h => ?_⟩
    have := g2 h
    simp only [List.drop_zero] at this
    simp only [szT] at this ⊢
    omega
theorem laws_szPart_ok (v0 : Int) (v1 : Int) (v2 : Int) (v3 : List (Int × Int × Int)) (v4 : List Int) (v5 : List (List Int)) (v6 : Int) (hw : WfT (.pair (.int .i64) (.pair (.int .i64) (.pair (.int .i64) (.pair (.sl (.pair (.int .i64) (.pair (.int .i64) (.int .i64)))) (.pair (.sl (.int .i64)) (.sl (.sl (.int .i64)))))))) (v0, (v1, (v2, (v3, (v4, v5)))))) (h1 : 0 ≤ v6) (h2 : v6 ≤ 1048576) : ∃ r, laws_szPart v0 v1 v2 v3 v4 v5 v6 = some r ∧ r ≤ v6 ∧ (0 ≤ r → (szT (.pair (.int .i64) (.pair (.int .i64) (.pair (.int .i64) (.pair (.sl (.pair (.int .i64) (.pair (.int .i64) (.int .i64)))) (.pair (.sl (.int .i64)) (.sl (.sl (.int .i64)))))))) (v0, (v1, (v2, (v3, (v4, v5))))) : Int) + r = v6) := by
  obtain ⟨r1, e1, a1, b1⟩ := laws_szTestS_ok v3 v6 hw.2.2.2.1 h1 h2
  by_cases n1 : r1 < 0
  · exact ⟨-1, laws_szPart.eq v0 v1 v2 v3 v4 v5 v6 (by simp only [laws_szPart.t, dec_t n1, e1, cond_true, cond_false, Option.bind_some]), by omega, fun h => by omega⟩
  obtain ⟨r2, e2, a2, b2⟩ := laws_szIntS_ok v4 r1 hw.2.2.2.2.1 (by omega) (by omega)
  by_cases n2 : r2 < 0
  · exact ⟨-1, laws_szPart.eq v0 v1 v2 v3 v4 v5 v6 (by simp only [laws_szPart.t, e1, dec_f n1, dec_t n2, e2, cond_true, cond_false, Option.bind_some]), by omega, fun h => by omega⟩
  obtain ⟨r3, e3, a3, b3⟩ := laws_szIntSS_ok v5 r2 hw.2.2.2.2.2 (by omega) (by omega)
  by_cases n3 : r3 < 0
  · exact ⟨-1, laws_szPart.eq v0 v1 v2 v3 v4 v5 v6 (by simp only [laws_szPart.t, e1, dec_f n1, e2, dec_f n2, dec_t n3, e3, cond_true, cond_false, Option.bind_some]), by omega, fun h => by omega⟩
  refine ⟨r3, laws_szPart.eq v0 v1 v2 v3 v4 v5 v6 (by simp only [laws_szPart.t, e1, dec_f n1, e2, dec_f n2, e3, dec_f n3, cond_true, cond_false, Option.bind_some]), by omega, fun h => ?_⟩
  have k1 := b1 (by omega)
  have k2 := b2 (by omega)
  have k3 := b3 (by omega)
  simp only [szT] at k1 k2 k3 ⊢
  omega
theorem laws_szPartS_ok (v0 : List (Int × Int × Int × List (Int × Int × Int) × List Int × List (List Int))) (v1 : Int) (hw : WfT (.sl (.pair (.int .i64) (.pair (.int .i64) (.pair (.int .i64) (.pair (.sl (.pair (.int .i64) (.pair (.int .i64) (.int .i64)))) (.pair (.sl (.int .i64)) (.sl (.sl (.int .i64))))))))) v0) (h1 : 0 ≤ v1) (h2 : v1 ≤ 1048576) : ∃ r, laws_szPartS v0 v1 = some r ∧ r ≤ v1 ∧ (0 ≤ r → (szT (.sl (.pair (.int .i64) (.pair (.int .i64) (.pair (.int .i64) (.pair (.sl (.pair (.int .i64) (.pair (.int .i64) (.int .i64)))) (.pair (.sl (.int .i64)) (.sl (.sl (.int .i64))))))))) v0 : Int) + r = v1) := by
  have hl := hw.1
  have e0 : IntKind.i64.wrap (v1 - (v0.length : Int)) = v1 - (v0.length : Int) := wrap_id (by omega) (by omega)
  by_cases hn : v1 - (v0.length : Int) < 0
  · exact ⟨-1, laws_szPartS.eq v0 v1 (by simp only [laws_szPartS.t, e0, dec_t hn, cond_true]), by omega, fun h => by omega⟩
  · have key : ∀ i, i ≤ v0.length → ∀ m : Int, 0 ≤ m → m ≤ 1048576 → ∃ r, laws_szPartS.l5 v0 m (i : Int) = some r ∧ r ≤ m ∧ (0 ≤ r → ((((v0.drop i).map (szT (.pair (.int .i64) (.pair (.int .i64) (.pair (.int .i64) (.pair (.sl (.pair (.int .i64) (.pair (.int .i64) (.int .i64)))) (.pair (.sl (.int .i64)) (.sl (.sl (.int .i64)))))))))).sum : Nat) : Int) + r = m) := by
      refine upto ?_ ?_
      · intro m h1 h2
        exact ⟨m, laws_szPartS.eq5 v0 m (v0.length : Int) (by simp only [laws_szPartS.t5, ix_lt, Nat.lt_irrefl, decide_false, cond_false]), Int.le_refl _, fun _ => by simp⟩
      · intro i hi ih m h1 h2
        obtain ⟨r, hr, hr1, hr2⟩ := laws_szPart_ok ((v0.getD i ((0 : Int), (0 : Int), (0 : Int), [], [], [])).fst) ((v0.getD i ((0 : Int), (0 : Int), (0 : Int), [], [], [])).snd.fst) ((v0.getD i ((0 : Int), (0 : Int), (0 : Int), [], [], [])).snd.snd.fst) ((v0.getD i ((0 : Int), (0 : Int), (0 : Int), [], [], [])).snd.snd.snd.fst) ((v0.getD i ((0 : Int), (0 : Int), (0 : Int), [], [], [])).snd.snd.snd.snd.fst) ((v0.getD i ((0 : Int), (0 : Int), (0 : Int), [], [], [])).snd.snd.snd.snd.snd) m (hw.2 _ (getD_mem ((0 : Int), (0 : Int), (0 : Int), [], [], []) hi)) h1 h2
        by_cases hneg : r < 0
        · exact ⟨-1, laws_szPartS.eq5 v0 m (i : Int) (by simp only [laws_szPartS.t5, ix_lt, ix_nn, ix_nat, dec_t hi, cond_true, hr, Option.bind_some, dec_t hneg]), by omega, fun h => by omega⟩
        · obtain ⟨r2, g0, g1, g2⟩ := ih r (by omega) (by omega)
          refine ⟨r2, laws_szPartS.eq5 v0 m (i : Int) (by simp only [laws_szPartS.t5, ix_lt, ix_nn, ix_nat, dec_t hi, cond_true, hr, Option.bind_some, dec_f hneg, cond_false, wrap_succ (show i < 9223372036854775807 by omega), g0]), by omega, fun h => ?_⟩
          have k1 := hr2 (by omega)
          have k2 := g2 h
          rw [drop_getD ((0 : Int), (0 : Int), (0 : Int), [], [], []) hi]
          simp only [List.map_cons, List.sum_cons]
          simp only [szT] at k1 k2 ⊢
          omega
    obtain ⟨r, g0, g1, g2⟩ := key 0 (Nat.zero_le _) (v1 - (v0.length : Int)) (by omega) (by omega)
    refine ⟨r, laws_szPartS.eq v0 v1 (by simp only [laws_szPartS.t, e0, dec_f hn, cond_false]; exact g0), by omega, fun h => ?_⟩
    have := g2 h
    simp only [List.drop_zero] at this
    simp only [szT] at this ⊢
    omega
theorem laws_szView_ok (v0 : List Int) (v1 : List (Int × Int × Int × List (Int × Int × Int) × List Int × List (List Int))) (v2 : Int) (hw : WfT (.pair (.sl (.int .i64)) (.sl (.pair (.int .i64) (.pair (.int .i64) (.pair (.int .i64) (.pair (.sl (.pair (.int .i64) (.pair (.int .i64) (.int .i64)))) (.pair (.sl (.int .i64)) (.sl (.sl (.int .i64)))))))))) (v0, v1)) (h1 : 0 ≤ v2) (h2 : v2 ≤ 1048576) : ∃ r, laws_szView v0 v1 v2 = some r ∧ r ≤ v2 ∧ (0 ≤ r → (szT (.pair (.sl (.int .i64)) (.sl (.pair (.int .i64) (.pair (.int .i64) (.pair (.int .i64) (.pair (.sl (.pair (.int .i64) (.pair (.int .i64) (.int .i64)))) (.pair (.sl (.int .i64)) (.sl (.sl (.int .i64)))))))))) (v0, v1) : Int) + r = v2) := by
  obtain ⟨r1, e1, a1, b1⟩ := laws_szIntS_ok v0 v2 hw.1 h1 h2
  by_cases n1 : r1 < 0
  · exact ⟨-1, laws_szView.eq v0 v1 v2 (by simp only [laws_szView.t, dec_t n1, e1, cond_true, cond_false, Option.bind_some]), by omega, fun h => by omega⟩
  obtain ⟨r2, e2, a2, b2⟩ := laws_szPartS_ok v1 r1 hw.2 (by omega) (by omega)
  by_cases n2 : r2 < 0
  · exact ⟨-1, laws_szView.eq v0 v1 v2 (by simp only [laws_szView.t, e1, dec_f n1, dec_t n2, e2, cond_true, cond_false, Option.bind_some]), by omega, fun h => by omega⟩
  refine ⟨r2, laws_szView.eq v0 v1 v2 (by simp only [laws_szView.t, e1, dec_f n1, e2, dec_f n2, cond_true, cond_false, Option.bind_some]), by omega, fun h => ?_⟩
  have k1 := b1 (by omega)
  have k2 := b2 (by omega)
  simp only [szT] at k1 k2 ⊢
  omega
theorem laws_toIntS_id (v0 : List Int) (h : szT (.sl (.int .i64)) v0 ≤ 1073741824) : laws_toIntS v0 = some v0 := by
  have hlen : v0.length ≤ 1073741824 := Nat.le_trans (szT_len (t := (.int .i64))) h
  have key : ∀ i, i ≤ v0.length → ∀ a : List Int, a.length = v0.length → a.take i = v0.take i → laws_toIntS.l3 v0 a (i : Int) = some v0 := by
    refine upto ?_ ?_
    · intro a ha hh
      have ea := take_all_eq ha hh
      subst ea
      exact laws_toIntS.eq3 a a (a.length : Int) (by simp only [laws_toIntS.t3, ix_lt, Nat.lt_irrefl, decide_false, cond_false])
    · intro i hi ih a ha hh
      have g := ih (a.set i (v0.getD i (0 : Int))) (by simp [ha]) (set_step hi ha hh)
      have hia : i < a.length := by omega
      refine laws_toIntS.eq3 v0 a (i : Int) ?_
      simp only [laws_toIntS.t3, ix_lt, ix_nn, ix_nat, dec_t hi, dec_t hia, cond_true, wrap_succ (show i < 9223372036854775807 by omega)]
      exact g
  refine laws_toIntS.eq v0 ?_
  have h3 : ((v0.length : Int) ≤ ((4294967296 : Nat) : Int)) := by omega
  simp only [laws_toIntS.t, decide_true, dec_t h3, cond_true, ix_nat]
  exact key 0 (Nat.zero_le _) _ (by simp) (by simp)
theorem laws_toTest_id (v0 : Int) (v1 : Int) (v2 : Int) (h : szT (.pair (.int .i64) (.pair (.int .i64) (.int .i64))) (v0, (v1, v2)) ≤ 1073741824) : laws_toTest v0 v1 v2 = some (v0, v1, v2) := by
  exact laws_toTest.eq v0 v1 v2 (by simp only [laws_toTest.t, Option.bind_some])
theorem laws_toTestS_id (v0 : List (Int × Int × Int)) (h : szT (.sl (.pair (.int .i64) (.pair (.int .i64) (.int .i64)))) v0 ≤ 1073741824) : laws_toTestS v0 = some v0 := by
  have hlen : v0.length ≤ 1073741824 := Nat.le_trans (szT_len (t := (.pair (.int .i64) (.pair (.int .i64) (.int .i64))))) h
  have key : ∀ i, i ≤ v0.length → ∀ a : List (Int × Int × Int), a.length = v0.length → a.take i = v0.take i → laws_toTestS.l3 v0 a (i : Int) = some v0 := by
    refine upto ?_ ?_
    · intro a ha hh
      have ea := take_all_eq ha hh
      subst ea
      exact laws_toTestS.eq3 a a (a.length : Int) (by simp only [laws_toTestS.t3, ix_lt, Nat.lt_irrefl, decide_false, cond_false])
    · intro i hi ih a ha hh
      have hc := laws_toTest_id ((v0.getD i ((0 : Int), (0 : Int), (0 : Int))).fst) ((v0.getD i ((0 : Int), (0 : Int), (0 : Int))).snd.fst) ((v0.getD i ((0 : Int), (0 : Int), (0 : Int))).snd.snd) (Nat.le_trans (szT_mem (t := (.pair (.int .i64) (.pair (.int .i64) (.int .i64)))) (getD_mem ((0 : Int), (0 : Int), (0 : Int)) hi)) h)
      have g := ih (a.set i (v0.getD i ((0 : Int), (0 : Int), (0 : Int)))) (by simp [ha]) (set_step hi ha hh)
      have hia : i < a.length := by omega
      refine laws_toTestS.eq3 v0 a (i : Int) ?_
      simp only [laws_toTestS.t3, ix_lt, ix_nn, ix_nat, dec_t hi, dec_t hia, cond_true, hc, Option.bind_some, wrap_succ (show i < 9223372036854775807 by omega)]
      exact g
  refine laws_toTestS.eq v0 ?_
  have h3 : ((v0.length : Int) ≤ ((4294967296 : Nat) : Int)) := by omega
  simp only [laws_toTestS.t, decide_true, dec_t h3, cond_true, ix_nat]
  exact key 0 (Nat.zero_le _) _ (by simp) (by simp)
theorem laws_toIntSS_id (v0 : List (List Int)) (h : szT (.sl (.sl (.int .i64))) v0 ≤ 1073741824) : laws_toIntSS v0 = some v0 := by
  have hlen : v0.length ≤ 1073741824 := Nat.le_trans (szT_len (t := (.sl (.int .i64)))) h
  have key : ∀ i, i ≤ v0.length → ∀ a : List (List Int), a.length = v0.length → a.take i = v0.take i → laws_toIntSS.l3 v0 a (i : Int) = some v0 := by
    refine upto ?_ ?_
    · intro a ha hh
      have ea := take_all_eq ha hh
      subst ea
      exact laws_toIntSS.eq3 a a (a.length : Int) (by simp only [laws_toIntSS.t3, ix_lt, Nat.lt_irrefl, decide_false, cond_false])
    · intro i hi ih a ha hh
      have hc := laws_toIntS_id (v0.getD i []) (Nat.le_trans (szT_mem (t := (.sl (.int .i64))) (getD_mem [] hi)) h)
      have g := ih (a.set i (v0.getD i [])) (by simp [ha]) (set_step hi ha hh)
      have hia : i < a.length := by omega
      refine laws_toIntSS.eq3 v0 a (i : Int) ?_
      simp only [laws_toIntSS.t3, ix_lt, ix_nn, ix_nat, dec_t hi, dec_t hia, cond_true, hc, Option.bind_some, wrap_succ (show i < 9223372036854775807 by omega)]
      exact g
  refine laws_toIntSS.eq v0 ?_
  have h3 : ((v0.length : Int) ≤ ((4294967296 : Nat) : Int)) := by omega
  simp only [laws_toIntSS.t, decide_true, dec_t h3, cond_true, ix_nat]
  exact key 0 (Nat.zero_le _) _ (by simp) (by simp)
theorem laws_toPart_id (v0 : Int) (v1 : Int) (v2 : Int) (v3 : List (Int × Int × Int)) (v4 : List Int) (v5 : List (List Int)) (h : szT (.pair (.int .i64) (.pair (.int .i64) (.pair (.int .i64) (.pair (.sl (.pair (.int .i64) (.pair (.int .i64) (.int .i64)))) (.pair (.sl (.int .i64)) (.sl (.sl (.int .i64)))))))) (v0, (v1, (v2, (v3, (v4, v5))))) ≤ 1073741824) : laws_toPart v0 v1 v2 v3 v4 v5 = some (v0, v1, v2, v3, v4, v5) := by
  have e1 := laws_toTestS_id v3 (by simp only [szT] at h ⊢; omega)
  have e2 := laws_toIntS_id v4 (by simp only [szT] at h ⊢; omega)
  have e3 := laws_toIntSS_id v5 (by simp only [szT] at h ⊢; omega)
  exact laws_toPart.eq v0 v1 v2 v3 v4 v5 (by simp only [laws_toPart.t, e1, e2, e3, Option.bind_some])
theorem laws_toPartS_id (v0 : List (Int × Int × Int × List (Int × Int × Int) × List Int × List (List Int))) (h : szT (.sl (.pair (.int .i64) (.pair (.int .i64) (.pair (.int .i64) (.pair (.sl (.pair (.int .i64) (.pair (.int .i64) (.int .i64)))) (.pair (.sl (.int .i64)) (.sl (.sl (.int .i64))))))))) v0 ≤ 1073741824) : laws_toPartS v0 = some v0 := by
  have hlen : v0.length ≤ 1073741824 := Nat.le_trans (szT_len (t := (.pair (.int .i64) (.pair (.int .i64) (.pair (.int .i64) (.pair (.sl (.pair (.int .i64) (.pair (.int .i64) (.int .i64)))) (.pair (.sl (.int .i64)) (.sl (.sl (.int .i64)))))))))) h
  have key : ∀ i, i ≤ v0.length → ∀ a : List (Int × Int × Int × List (Int × Int × Int) × List Int × List (List Int)), a.length = v0.length → a.take i = v0.take i → laws_toPartS.l3 v0 a (i : Int) = some v0 := by
    refine upto ?_ ?_
    · intro a ha hh
      have ea := take_all_eq ha hh
      subst ea
      exact laws_toPartS.eq3 a a (a.length : Int) (by simp only [laws_toPartS.t3, ix_lt, Nat.lt_irrefl, decide_false, cond_false])
    · intro i hi ih a ha hh
      have hc := laws_toPart_id ((v0.getD i ((0 : Int), (0 : Int), (0 : Int), [], [], [])).fst) ((v0.getD i ((0 : Int), (0 : Int), (0 : Int), [], [], [])).snd.fst) ((v0.getD i ((0 : Int), (0 : Int), (0 : Int), [], [], [])).snd.snd.fst) ((v0.getD i ((0 : Int), (0 : Int), (0 : Int), [], [], [])).snd.snd.snd.fst) ((v0.getD i ((0 : Int), (0 : Int), (0 : Int), [], [], [])).snd.snd.snd.snd.fst) ((v0.getD i ((0 : Int), (0 : Int), (0 : Int), [], [], [])).snd.snd.snd.snd.snd) (Nat.le_trans (szT_mem (t := (.pair (.int .i64) (.pair (.int .i64) (.pair (.int .i64) (.pair (.sl (.pair (.int .i64) (.pair (.int .i64) (.int .i64)))) (.pair (.sl (.int .i64)) (.sl (.sl (.int .i64))))))))) (getD_mem ((0 : Int), (0 : Int), (0 : Int), [], [], []) hi)) h)
      have g := ih (a.set i (v0.getD i ((0 : Int), (0 : Int), (0 : Int), [], [], []))) (by simp [ha]) (set_step hi ha hh)
      have hia : i < a.length := by omega
      refine laws_toPartS.eq3 v0 a (i : Int) ?_
      simp only [laws_toPartS.t3, ix_lt, ix_nn, ix_nat, dec_t hi, dec_t hia, cond_true, hc, Option.bind_some, wrap_succ (show i < 9223372036854775807 by omega)]
      exact g
  refine laws_toPartS.eq v0 ?_
  have h3 : ((v0.length : Int) ≤ ((4294967296 : Nat) : Int)) := by omega
  simp only [laws_toPartS.t, decide_true, dec_t h3, cond_true, ix_nat]
  exact key 0 (Nat.zero_le _) _ (by simp) (by simp)
theorem laws_toView_id (v0 : List Int) (v1 : List (Int × Int × Int × List (Int × Int × Int) × List Int × List (List Int))) (h : szT (.pair (.sl (.int .i64)) (.sl (.pair (.int .i64) (.pair (.int .i64) (.pair (.int .i64) (.pair (.sl (.pair (.int .i64) (.pair (.int .i64) (.int .i64)))) (.pair (.sl (.int .i64)) (.sl (.sl (.int .i64)))))))))) (v0, v1) ≤ 1073741824) : laws_toView v0 v1 = some (v0, v1) := by
  have e1 := laws_toIntS_id v0 (by simp only [szT] at h ⊢; omega)
  have e2 := laws_toPartS_id v1 (by simp only [szT] at h ⊢; omega)
  exact laws_toView.eq v0 v1 (by simp only [laws_toView.t, e1, e2, Option.bind_some])
theorem xs07_ok (v0 : List Int) (p : Int → Bool) (hl : v0.length ≤ 4611686018427387904) (hp : ∀ x, x ∈ v0 → xi0f (x) = some (p x)) : ∃ r : Int, xs07 v0 = some r ∧ decide (r ≥ 0) = v0.any p := by
  have key : ∀ i, i ≤ v0.length → ∃ r : Int, xs07.l2 (v0) ((↑v0.length : Int)) (i : Int) = some r ∧ decide (r ≥ 0) = (v0.drop i).any p := by
    refine upto ?_ ?_
    · exact ⟨-1, xs07.eq2 (v0) ((↑v0.length : Int)) (v0.length : Int) (by simp only [xs07.t2, ix_lt, Nat.lt_irrefl, decide_false, cond_false]), by simp⟩
    · intro i hi ih
      have hc := hp _ (getD_mem (0 : Int) hi)
      rw [drop_getD (0 : Int) hi, List.any_cons]
      cases hx : p (v0.getD i (0 : Int)) with
      | true => exact ⟨i, xs07.eq2 (v0) ((↑v0.length : Int)) (i : Int) (by simp only [xs07.t2, ix_lt, ix_nn, ix_nat, dec_t hi, cond_true, hc, hx, Option.bind_some]), by simp⟩
      | false =>
        obtain ⟨r, g0, g1⟩ := ih
        exact ⟨r, xs07.eq2 (v0) ((↑v0.length : Int)) (i : Int) (by simp only [xs07.t2, ix_lt, ix_nn, ix_nat, dec_t hi, cond_true, cond_false, hc, hx, Option.bind_some, wrap_succ (show i < 9223372036854775807 by omega), g0]), by rw [g1, Bool.false_or]⟩
  obtain ⟨r, g0, g1⟩ := key 0 (Nat.zero_le _)
  exact ⟨r, xs07.eq v0 (by simp only [xs07.t]; exact g0), by simpa using g1⟩
theorem xs04_ok (v0 : List Int) (p : Int → Bool) (hl : v0.length ≤ 4611686018427387904) (hp : ∀ x, x ∈ v0 → xi0f (x) = some (p x)) : xs04 v0 = some (v0.any p) := by
  obtain ⟨r, g0, g1⟩ := xs07_ok (v0) p hl hp
  exact xs04.eq v0 (by simp only [xs04.t, g0, Option.bind_some, g1])
theorem xi0i_ok (v0 : List Int) (p : Int → Bool) (hl : v0.length ≤ 4611686018427387904) (hp : ∀ x, x ∈ v0 → impl_isColumns ((x)) = some (p x)) : xi0i v0 = some (v0.all p) := by
  have g := xs04_ok (v0) (fun x => !p x) hl (fun x hx => xi0f.eq (x) (by simp only [xi0f.t, hp x hx, Option.bind_some]))
  exact xi0i.eq v0 (by simp only [xi0i.t, g, Option.bind_some, List.all_eq_not_any_not])
theorem xs01_ok (v0 : List (Int × Int × Int)) (v1 : Int) (p : (Int) × ((Int) × (Int)) → Bool) (hl : v0.length ≤ 4611686018427387904) (hp : ∀ x, x ∈ v0 → xi09 ((x).fst) ((x).snd.fst) ((x).snd.snd) (v1) = some (p x)) : ∃ r : Int, xs01 v0 v1 = some r ∧ decide (r ≥ 0) = v0.any p := by
  have key : ∀ i, i ≤ v0.length → ∃ r : Int, xs01.l2 (v0) (v1) ((↑v0.length : Int)) (i : Int) = some r ∧ decide (r ≥ 0) = (v0.drop i).any p := by
    refine upto ?_ ?_
    · exact ⟨-1, xs01.eq2 (v0) (v1) ((↑v0.length : Int)) (v0.length : Int) (by simp only [xs01.t2, ix_lt, Nat.lt_irrefl, decide_false, cond_false]), by simp⟩
    · intro i hi ih
      have hc := hp _ (getD_mem ((0 : Int), (0 : Int), (0 : Int)) hi)
      rw [drop_getD ((0 : Int), (0 : Int), (0 : Int)) hi, List.any_cons]
      cases hx : p (v0.getD i ((0 : Int), (0 : Int), (0 : Int))) with
      | true => exact ⟨i, xs01.eq2 (v0) (v1) ((↑v0.length : Int)) (i : Int) (by simp only [xs01.t2, ix_lt, ix_nn, ix_nat, dec_t hi, cond_true, hc, hx, Option.bind_some]), by simp⟩
      | false =>
        obtain ⟨r, g0, g1⟩ := ih
        exact ⟨r, xs01.eq2 (v0) (v1) ((↑v0.length : Int)) (i : Int) (by simp only [xs01.t2, ix_lt, ix_nn, ix_nat, dec_t hi, cond_true, cond_false, hc, hx, Option.bind_some, wrap_succ (show i < 9223372036854775807 by omega), g0]), by rw [g1, Bool.false_or]⟩
  obtain ⟨r, g0, g1⟩ := key 0 (Nat.zero_le _)
  exact ⟨r, xs01.eq v0 v1 (by simp only [xs01.t]; exact g0), by simpa using g1⟩
theorem xs00_ok (v0 : List (Int × Int × Int)) (v1 : Int) (p : (Int) × ((Int) × (Int)) → Bool) (hl : v0.length ≤ 4611686018427387904) (hp : ∀ x, x ∈ v0 → xi09 ((x).fst) ((x).snd.fst) ((x).snd.snd) (v1) = some (p x)) : xs00 v0 v1 = some (v0.any p) := by
  obtain ⟨r, g0, g1⟩ := xs01_ok (v0) (v1) p hl hp
  exact xs00.eq v0 v1 (by simp only [xs00.t, g0, Option.bind_some, g1])
theorem xi0b_ok (v0 : List (Int × Int × Int)) (v1 : Int) (p : (Int) × ((Int) × (Int)) → Bool) (hl : v0.length ≤ 4611686018427387904) (hp : ∀ x, x ∈ v0 → impl_GoodTests_1 (((x).fst)) (((x).snd.fst)) (((x).snd.snd)) ((v1)) = some (p x)) : xi0b v0 v1 = some (v0.all p) := by
  have g := xs00_ok (v0) (v1) (fun x => !p x) hl (fun x hx => xi09.eq ((x).fst) ((x).snd.fst) ((x).snd.snd) (v1) (by simp only [xi09.t, hp x hx, Option.bind_some]))
  exact xi0b.eq v0 v1 (by simp only [xi0b.t, g, Option.bind_some, List.all_eq_not_any_not])
theorem xs05_ok (v0 : List Int) (v1 : Int) (p : Int → Bool) (hl : v0.length ≤ 4611686018427387904) (hp : ∀ x, x ∈ v0 → xi0c (x) (v1) = some (p x)) : ∃ r : Int, xs05 v0 v1 = some r ∧ decide (r ≥ 0) = v0.any p := by
  have key : ∀ i, i ≤ v0.length → ∃ r : Int, xs05.l2 (v0) (v1) ((↑v0.length : Int)) (i : Int) = some r ∧ decide (r ≥ 0) = (v0.drop i).any p := by
    refine upto ?_ ?_
    · exact ⟨-1, xs05.eq2 (v0) (v1) ((↑v0.length : Int)) (v0.length : Int) (by simp only [xs05.t2, ix_lt, Nat.lt_irrefl, decide_false, cond_false]), by simp⟩
    · intro i hi ih
      have hc := hp _ (getD_mem (0 : Int) hi)
      rw [drop_getD (0 : Int) hi, List.any_cons]
      cases hx : p (v0.getD i (0 : Int)) with
      | true => exact ⟨i, xs05.eq2 (v0) (v1) ((↑v0.length : Int)) (i : Int) (by simp only [xs05.t2, ix_lt, ix_nn, ix_nat, dec_t hi, cond_true, hc, hx, Option.bind_some]), by simp⟩
      | false =>
        obtain ⟨r, g0, g1⟩ := ih
        exact ⟨r, xs05.eq2 (v0) (v1) ((↑v0.length : Int)) (i : Int) (by simp only [xs05.t2, ix_lt, ix_nn, ix_nat, dec_t hi, cond_true, cond_false, hc, hx, Option.bind_some, wrap_succ (show i < 9223372036854775807 by omega), g0]), by rw [g1, Bool.false_or]⟩
  obtain ⟨r, g0, g1⟩ := key 0 (Nat.zero_le _)
  exact ⟨r, xs05.eq v0 v1 (by simp only [xs05.t]; exact g0), by simpa using g1⟩
theorem xs02_ok (v0 : List Int) (v1 : Int) (p : Int → Bool) (hl : v0.length ≤ 4611686018427387904) (hp : ∀ x, x ∈ v0 → xi0c (x) (v1) = some (p x)) : xs02 v0 v1 = some (v0.any p) := by
  obtain ⟨r, g0, g1⟩ := xs05_ok (v0) (v1) p hl hp
  exact xs02.eq v0 v1 (by simp only [xs02.t, g0, Option.bind_some, g1])
theorem xi0e_ok (v0 : List Int) (v1 : Int) (p : Int → Bool) (hl : v0.length ≤ 4611686018427387904) (hp : ∀ x, x ∈ v0 → impl_areColumns_1 ((x)) ((v1)) = some (p x)) : xi0e v0 v1 = some (v0.all p) := by
  have g := xs02_ok (v0) (v1) (fun x => !p x) hl (fun x hx => xi0c.eq (x) (v1) (by simp only [xi0c.t, hp x hx, Option.bind_some]))
  exact xi0e.eq v0 v1 (by simp only [xi0e.t, g, Option.bind_some, List.all_eq_not_any_not])
theorem xs06_ok (v0 : List (List Int)) (v1 : Int) (v2 : Int) (p : List Int → Bool) (hl : v0.length ≤ 4611686018427387904) (hp : ∀ x, x ∈ v0 → xi0d (x) (v1) (v2) = some (p x)) : ∃ r : Int, xs06 v0 v1 v2 = some r ∧ decide (r ≥ 0) = v0.any p := by
  have key : ∀ i, i ≤ v0.length → ∃ r : Int, xs06.l2 (v0) (v1) (v2) ((↑v0.length : Int)) (i : Int) = some r ∧ decide (r ≥ 0) = (v0.drop i).any p := by
    refine upto ?_ ?_
    · exact ⟨-1, xs06.eq2 (v0) (v1) (v2) ((↑v0.length : Int)) (v0.length : Int) (by simp only [xs06.t2, ix_lt, Nat.lt_irrefl, decide_false, cond_false]), by simp⟩
    · intro i hi ih
      have hc := hp _ (getD_mem [] hi)
      rw [drop_getD [] hi, List.any_cons]
      cases hx : p (v0.getD i []) with
      | true => exact ⟨i, xs06.eq2 (v0) (v1) (v2) ((↑v0.length : Int)) (i : Int) (by simp only [xs06.t2, ix_lt, ix_nn, ix_nat, dec_t hi, cond_true, hc, hx, Option.bind_some]), by simp⟩
      | false =>
        obtain ⟨r, g0, g1⟩ := ih
        exact ⟨r, xs06.eq2 (v0) (v1) (v2) ((↑v0.length : Int)) (i : Int) (by simp only [xs06.t2, ix_lt, ix_nn, ix_nat, dec_t hi, cond_true, cond_false, hc, hx, Option.bind_some, wrap_succ (show i < 9223372036854775807 by omega), g0]), by rw [g1, Bool.false_or]⟩
  obtain ⟨r, g0, g1⟩ := key 0 (Nat.zero_le _)
  exact ⟨r, xs06.eq v0 v1 v2 (by simp only [xs06.t]; exact g0), by simpa using g1⟩
theorem xs03_ok (v0 : List (List Int)) (v1 : Int) (v2 : Int) (p : List Int → Bool) (hl : v0.length ≤ 4611686018427387904) (hp : ∀ x, x ∈ v0 → xi0d (x) (v1) (v2) = some (p x)) : xs03 v0 v1 v2 = some (v0.any p) := by
  obtain ⟨r, g0, g1⟩ := xs06_ok (v0) (v1) (v2) p hl hp
  exact xs03.eq v0 v1 v2 (by simp only [xs03.t, g0, Option.bind_some, g1])
theorem xi0h_ok (v0 : List (List Int)) (v1 : Int) (v2 : Int) (p : List Int → Bool) (hl : v0.length ≤ 4611686018427387904) (hp : ∀ x, x ∈ v0 → impl_arePairs_1 ((x)) ((v1)) ((v2)) = some (p x)) : xi0h v0 v1 v2 = some (v0.all p) := by
  have g := xs03_ok (v0) (v1) (v2) (fun x => !p x) hl (fun x hx => xi0d.eq (x) (v1) (v2) (by simp only [xi0d.t, hp x hx, Option.bind_some]))
  exact xi0h.eq v0 v1 v2 (by simp only [xi0h.t, g, Option.bind_some, List.all_eq_not_any_not])
theorem xs0a_ok (v0 : List (List Int)) (v1 : Int) (p : List Int → Bool) (hl : v0.length ≤ 4611686018427387904) (hp : ∀ x, x ∈ v0 → impl_unpaired_1 (x) (v1) = some (p x)) : ∃ r : Int, xs0a v0 v1 = some r ∧ decide (r ≥ 0) = v0.any p := by
  have key : ∀ i, i ≤ v0.length → ∃ r : Int, xs0a.l2 (v0) (v1) ((↑v0.length : Int)) (i : Int) = some r ∧ decide (r ≥ 0) = (v0.drop i).any p := by
    refine upto ?_ ?_
    · exact ⟨-1, xs0a.eq2 (v0) (v1) ((↑v0.length : Int)) (v0.length : Int) (by simp only [xs0a.t2, ix_lt, Nat.lt_irrefl, decide_false, cond_false]), by simp⟩
    · intro i hi ih
      have hc := hp _ (getD_mem [] hi)
      rw [drop_getD [] hi, List.any_cons]
      cases hx : p (v0.getD i []) with
      | true => exact ⟨i, xs0a.eq2 (v0) (v1) ((↑v0.length : Int)) (i : Int) (by simp only [xs0a.t2, ix_lt, ix_nn, ix_nat, dec_t hi, cond_true, hc, hx, Option.bind_some]), by simp⟩
      | false =>
        obtain ⟨r, g0, g1⟩ := ih
        exact ⟨r, xs0a.eq2 (v0) (v1) ((↑v0.length : Int)) (i : Int) (by simp only [xs0a.t2, ix_lt, ix_nn, ix_nat, dec_t hi, cond_true, cond_false, hc, hx, Option.bind_some, wrap_succ (show i < 9223372036854775807 by omega), g0]), by rw [g1, Bool.false_or]⟩
  obtain ⟨r, g0, g1⟩ := key 0 (Nat.zero_le _)
  exact ⟨r, xs0a.eq v0 v1 (by simp only [xs0a.t]; exact g0), by simpa using g1⟩
theorem xs08_ok (v0 : List (List Int)) (v1 : Int) (p : List Int → Bool) (hl : v0.length ≤ 4611686018427387904) (hp : ∀ x, x ∈ v0 → impl_unpaired_1 (x) (v1) = some (p x)) : xs08 v0 v1 = some (v0.any p) := by
  obtain ⟨r, g0, g1⟩ := xs0a_ok (v0) (v1) p hl hp
  exact xs08.eq v0 v1 (by simp only [xs08.t, g0, Option.bind_some, g1])
theorem laws_eqIntS_rf (v0 : List Int) (h : szT (.sl (.int .i64)) v0 ≤ 1073741824) : laws_eqIntS v0 v0 = some true := by
  have hlen : v0.length ≤ 1073741824 := Nat.le_trans (szT_len (t := (.int .i64))) h
  have key : ∀ i, i ≤ v0.length → laws_eqIntS.l4 v0 v0 (i : Int) = some true := by
    refine upto ?_ ?_
    · exact laws_eqIntS.eq4 v0 v0 (v0.length : Int) (by simp only [laws_eqIntS.t4, ix_lt, Nat.lt_irrefl, decide_false, cond_false])
    · intro i hi ih
      exact laws_eqIntS.eq4 v0 v0 (i : Int) (by simp only [laws_eqIntS.t4, ix_lt, ix_nn, ix_nat, dec_t hi, cond_true, cond_false, bne_ref, beq_ref, bang_t, wrap_succ (show i < 9223372036854775807 by omega), ih])
  exact laws_eqIntS.eq v0 v0 (by simp only [laws_eqIntS.t, bne_ref, cond_false]; exact key 0 (Nat.zero_le _))
theorem laws_eqTest_rf (v0 : Int) (v1 : Int) (v2 : Int) (h : szT (.pair (.int .i64) (.pair (.int .i64) (.int .i64))) (v0, (v1, v2)) ≤ 1073741824) : laws_eqTest v0 v1 v2 v0 v1 v2 = some true := by
  exact laws_eqTest.eq v0 v1 v2 v0 v1 v2 (by simp only [laws_eqTest.t, Option.bind_some, bne_ref, beq_ref, bang_t, cond_false])
theorem laws_eqTestS_rf (v0 : List (Int × Int × Int)) (h : szT (.sl (.pair (.int .i64) (.pair (.int .i64) (.int .i64)))) v0 ≤ 1073741824) : laws_eqTestS v0 v0 = some true := by
  have hlen : v0.length ≤ 1073741824 := Nat.le_trans (szT_len (t := (.pair (.int .i64) (.pair (.int .i64) (.int .i64))))) h
  have key : ∀ i, i ≤ v0.length → laws_eqTestS.l4 v0 v0 (i : Int) = some true := by
    refine upto ?_ ?_
    · exact laws_eqTestS.eq4 v0 v0 (v0.length : Int) (by simp only [laws_eqTestS.t4, ix_lt, Nat.lt_irrefl, decide_false, cond_false])
    · intro i hi ih
      have hc := laws_eqTest_rf ((v0.getD i ((0 : Int), (0 : Int), (0 : Int))).fst) ((v0.getD i ((0 : Int), (0 : Int), (0 : Int))).snd.fst) ((v0.getD i ((0 : Int), (0 : Int), (0 : Int))).snd.snd) (Nat.le_trans (szT_mem (t := (.pair (.int .i64) (.pair (.int .i64) (.int .i64)))) (getD_mem ((0 : Int), (0 : Int), (0 : Int)) hi)) h)
      exact laws_eqTestS.eq4 v0 v0 (i : Int) (by simp only [laws_eqTestS.t4, ix_lt, ix_nn, ix_nat, dec_t hi, cond_true, cond_false, bne_ref, beq_ref, bang_t, hc, Option.bind_some, bang_t, wrap_succ (show i < 9223372036854775807 by omega), ih])
  exact laws_eqTestS.eq v0 v0 (by simp only [laws_eqTestS.t, bne_ref, cond_false]; exact key 0 (Nat.zero_le _))
theorem laws_eqIntSS_rf (v0 : List (List Int)) (h : szT (.sl (.sl (.int .i64))) v0 ≤ 1073741824) : laws_eqIntSS v0 v0 = some true := by
  have hlen : v0.length ≤ 1073741824 := Nat.le_trans (szT_len (t := (.sl (.int .i64)))) h
  have key : ∀ i, i ≤ v0.length → laws_eqIntSS.l4 v0 v0 (i : Int) = some true := by
    refine upto ?_ ?_
    · exact laws_eqIntSS.eq4 v0 v0 (v0.length : Int) (by simp only [laws_eqIntSS.t4, ix_lt, Nat.lt_irrefl, decide_false, cond_false])
    · intro i hi ih
      have hc := laws_eqIntS_rf (v0.getD i []) (Nat.le_trans (szT_mem (t := (.sl (.int .i64))) (getD_mem [] hi)) h)
      exact laws_eqIntSS.eq4 v0 v0 (i : Int) (by simp only [laws_eqIntSS.t4, ix_lt, ix_nn, ix_nat, dec_t hi, cond_true, cond_false, bne_ref, beq_ref, bang_t, hc, Option.bind_some, bang_t, wrap_succ (show i < 9223372036854775807 by omega), ih])
  exact laws_eqIntSS.eq v0 v0 (by simp only [laws_eqIntSS.t, bne_ref, cond_false]; exact key 0 (Nat.zero_le _))
theorem laws_eqPart_rf (v0 : Int) (v1 : Int) (v2 : Int) (v3 : List (Int × Int × Int)) (v4 : List Int) (v5 : List (List Int)) (h : szT (.pair (.int .i64) (.pair (.int .i64) (.pair (.int .i64) (.pair (.sl (.pair (.int .i64) (.pair (.int .i64) (.int .i64)))) (.pair (.sl (.int .i64)) (.sl (.sl (.int .i64)))))))) (v0, (v1, (v2, (v3, (v4, v5))))) ≤ 1073741824) : laws_eqPart v0 v1 v2 v3 v4 v5 v0 v1 v2 v3 v4 v5 = some true := by
  have e1 := laws_eqTestS_rf v3 (by simp only [szT] at h ⊢; omega)
  have e2 := laws_eqIntS_rf v4 (by simp only [szT] at h ⊢; omega)
  have e3 := laws_eqIntSS_rf v5 (by simp only [szT] at h ⊢; omega)
  exact laws_eqPart.eq v0 v1 v2 v3 v4 v5 v0 v1 v2 v3 v4 v5 (by simp only [laws_eqPart.t, e1, e2, e3, Option.bind_some, bne_ref, beq_ref, bang_t, cond_false])
theorem laws_eqPartS_rf (v0 : List (Int × Int × Int × List (Int × Int × Int) × List Int × List (List Int))) (h : szT (.sl (.pair (.int .i64) (.pair (.int .i64) (.pair (.int .i64) (.pair (.sl (.pair (.int .i64) (.pair (.int .i64) (.int .i64)))) (.pair (.sl (.int .i64)) (.sl (.sl (.int .i64))))))))) v0 ≤ 1073741824) : laws_eqPartS v0 v0 = some true := by
  have hlen : v0.length ≤ 1073741824 := Nat.le_trans (szT_len (t := (.pair (.int .i64) (.pair (.int .i64) (.pair (.int .i64) (.pair (.sl (.pair (.int .i64) (.pair (.int .i64) (.int .i64)))) (.pair (.sl (.int .i64)) (.sl (.sl (.int .i64)))))))))) h
  have key : ∀ i, i ≤ v0.length → laws_eqPartS.l4 v0 v0 (i : Int) = some true := by
    refine upto ?_ ?_
    · exact laws_eqPartS.eq4 v0 v0 (v0.length : Int) (by simp only [laws_eqPartS.t4, ix_lt, Nat.lt_irrefl, decide_false, cond_false])
    · intro i hi ih
      have hc := laws_eqPart_rf ((v0.getD i ((0 : Int), (0 : Int), (0 : Int), [], [], [])).fst) ((v0.getD i ((0 : Int), (0 : Int), (0 : Int), [], [], [])).snd.fst) ((v0.getD i ((0 : Int), (0 : Int), (0 : Int), [], [], [])).snd.snd.fst) ((v0.getD i ((0 : Int), (0 : Int), (0 : Int), [], [], [])).snd.snd.snd.fst) ((v0.getD i ((0 : Int), (0 : Int), (0 : Int), [], [], [])).snd.snd.snd.snd.fst) ((v0.getD i ((0 : Int), (0 : Int), (0 : Int), [], [], [])).snd.snd.snd.snd.snd) (Nat.le_trans (szT_mem (t := (.pair (.int .i64) (.pair (.int .i64) (.pair (.int .i64) (.pair (.sl (.pair (.int .i64) (.pair (.int .i64) (.int .i64)))) (.pair (.sl (.int .i64)) (.sl (.sl (.int .i64))))))))) (getD_mem ((0 : Int), (0 : Int), (0 : Int), [], [], []) hi)) h)
      exact laws_eqPartS.eq4 v0 v0 (i : Int) (by simp only [laws_eqPartS.t4, ix_lt, ix_nn, ix_nat, dec_t hi, cond_true, cond_false, bne_ref, beq_ref, bang_t, hc, Option.bind_some, bang_t, wrap_succ (show i < 9223372036854775807 by omega), ih])
  exact laws_eqPartS.eq v0 v0 (by simp only [laws_eqPartS.t, bne_ref, cond_false]; exact key 0 (Nat.zero_le _))
theorem laws_eqView_rf (v0 : List Int) (v1 : List (Int × Int × Int × List (Int × Int × Int) × List Int × List (List Int))) (h : szT (.pair (.sl (.int .i64)) (.sl (.pair (.int .i64) (.pair (.int .i64) (.pair (.int .i64) (.pair (.sl (.pair (.int .i64) (.pair (.int .i64) (.int .i64)))) (.pair (.sl (.int .i64)) (.sl (.sl (.int .i64)))))))))) (v0, v1) ≤ 1073741824) : laws_eqView v0 v1 v0 v1 = some true := by
  have e1 := laws_eqIntS_rf v0 (by simp only [szT] at h ⊢; omega)
  have e2 := laws_eqPartS_rf v1 (by simp only [szT] at h ⊢; omega)
  exact laws_eqView.eq v0 v1 v0 v1 (by simp only [laws_eqView.t, e1, e2, Option.bind_some, bne_ref, beq_ref, bang_t, cond_false])
theorem laws_markIntS_83f_ok (v0 : List Int) (v1 : Int) (h0 : 0 ≤ v1) (h1 : v1 + (cntT (.sl (.int .i64)) v0 : Int) ≤ 4611686018427387904) (h2 : szT (.sl (.int .i64)) v0 ≤ 1073741824) : laws_markIntS_83f v0 v1 = some ((mrL (mrE (.int .i64)) v0 v1).2, (mrL (mrE (.int .i64)) v0 v1).1) := by
  have key : ∀ (rest pre : List Int) (k : Int), 0 ≤ k → k + (cntT (.sl (.int .i64)) rest : Int) ≤ 4611686018427387904 → pre.length + szT (.sl (.int .i64)) rest ≤ 1073741824 →
      laws_markIntS_83f.l2 (pre ++ rest) k (pre.length : Int) = some ((mrL (mrE (.int .i64)) rest k).2, pre ++ (mrL (mrE (.int .i64)) rest k).1) := by
    intro rest
    induction rest with
    | nil =>
      intro pre k _ _ _
      exact laws_markIntS_83f.eq2 _ _ _ (by simp only [laws_markIntS_83f.t2, List.append_nil, ix_lt, Nat.lt_irrefl, decide_false, cond_false, mrL_nil])
    | cons x r ih =>
      intro pre k hk hb hl
      rw [cnt_cons] at hb
      simp only [cntT] at hb
      simp only [szT, List.length_cons, List.map_cons, List.sum_cons] at hl
      have g := ih (pre ++ [(mrE (.int .i64) x k).1]) (mrE (.int .i64) x k).2 (by rw [mrE_cnt]; omega) (by rw [mrE_cnt]; simp only [cntT] at hb ⊢; omega) (by simp only [szT, List.length_append, List.length_cons, List.length_nil] at hl ⊢; omega)
      refine laws_markIntS_83f.eq2 _ _ _ ?_
      simp only [mrL_cons, mrE_int, mrE_bool, mrE_sl, mrE_pair]
      simp only [laws_markIntS_83f.t2, lenI_mid, ix_nn, ix_nat, len_mid, set_mid, getD_mid, cond_true, cond_false, bne_ref, beq_ref, bang_t, wrap_k (k := k) (by omega) (by omega), wrap_succ (show pre.length < 9223372036854775807 by omega), Option.bind_some, dec_rfl, Bool.and_true]
      rw [push_mid]
      simpa [mrE_int, mrE_bool, mrE_sl, mrE_pair] using g
  exact laws_markIntS_83f.eq v0 v1 (by simp only [laws_markIntS_83f.t]; exact key v0 [] v1 h0 h1 (by simpa using h2))
theorem laws_markIntSS_1f6_ok (v0 : List (List Int)) (v1 : Int) (h0 : 0 ≤ v1) (h1 : v1 + (cntT (.sl (.sl (.int .i64))) v0 : Int) ≤ 4611686018427387904) (h2 : szT (.sl (.sl (.int .i64))) v0 ≤ 1073741824) : laws_markIntSS_1f6 v0 v1 = some ((mrL (mrE (.sl (.int .i64))) v0 v1).2, (mrL (mrE (.sl (.int .i64))) v0 v1).1) := by
  have key : ∀ (rest pre : List (List Int)) (k : Int), 0 ≤ k → k + (cntT (.sl (.sl (.int .i64))) rest : Int) ≤ 4611686018427387904 → pre.length + szT (.sl (.sl (.int .i64))) rest ≤ 1073741824 →
      laws_markIntSS_1f6.l2 (pre ++ rest) k (pre.length : Int) = some ((mrL (mrE (.sl (.int .i64))) rest k).2, pre ++ (mrL (mrE (.sl (.int .i64))) rest k).1) := by
    intro rest
    induction rest with
    | nil =>
      intro pre k _ _ _
      exact laws_markIntSS_1f6.eq2 _ _ _ (by simp only [laws_markIntSS_1f6.t2, List.append_nil, ix_lt, Nat.lt_irrefl, decide_false, cond_false, mrL_nil])
    | cons x r ih =>
      intro pre k hk hb hl
      rw [cnt_cons] at hb
      simp only [cntT] at hb
      simp only [szT, List.length_cons, List.map_cons, List.sum_cons] at hl
      have n1 := mrL_cnt (t := (.int .i64)) x k
      simp only [cntT] at n1
      have c1 := laws_markIntS_83f_ok x k (by omega) (by simp only [cntT]; omega) (by simp only [szT]; omega)
      have g := ih (pre ++ [(mrE (.sl (.int .i64)) x k).1]) (mrE (.sl (.int .i64)) x k).2 (by rw [mrE_cnt]; omega) (by rw [mrE_cnt]; simp only [cntT] at hb ⊢; omega) (by simp only [szT, List.length_append, List.length_cons, List.length_nil] at hl ⊢; omega)
      refine laws_markIntSS_1f6.eq2 _ _ _ ?_
      simp only [mrL_cons, mrE_int, mrE_bool, mrE_sl, mrE_pair]
      simp only [laws_markIntSS_1f6.t2, lenI_mid, ix_nn, ix_nat, len_mid, set_mid, getD_mid, cond_true, cond_false, bne_ref, beq_ref, bang_t, c1, wrap_succ (show pre.length < 9223372036854775807 by omega), Option.bind_some, dec_rfl, Bool.and_true]
      rw [push_mid]
      simpa [mrE_int, mrE_bool, mrE_sl, mrE_pair] using g
  exact laws_markIntSS_1f6.eq v0 v1 (by simp only [laws_markIntSS_1f6.t]; exact key v0 [] v1 h0 h1 (by simpa using h2))
theorem laws_markTestS_5b1_ok (v0 : List (Int × Int × Int)) (v1 : Int) (h0 : 0 ≤ v1) (h1 : v1 + (cntT (.sl (.pair (.int .i64) (.pair (.int .i64) (.int .i64)))) v0 : Int) ≤ 4611686018427387904) (h2 : szT (.sl (.pair (.int .i64) (.pair (.int .i64) (.int .i64)))) v0 ≤ 1073741824) : laws_markTestS_5b1 v0 v1 = some ((mrL (mrE (.pair (.int .i64) (.pair (.int .i64) (.int .i64)))) v0 v1).2, (mrL (mrE (.pair (.int .i64) (.pair (.int .i64) (.int .i64)))) v0 v1).1) := by
  have key : ∀ (rest pre : List (Int × Int × Int)) (k : Int), 0 ≤ k → k + (cntT (.sl (.pair (.int .i64) (.pair (.int .i64) (.int .i64)))) rest : Int) ≤ 4611686018427387904 → pre.length + szT (.sl (.pair (.int .i64) (.pair (.int .i64) (.int .i64)))) rest ≤ 1073741824 →
      laws_markTestS_5b1.l2 (pre ++ rest) k (pre.length : Int) = some ((mrL (mrE (.pair (.int .i64) (.pair (.int .i64) (.int .i64)))) rest k).2, pre ++ (mrL (mrE (.pair (.int .i64) (.pair (.int .i64) (.int .i64)))) rest k).1) := by
    intro rest
    induction rest with
    | nil =>
      intro pre k _ _ _
      exact laws_markTestS_5b1.eq2 _ _ _ (by simp only [laws_markTestS_5b1.t2, List.append_nil, ix_lt, Nat.lt_irrefl, decide_false, cond_false, mrL_nil])
    | cons x r ih =>
      intro pre k hk hb hl
      rw [cnt_cons] at hb
      simp only [cntT] at hb
      simp only [szT, List.length_cons, List.map_cons, List.sum_cons] at hl
      have g := ih (pre ++ [(mrE (.pair (.int .i64) (.pair (.int .i64) (.int .i64))) x k).1]) (mrE (.pair (.int .i64) (.pair (.int .i64) (.int .i64))) x k).2 (by rw [mrE_cnt]; omega) (by rw [mrE_cnt]; simp only [cntT] at hb ⊢; omega) (by simp only [szT, List.length_append, List.length_cons, List.length_nil] at hl ⊢; omega)
      refine laws_markTestS_5b1.eq2 _ _ _ ?_
      simp only [mrL_cons, mrE_int, mrE_bool, mrE_sl, mrE_pair]
      simp only [laws_markTestS_5b1.t2, lenI_mid, ix_nn, ix_nat, len_mid, set_mid, getD_mid, cond_true, cond_false, bne_ref, beq_ref, bang_t, wrap_k (k := k) (by omega) (by omega), wrap_k (k := (k + 1)) (by omega) (by omega), wrap_k (k := ((k + 1) + 1)) (by omega) (by omega), wrap_succ (show pre.length < 9223372036854775807 by omega), Option.bind_some, dec_rfl, Bool.and_true]
      rw [push_mid]
      simpa [mrE_int, mrE_bool, mrE_sl, mrE_pair] using g
  exact laws_markTestS_5b1.eq v0 v1 (by simp only [laws_markTestS_5b1.t]; exact key v0 [] v1 h0 h1 (by simpa using h2))
theorem laws_markPartS_6b8_ok (v0 : List (Int × Int × Int × List (Int × Int × Int) × List Int × List (List Int))) (v1 : Int) (h0 : 0 ≤ v1) (h1 : v1 + (cntT (.sl (.pair (.int .i64) (.pair (.int .i64) (.pair (.int .i64) (.pair (.sl (.pair (.int .i64) (.pair (.int .i64) (.int .i64)))) (.pair (.sl (.int .i64)) (.sl (.sl (.int .i64))))))))) v0 : Int) ≤ 4611686018427387904) (h2 : szT (.sl (.pair (.int .i64) (.pair (.int .i64) (.pair (.int .i64) (.pair (.sl (.pair (.int .i64) (.pair (.int .i64) (.int .i64)))) (.pair (.sl (.int .i64)) (.sl (.sl (.int .i64))))))))) v0 ≤ 1073741824) : laws_markPartS_6b8 v0 v1 = some ((mrL (mrE (.pair (.int .i64) (.pair (.int .i64) (.pair (.int .i64) (.pair (.sl (.pair (.int .i64) (.pair (.int .i64) (.int .i64)))) (.pair (.sl (.int .i64)) (.sl (.sl (.int .i64))))))))) v0 v1).2, (mrL (mrE (.pair (.int .i64) (.pair (.int .i64) (.pair (.int .i64) (.pair (.sl (.pair (.int .i64) (.pair (.int .i64) (.int .i64)))) (.pair (.sl (.int .i64)) (.sl (.sl (.int .i64))))))))) v0 v1).1) := by
  have key : ∀ (rest pre : List (Int × Int × Int × List (Int × Int × Int) × List Int × List (List Int))) (k : Int), 0 ≤ k → k + (cntT (.sl (.pair (.int .i64) (.pair (.int .i64) (.pair (.int .i64) (.pair (.sl (.pair (.int .i64) (.pair (.int .i64) (.int .i64)))) (.pair (.sl (.int .i64)) (.sl (.sl (.int .i64))))))))) rest : Int) ≤ 4611686018427387904 → pre.length + szT (.sl (.pair (.int .i64) (.pair (.int .i64) (.pair (.int .i64) (.pair (.sl (.pair (.int .i64) (.pair (.int .i64) (.int .i64)))) (.pair (.sl (.int .i64)) (.sl (.sl (.int .i64))))))))) rest ≤ 1073741824 →
      laws_markPartS_6b8.l2 (pre ++ rest) k (pre.length : Int) = some ((mrL (mrE (.pair (.int .i64) (.pair (.int .i64) (.pair (.int .i64) (.pair (.sl (.pair (.int .i64) (.pair (.int .i64) (.int .i64)))) (.pair (.sl (.int .i64)) (.sl (.sl (.int .i64))))))))) rest k).2, pre ++ (mrL (mrE (.pair (.int .i64) (.pair (.int .i64) (.pair (.int .i64) (.pair (.sl (.pair (.int .i64) (.pair (.int .i64) (.int .i64)))) (.pair (.sl (.int .i64)) (.sl (.sl (.int .i64))))))))) rest k).1) := by
    intro rest
    induction rest with
    | nil =>
      intro pre k _ _ _
      exact laws_markPartS_6b8.eq2 _ _ _ (by simp only [laws_markPartS_6b8.t2, List.append_nil, ix_lt, Nat.lt_irrefl, decide_false, cond_false, mrL_nil])
    | cons x r ih =>
      intro pre k hk hb hl
      rw [cnt_cons] at hb
      simp only [cntT] at hb
      simp only [szT, List.length_cons, List.map_cons, List.sum_cons] at hl
      have n1 := mrL_cnt (t := (.pair (.int .i64) (.pair (.int .i64) (.int .i64)))) x.2.2.2.1 (((k + 1) + 1) + 1)
      simp only [cntT] at n1
      have c1 := laws_markTestS_5b1_ok x.2.2.2.1 (((k + 1) + 1) + 1) (by omega) (by simp only [cntT]; omega) (by simp only [szT]; omega)
      have n2 := mrL_cnt (t := (.int .i64)) x.2.2.2.2.1 (mrL (mrE (.pair (.int .i64) (.pair (.int .i64) (.int .i64)))) x.2.2.2.1 (((k + 1) + 1) + 1)).2
      simp only [cntT] at n2
      have c2 := laws_markIntS_83f_ok x.2.2.2.2.1 (mrL (mrE (.pair (.int .i64) (.pair (.int .i64) (.int .i64)))) x.2.2.2.1 (((k + 1) + 1) + 1)).2 (by omega) (by simp only [cntT]; omega) (by simp only [szT]; omega)
      have n3 := mrL_cnt (t := (.sl (.int .i64))) x.2.2.2.2.2 (mrL (mrE (.int .i64)) x.2.2.2.2.1 (mrL (mrE (.pair (.int .i64) (.pair (.int .i64) (.int .i64)))) x.2.2.2.1 (((k + 1) + 1) + 1)).2).2
      simp only [cntT] at n3
      have c3 := laws_markIntSS_1f6_ok x.2.2.2.2.2 (mrL (mrE (.int .i64)) x.2.2.2.2.1 (mrL (mrE (.pair (.int .i64) (.pair (.int .i64) (.int .i64)))) x.2.2.2.1 (((k + 1) + 1) + 1)).2).2 (by omega) (by simp only [cntT]; omega) (by simp only [szT]; omega)
      have g := ih (pre ++ [(mrE (.pair (.int .i64) (.pair (.int .i64) (.pair (.int .i64) (.pair (.sl (.pair (.int .i64) (.pair (.int .i64) (.int .i64)))) (.pair (.sl (.int .i64)) (.sl (.sl (.int .i64)))))))) x k).1]) (mrE (.pair (.int .i64) (.pair (.int .i64) (.pair (.int .i64) (.pair (.sl (.pair (.int .i64) (.pair (.int .i64) (.int .i64)))) (.pair (.sl (.int .i64)) (.sl (.sl (.int .i64)))))))) x k).2 (by rw [mrE_cnt]; omega) (by rw [mrE_cnt]; simp only [cntT] at hb ⊢; omega) (by simp only [szT, List.length_append, List.length_cons, List.length_nil] at hl ⊢; omega)
      refine laws_markPartS_6b8.eq2 _ _ _ ?_
      simp only [mrL_cons, mrE_int, mrE_bool, mrE_sl, mrE_pair]
      simp only [laws_markPartS_6b8.t2, lenI_mid, ix_nn, ix_nat, len_mid, set_mid, getD_mid, cond_true, cond_false, bne_ref, beq_ref, bang_t, wrap_k (k := k) (by omega) (by omega), wrap_k (k := (k + 1)) (by omega) (by omega), wrap_k (k := ((k + 1) + 1)) (by omega) (by omega), c1, c2, c3, wrap_succ (show pre.length < 9223372036854775807 by omega), Option.bind_some, dec_rfl, Bool.and_true]
      refine laws_markPartS_6b8.eq2000004 _ _ _ ?_
      simp only [laws_markPartS_6b8.t2000004, lenI_mid, ix_nn, ix_nat, len_mid, set_mid, getD_mid, cond_true, cond_false, bne_ref, beq_ref, bang_t, wrap_k (k := k) (by omega) (by omega), wrap_k (k := (k + 1)) (by omega) (by omega), wrap_k (k := ((k + 1) + 1)) (by omega) (by omega), c1, c2, c3, wrap_succ (show pre.length < 9223372036854775807 by omega), Option.bind_some, dec_rfl, Bool.and_true]
      refine laws_markPartS_6b8.eq2000005 _ _ _ ?_
      simp only [laws_markPartS_6b8.t2000005, lenI_mid, ix_nn, ix_nat, len_mid, set_mid, getD_mid, cond_true, cond_false, bne_ref, beq_ref, bang_t, wrap_k (k := k) (by omega) (by omega), wrap_k (k := (k + 1)) (by omega) (by omega), wrap_k (k := ((k + 1) + 1)) (by omega) (by omega), c1, c2, c3, wrap_succ (show pre.length < 9223372036854775807 by omega), Option.bind_some, dec_rfl, Bool.and_true]
      refine laws_markPartS_6b8.eq2000006 _ _ _ ?_
      simp only [laws_markPartS_6b8.t2000006, lenI_mid, ix_nn, ix_nat, len_mid, set_mid, getD_mid, cond_true, cond_false, bne_ref, beq_ref, bang_t, wrap_k (k := k) (by omega) (by omega), wrap_k (k := (k + 1)) (by omega) (by omega), wrap_k (k := ((k + 1) + 1)) (by omega) (by omega), c1, c2, c3, wrap_succ (show pre.length < 9223372036854775807 by omega), Option.bind_some, dec_rfl, Bool.and_true]
      refine laws_markPartS_6b8.eq2000007 _ _ _ ?_
      simp only [laws_markPartS_6b8.t2000007, lenI_mid, ix_nn, ix_nat, len_mid, set_mid, getD_mid, cond_true, cond_false, bne_ref, beq_ref, bang_t, wrap_k (k := k) (by omega) (by omega), wrap_k (k := (k + 1)) (by omega) (by omega), wrap_k (k := ((k + 1) + 1)) (by omega) (by omega), c1, c2, c3, wrap_succ (show pre.length < 9223372036854775807 by omega), Option.bind_some, dec_rfl, Bool.and_true]
      refine laws_markPartS_6b8.eq2000008 _ _ _ ?_
      simp only [laws_markPartS_6b8.t2000008, lenI_mid, ix_nn, ix_nat, len_mid, set_mid, getD_mid, cond_true, cond_false, bne_ref, beq_ref, bang_t, wrap_k (k := k) (by omega) (by omega), wrap_k (k := (k + 1)) (by omega) (by omega), wrap_k (k := ((k + 1) + 1)) (by omega) (by omega), c1, c2, c3, wrap_succ (show pre.length < 9223372036854775807 by omega), Option.bind_some, dec_rfl, Bool.and_true]
      refine laws_markPartS_6b8.eq2000009 _ _ _ ?_
      simp only [laws_markPartS_6b8.t2000009, lenI_mid, ix_nn, ix_nat, len_mid, set_mid, getD_mid, cond_true, cond_false, bne_ref, beq_ref, bang_t, wrap_k (k := k) (by omega) (by omega), wrap_k (k := (k + 1)) (by omega) (by omega), wrap_k (k := ((k + 1) + 1)) (by omega) (by omega), c1, c2, c3, wrap_succ (show pre.length < 9223372036854775807 by omega), Option.bind_some, dec_rfl, Bool.and_true]
      refine laws_markPartS_6b8.eq2000010 _ _ _ ?_
      simp only [laws_markPartS_6b8.t2000010, lenI_mid, ix_nn, ix_nat, len_mid, set_mid, getD_mid, cond_true, cond_false, bne_ref, beq_ref, bang_t, wrap_k (k := k) (by omega) (by omega), wrap_k (k := (k + 1)) (by omega) (by omega), wrap_k (k := ((k + 1) + 1)) (by omega) (by omega), c1, c2, c3, wrap_succ (show pre.length < 9223372036854775807 by omega), Option.bind_some, dec_rfl, Bool.and_true]
      refine laws_markPartS_6b8.eq2000011 _ _ _ ?_
      simp only [laws_markPartS_6b8.t2000011, lenI_mid, ix_nn, ix_nat, len_mid, set_mid, getD_mid, cond_true, cond_false, bne_ref, beq_ref, bang_t, wrap_k (k := k) (by omega) (by omega), wrap_k (k := (k + 1)) (by omega) (by omega), wrap_k (k := ((k + 1) + 1)) (by omega) (by omega), c1, c2, c3, wrap_succ (show pre.length < 9223372036854775807 by omega), Option.bind_some, dec_rfl, Bool.and_true]
      refine laws_markPartS_6b8.eq2000012 _ _ _ ?_
      simp only [laws_markPartS_6b8.t2000012, lenI_mid, ix_nn, ix_nat, len_mid, set_mid, getD_mid, cond_true, cond_false, bne_ref, beq_ref, bang_t, wrap_k (k := k) (by omega) (by omega), wrap_k (k := (k + 1)) (by omega) (by omega), wrap_k (k := ((k + 1) + 1)) (by omega) (by omega), c1, c2, c3, wrap_succ (show pre.length < 9223372036854775807 by omega), Option.bind_some, dec_rfl, Bool.and_true]
      refine laws_markPartS_6b8.eq2000003 _ _ _ ?_
      simp only [laws_markPartS_6b8.t2000003, lenI_mid, ix_nn, ix_nat, len_mid, set_mid, getD_mid, cond_true, cond_false, bne_ref, beq_ref, bang_t, wrap_k (k := k) (by omega) (by omega), wrap_k (k := (k + 1)) (by omega) (by omega), wrap_k (k := ((k + 1) + 1)) (by omega) (by omega), c1, c2, c3, wrap_succ (show pre.length < 9223372036854775807 by omega), Option.bind_some, dec_rfl, Bool.and_true]
      rw [push_mid]
      simpa [mrE_int, mrE_bool, mrE_sl, mrE_pair] using g
  exact laws_markPartS_6b8.eq v0 v1 (by simp only [laws_markPartS_6b8.t]; exact key v0 [] v1 h0 h1 (by simpa using h2))
theorem laws_markView_311_ok (v0 : List Int) (v1 : List (Int × Int × Int × List (Int × Int × Int) × List Int × List (List Int))) (v2 : Int) (h0 : 0 ≤ v2) (h1 : v2 + (cntT (.pair (.sl (.int .i64)) (.sl (.pair (.int .i64) (.pair (.int .i64) (.pair (.int .i64) (.pair (.sl (.pair (.int .i64) (.pair (.int .i64) (.int .i64)))) (.pair (.sl (.int .i64)) (.sl (.sl (.int .i64)))))))))) (v0, v1) : Int) ≤ 4611686018427387904) (h2 : szT (.pair (.sl (.int .i64)) (.sl (.pair (.int .i64) (.pair (.int .i64) (.pair (.int .i64) (.pair (.sl (.pair (.int .i64) (.pair (.int .i64) (.int .i64)))) (.pair (.sl (.int .i64)) (.sl (.sl (.int .i64)))))))))) (v0, v1) ≤ 1073741824) : laws_markView_311 v0 v1 v2 = some ((mrT (.pair (.sl (.int .i64)) (.sl (.pair (.int .i64) (.pair (.int .i64) (.pair (.int .i64) (.pair (.sl (.pair (.int .i64) (.pair (.int .i64) (.int .i64)))) (.pair (.sl (.int .i64)) (.sl (.sl (.int .i64)))))))))) (v0, v1) v2).2, (mrT (.pair (.sl (.int .i64)) (.sl (.pair (.int .i64) (.pair (.int .i64) (.pair (.int .i64) (.pair (.sl (.pair (.int .i64) (.pair (.int .i64) (.int .i64)))) (.pair (.sl (.int .i64)) (.sl (.sl (.int .i64)))))))))) (v0, v1) v2).1.1, (mrT (.pair (.sl (.int .i64)) (.sl (.pair (.int .i64) (.pair (.int .i64) (.pair (.int .i64) (.pair (.sl (.pair (.int .i64) (.pair (.int .i64) (.int .i64)))) (.pair (.sl (.int .i64)) (.sl (.sl (.int .i64)))))))))) (v0, v1) v2).1.2) := by
  simp only [cntT] at h1
  simp only [szT] at h2
  have n1 := mrL_cnt (t := (.int .i64)) v0 v2
  have n1b := n1
  simp only [cntT] at n1b
  have c1 := laws_markIntS_83f_ok v0 v2 (by omega) (by simp only [cntT]; omega) (by simp only [szT]; omega)
  have n2 := mrL_cnt (t := (.pair (.int .i64) (.pair (.int .i64) (.pair (.int .i64) (.pair (.sl (.pair (.int .i64) (.pair (.int .i64) (.int .i64)))) (.pair (.sl (.int .i64)) (.sl (.sl (.int .i64))))))))) v1 (mrL (mrE (.int .i64)) v0 v2).2
  have n2b := n2
  simp only [cntT] at n2b
  have c2 := laws_markPartS_6b8_ok v1 (mrL (mrE (.int .i64)) v0 v2).2 (by omega) (by simp only [cntT]; omega) (by simp only [szT]; omega)
  try simp only [mrT] at c1 c2
  refine laws_markView_311.eq _ _ _ ?_
  simp only [laws_markView_311.t, mrT, c1, c2, Option.bind_some, cond_false]
theorem laws_heldIntS_ok (v0 : List Int) (v1 : Int) (h0 : 0 ≤ v1) (h1 : v1 + (cntT (.sl (.int .i64)) v0 : Int) ≤ 4611686018427387904) (h2 : szT (.sl (.int .i64)) v0 ≤ 1073741824) : laws_heldIntS (mrL (mrE (.int .i64)) v0 v1).1 v1 = some (mrL (mrE (.int .i64)) v0 v1).2 := by
  have key : ∀ (rest pre : List Int) (k : Int), 0 ≤ k → k + (cntT (.sl (.int .i64)) rest : Int) ≤ 4611686018427387904 → pre.length + szT (.sl (.int .i64)) rest ≤ 1073741824 →
      laws_heldIntS.l2 (pre ++ (mrL (mrE (.int .i64)) rest k).1) k (pre.length : Int) = some (mrL (mrE (.int .i64)) rest k).2 := by
    intro rest
    induction rest with
    | nil =>
      intro pre k _ _ _
      exact laws_heldIntS.eq2 _ _ _ (by simp only [laws_heldIntS.t2, List.append_nil, ix_lt, Nat.lt_irrefl, decide_false, cond_false, mrL_nil])
    | cons x r ih =>
      intro pre k hk hb hl
      rw [cnt_cons] at hb
      simp only [cntT] at hb
      simp only [szT, List.length_cons, List.map_cons, List.sum_cons] at hl
      have g := ih (pre ++ [(mrE (.int .i64) x k).1]) (mrE (.int .i64) x k).2 (by rw [mrE_cnt]; omega) (by rw [mrE_cnt]; simp only [cntT] at hb ⊢; omega) (by simp only [szT, List.length_append, List.length_cons, List.length_nil] at hl ⊢; omega)
      refine laws_heldIntS.eq2 _ _ _ ?_
      simp only [mrL_cons, mrE_int, mrE_bool, mrE_sl, mrE_pair]
      simp only [laws_heldIntS.t2, lenI_mid, ix_nn, ix_nat, len_mid, set_mid, getD_mid, cond_true, cond_false, bne_ref, beq_ref, bang_t, wrap_k (k := k) (by omega) (by omega), wrap_succ (show pre.length < 9223372036854775807 by omega), Option.bind_some, dec_rfl, Bool.and_true]
      rw [push_mid]
      simpa [mrE_int, mrE_bool, mrE_sl, mrE_pair] using g
  exact laws_heldIntS.eq _ v1 (by simp only [laws_heldIntS.t]; exact key v0 [] v1 h0 h1 (by simpa using h2))
theorem laws_heldTestS_ok (v0 : List (Int × Int × Int)) (v1 : Int) (h0 : 0 ≤ v1) (h1 : v1 + (cntT (.sl (.pair (.int .i64) (.pair (.int .i64) (.int .i64)))) v0 : Int) ≤ 4611686018427387904) (h2 : szT (.sl (.pair (.int .i64) (.pair (.int .i64) (.int .i64)))) v0 ≤ 1073741824) : laws_heldTestS (mrL (mrE (.pair (.int .i64) (.pair (.int .i64) (.int .i64)))) v0 v1).1 v1 = some (mrL (mrE (.pair (.int .i64) (.pair (.int .i64) (.int .i64)))) v0 v1).2 := by
  have key : ∀ (rest pre : List (Int × Int × Int)) (k : Int), 0 ≤ k → k + (cntT (.sl (.pair (.int .i64) (.pair (.int .i64) (.int .i64)))) rest : Int) ≤ 4611686018427387904 → pre.length + szT (.sl (.pair (.int .i64) (.pair (.int .i64) (.int .i64)))) rest ≤ 1073741824 →
      laws_heldTestS.l2 (pre ++ (mrL (mrE (.pair (.int .i64) (.pair (.int .i64) (.int .i64)))) rest k).1) k (pre.length : Int) = some (mrL (mrE (.pair (.int .i64) (.pair (.int .i64) (.int .i64)))) rest k).2 := by
    intro rest
    induction rest with
    | nil =>
      intro pre k _ _ _
      exact laws_heldTestS.eq2 _ _ _ (by simp only [laws_heldTestS.t2, List.append_nil, ix_lt, Nat.lt_irrefl, decide_false, cond_false, mrL_nil])
    | cons x r ih =>
      intro pre k hk hb hl
      rw [cnt_cons] at hb
      simp only [cntT] at hb
      simp only [szT, List.length_cons, List.map_cons, List.sum_cons] at hl
      have g := ih (pre ++ [(mrE (.pair (.int .i64) (.pair (.int .i64) (.int .i64))) x k).1]) (mrE (.pair (.int .i64) (.pair (.int .i64) (.int .i64))) x k).2 (by rw [mrE_cnt]; omega) (by rw [mrE_cnt]; simp only [cntT] at hb ⊢; omega) (by simp only [szT, List.length_append, List.length_cons, List.length_nil] at hl ⊢; omega)
      refine laws_heldTestS.eq2 _ _ _ ?_
      simp only [mrL_cons, mrE_int, mrE_bool, mrE_sl, mrE_pair]
      simp only [laws_heldTestS.t2, lenI_mid, ix_nn, ix_nat, len_mid, set_mid, getD_mid, cond_true, cond_false, bne_ref, beq_ref, bang_t, wrap_k (k := k) (by omega) (by omega), wrap_k (k := (k + 1)) (by omega) (by omega), wrap_k (k := ((k + 1) + 1)) (by omega) (by omega), wrap_succ (show pre.length < 9223372036854775807 by omega), Option.bind_some, dec_rfl, Bool.and_true]
      rw [push_mid]
      simpa [mrE_int, mrE_bool, mrE_sl, mrE_pair] using g
  exact laws_heldTestS.eq _ v1 (by simp only [laws_heldTestS.t]; exact key v0 [] v1 h0 h1 (by simpa using h2))
theorem laws_heldIntSS_ok (v0 : List (List Int)) (v1 : Int) (h0 : 0 ≤ v1) (h1 : v1 + (cntT (.sl (.sl (.int .i64))) v0 : Int) ≤ 4611686018427387904) (h2 : szT (.sl (.sl (.int .i64))) v0 ≤ 1073741824) : laws_heldIntSS (mrL (mrE (.sl (.int .i64))) v0 v1).1 v1 = some (mrL (mrE (.sl (.int .i64))) v0 v1).2 := by
  have key : ∀ (rest pre : List (List Int)) (k : Int), 0 ≤ k → k + (cntT (.sl (.sl (.int .i64))) rest : Int) ≤ 4611686018427387904 → pre.length + szT (.sl (.sl (.int .i64))) rest ≤ 1073741824 →
      laws_heldIntSS.l2 (pre ++ (mrL (mrE (.sl (.int .i64))) rest k).1) k (pre.length : Int) = some (mrL (mrE (.sl (.int .i64))) rest k).2 := by
    intro rest
    induction rest with
    | nil =>
      intro pre k _ _ _
      exact laws_heldIntSS.eq2 _ _ _ (by simp only [laws_heldIntSS.t2, List.append_nil, ix_lt, Nat.lt_irrefl, decide_false, cond_false, mrL_nil])
    | cons x r ih =>
      intro pre k hk hb hl
      rw [cnt_cons] at hb
      simp only [cntT] at hb
      simp only [szT, List.length_cons, List.map_cons, List.sum_cons] at hl
      have n1 := mrL_cnt (t := (.int .i64)) x k
      simp only [cntT] at n1
      have c1 := laws_heldIntS_ok x k (by omega) (by simp only [cntT]; omega) (by simp only [szT]; omega)
      have g1 : ¬ (mrL (mrE (.int .i64)) x k).2 < 0 := by omega
      have g := ih (pre ++ [(mrE (.sl (.int .i64)) x k).1]) (mrE (.sl (.int .i64)) x k).2 (by rw [mrE_cnt]; omega) (by rw [mrE_cnt]; simp only [cntT] at hb ⊢; omega) (by simp only [szT, List.length_append, List.length_cons, List.length_nil] at hl ⊢; omega)
      refine laws_heldIntSS.eq2 _ _ _ ?_
      simp only [mrL_cons, mrE_int, mrE_bool, mrE_sl, mrE_pair]
      simp only [laws_heldIntSS.t2, lenI_mid, ix_nn, ix_nat, len_mid, set_mid, getD_mid, cond_true, cond_false, bne_ref, beq_ref, bang_t, c1, dec_f g1, wrap_succ (show pre.length < 9223372036854775807 by omega), Option.bind_some, dec_rfl, Bool.and_true]
      rw [push_mid]
      simpa [mrE_int, mrE_bool, mrE_sl, mrE_pair] using g
  exact laws_heldIntSS.eq _ v1 (by simp only [laws_heldIntSS.t]; exact key v0 [] v1 h0 h1 (by simpa using h2))
theorem laws_heldPartS_ok (v0 : List (Int × Int × Int × List (Int × Int × Int) × List Int × List (List Int))) (v1 : Int) (h0 : 0 ≤ v1) (h1 : v1 + (cntT (.sl (.pair (.int .i64) (.pair (.int .i64) (.pair (.int .i64) (.pair (.sl (.pair (.int .i64) (.pair (.int .i64) (.int .i64)))) (.pair (.sl (.int .i64)) (.sl (.sl (.int .i64))))))))) v0 : Int) ≤ 4611686018427387904) (h2 : szT (.sl (.pair (.int .i64) (.pair (.int .i64) (.pair (.int .i64) (.pair (.sl (.pair (.int .i64) (.pair (.int .i64) (.int .i64)))) (.pair (.sl (.int .i64)) (.sl (.sl (.int .i64))))))))) v0 ≤ 1073741824) : laws_heldPartS (mrL (mrE (.pair (.int .i64) (.pair (.int .i64) (.pair (.int .i64) (.pair (.sl (.pair (.int .i64) (.pair (.int .i64) (.int .i64)))) (.pair (.sl (.int .i64)) (.sl (.sl (.int .i64))))))))) v0 v1).1 v1 = some (mrL (mrE (.pair (.int .i64) (.pair (.int .i64) (.pair (.int .i64) (.pair (.sl (.pair (.int .i64) (.pair (.int .i64) (.int .i64)))) (.pair (.sl (.int .i64)) (.sl (.sl (.int .i64))))))))) v0 v1).2 := by
  have key : ∀ (rest pre : List (Int × Int × Int × List (Int × Int × Int) × List Int × List (List Int))) (k : Int), 0 ≤ k → k + (cntT (.sl (.pair (.int .i64) (.pair (.int .i64) (.pair (.int .i64) (.pair (.sl (.pair (.int .i64) (.pair (.int .i64) (.int .i64)))) (.pair (.sl (.int .i64)) (.sl (.sl (.int .i64))))))))) rest : Int) ≤ 4611686018427387904 → pre.length + szT (.sl (.pair (.int .i64) (.pair (.int .i64) (.pair (.int .i64) (.pair (.sl (.pair (.int .i64) (.pair (.int .i64) (.int .i64)))) (.pair (.sl (.int .i64)) (.sl (.sl (.int .i64))))))))) rest ≤ 1073741824 →
      laws_heldPartS.l2 (pre ++ (mrL (mrE (.pair (.int .i64) (.pair (.int .i64) (.pair (.int .i64) (.pair (.sl (.pair (.int .i64) (.pair (.int .i64) (.int .i64)))) (.pair (.sl (.int .i64)) (.sl (.sl (.int .i64))))))))) rest k).1) k (pre.length : Int) = some (mrL (mrE (.pair (.int .i64) (.pair (.int .i64) (.pair (.int .i64) (.pair (.sl (.pair (.int .i64) (.pair (.int .i64) (.int .i64)))) (.pair (.sl (.int .i64)) (.sl (.sl (.int .i64))))))))) rest k).2 := by
    intro rest
    induction rest with
    | nil =>
      intro pre k _ _ _
      exact laws_heldPartS.eq2 _ _ _ (by simp only [laws_heldPartS.t2, List.append_nil, ix_lt, Nat.lt_irrefl, decide_false, cond_false, mrL_nil])
    | cons x r ih =>
      intro pre k hk hb hl
      rw [cnt_cons] at hb
      simp only [cntT] at hb
      simp only [szT, List.length_cons, List.map_cons, List.sum_cons] at hl
      have n1 := mrL_cnt (t := (.pair (.int .i64) (.pair (.int .i64) (.int .i64)))) x.2.2.2.1 (((k + 1) + 1) + 1)
      simp only [cntT] at n1
      have c1 := laws_heldTestS_ok x.2.2.2.1 (((k + 1) + 1) + 1) (by omega) (by simp only [cntT]; omega) (by simp only [szT]; omega)
      have g1 : ¬ (mrL (mrE (.pair (.int .i64) (.pair (.int .i64) (.int .i64)))) x.2.2.2.1 (((k + 1) + 1) + 1)).2 < 0 := by omega
      have n2 := mrL_cnt (t := (.int .i64)) x.2.2.2.2.1 (mrL (mrE (.pair (.int .i64) (.pair (.int .i64) (.int .i64)))) x.2.2.2.1 (((k + 1) + 1) + 1)).2
      simp only [cntT] at n2
      have c2 := laws_heldIntS_ok x.2.2.2.2.1 (mrL (mrE (.pair (.int .i64) (.pair (.int .i64) (.int .i64)))) x.2.2.2.1 (((k + 1) + 1) + 1)).2 (by omega) (by simp only [cntT]; omega) (by simp only [szT]; omega)
      have g2 : ¬ (mrL (mrE (.int .i64)) x.2.2.2.2.1 (mrL (mrE (.pair (.int .i64) (.pair (.int .i64) (.int .i64)))) x.2.2.2.1 (((k + 1) + 1) + 1)).2).2 < 0 := by omega
      have n3 := mrL_cnt (t := (.sl (.int .i64))) x.2.2.2.2.2 (mrL (mrE (.int .i64)) x.2.2.2.2.1 (mrL (mrE (.pair (.int .i64) (.pair (.int .i64) (.int .i64)))) x.2.2.2.1 (((k + 1) + 1) + 1)).2).2
      simp only [cntT] at n3
      have c3 := laws_heldIntSS_ok x.2.2.2.2.2 (mrL (mrE (.int .i64)) x.2.2.2.2.1 (mrL (mrE (.pair (.int .i64) (.pair (.int .i64) (.int .i64)))) x.2.2.2.1 (((k + 1) + 1) + 1)).2).2 (by omega) (by simp only [cntT]; omega) (by simp only [szT]; omega)
      have g3 : ¬ (mrL (mrE (.sl (.int .i64))) x.2.2.2.2.2 (mrL (mrE (.int .i64)) x.2.2.2.2.1 (mrL (mrE (.pair (.int .i64) (.pair (.int .i64) (.int .i64)))) x.2.2.2.1 (((k + 1) + 1) + 1)).2).2).2 < 0 := by omega
      have g := ih (pre ++ [(mrE (.pair (.int .i64) (.pair (.int .i64) (.pair (.int .i64) (.pair (.sl (.pair (.int .i64) (.pair (.int .i64) (.int .i64)))) (.pair (.sl (.int .i64)) (.sl (.sl (.int .i64)))))))) x k).1]) (mrE (.pair (.int .i64) (.pair (.int .i64) (.pair (.int .i64) (.pair (.sl (.pair (.int .i64) (.pair (.int .i64) (.int .i64)))) (.pair (.sl (.int .i64)) (.sl (.sl (.int .i64)))))))) x k).2 (by rw [mrE_cnt]; omega) (by rw [mrE_cnt]; simp only [cntT] at hb ⊢; omega) (by simp only [szT, List.length_append, List.length_cons, List.length_nil] at hl ⊢; omega)
      refine laws_heldPartS.eq2 _ _ _ ?_
      simp only [mrL_cons, mrE_int, mrE_bool, mrE_sl, mrE_pair]
      simp only [laws_heldPartS.t2, lenI_mid, ix_nn, ix_nat, len_mid, set_mid, getD_mid, cond_true, cond_false, bne_ref, beq_ref, bang_t, wrap_k (k := k) (by omega) (by omega), wrap_k (k := (k + 1)) (by omega) (by omega), wrap_k (k := ((k + 1) + 1)) (by omega) (by omega), c1, dec_f g1, c2, dec_f g2, c3, dec_f g3, wrap_succ (show pre.length < 9223372036854775807 by omega), Option.bind_some, dec_rfl, Bool.and_true]
      rw [push_mid]
      simpa [mrE_int, mrE_bool, mrE_sl, mrE_pair] using g
  exact laws_heldPartS.eq _ v1 (by simp only [laws_heldPartS.t]; exact key v0 [] v1 h0 h1 (by simpa using h2))
theorem laws_heldView_ok (v0 : List Int) (v1 : List (Int × Int × Int × List (Int × Int × Int) × List Int × List (List Int))) (v2 : Int) (h0 : 0 ≤ v2) (h1 : v2 + (cntT (.pair (.sl (.int .i64)) (.sl (.pair (.int .i64) (.pair (.int .i64) (.pair (.int .i64) (.pair (.sl (.pair (.int .i64) (.pair (.int .i64) (.int .i64)))) (.pair (.sl (.int .i64)) (.sl (.sl (.int .i64)))))))))) (v0, v1) : Int) ≤ 4611686018427387904) (h2 : szT (.pair (.sl (.int .i64)) (.sl (.pair (.int .i64) (.pair (.int .i64) (.pair (.int .i64) (.pair (.sl (.pair (.int .i64) (.pair (.int .i64) (.int .i64)))) (.pair (.sl (.int .i64)) (.sl (.sl (.int .i64)))))))))) (v0, v1) ≤ 1073741824) : laws_heldView ((mrT (.pair (.sl (.int .i64)) (.sl (.pair (.int .i64) (.pair (.int .i64) (.pair (.int .i64) (.pair (.sl (.pair (.int .i64) (.pair (.int .i64) (.int .i64)))) (.pair (.sl (.int .i64)) (.sl (.sl (.int .i64)))))))))) (v0, v1) v2).1.1) ((mrT (.pair (.sl (.int .i64)) (.sl (.pair (.int .i64) (.pair (.int .i64) (.pair (.int .i64) (.pair (.sl (.pair (.int .i64) (.pair (.int .i64) (.int .i64)))) (.pair (.sl (.int .i64)) (.sl (.sl (.int .i64)))))))))) (v0, v1) v2).1.2) v2 = some (mrT (.pair (.sl (.int .i64)) (.sl (.pair (.int .i64) (.pair (.int .i64) (.pair (.int .i64) (.pair (.sl (.pair (.int .i64) (.pair (.int .i64) (.int .i64)))) (.pair (.sl (.int .i64)) (.sl (.sl (.int .i64)))))))))) (v0, v1) v2).2 := by
  simp only [cntT] at h1
  simp only [szT] at h2
  have n1 := mrL_cnt (t := (.int .i64)) v0 v2
  have n1b := n1
  simp only [cntT] at n1b
  have c1 := laws_heldIntS_ok v0 v2 (by omega) (by simp only [cntT]; omega) (by simp only [szT]; omega)
  have g1 : ¬ (mrL (mrE (.int .i64)) v0 v2).2 < 0 := by omega
  have n2 := mrL_cnt (t := (.pair (.int .i64) (.pair (.int .i64) (.pair (.int .i64) (.pair (.sl (.pair (.int .i64) (.pair (.int .i64) (.int .i64)))) (.pair (.sl (.int .i64)) (.sl (.sl (.int .i64))))))))) v1 (mrL (mrE (.int .i64)) v0 v2).2
  have n2b := n2
  simp only [cntT] at n2b
  have c2 := laws_heldPartS_ok v1 (mrL (mrE (.int .i64)) v0 v2).2 (by omega) (by simp only [cntT]; omega) (by simp only [szT]; omega)
  have g2 : ¬ (mrL (mrE (.pair (.int .i64) (.pair (.int .i64) (.pair (.int .i64) (.pair (.sl (.pair (.int .i64) (.pair (.int .i64) (.int .i64)))) (.pair (.sl (.int .i64)) (.sl (.sl (.int .i64))))))))) v1 (mrL (mrE (.int .i64)) v0 v2).2).2 < 0 := by omega
  try simp only [mrT] at c1 g1 c2 g2
  refine laws_heldView.eq _ _ _ ?_
  simp only [laws_heldView.t, mrT, c1, dec_f g1, c2, dec_f g2, Option.bind_some, cond_false]
end GoV

/- Small words of the program and of its specification. -/
namespace GoV
open Go
theorem impl_within_eq (x lo hi : Int) : impl_within x lo hi = some (inB lo hi x) := by
  refine impl_within.eq x lo hi ?_
  simp only [impl_within.t, inB]
  by_cases h : lo ≤ x <;> simp [h]
theorem spec_l1In_eq (x lo hi : Int) : spec_l1In x lo hi = some (inB lo hi x) := by
  refine spec_l1In.eq x lo hi ?_
  simp only [spec_l1In.t, inB]
  by_cases h : lo ≤ x <;> simp [h]
end GoV
