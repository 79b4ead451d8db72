/- A part of the proof of FnExactStepSink: an interpreter of the model over plain data, its soundness, and what it makes of the functions that the statement reaches. Conditions: none beyond what the given statement itself says. -/
import Derived.Test.YtnfegdcbofnjhaaTL
set_option linter.unusedVariables false
set_option linter.unusedSimpArgs false
set_option linter.unnecessarySimpa false
set_option linter.unusedSectionVars false
/- Sinks: alike for the program and its specification. -/
namespace GoV
open Go
theorem clone_int (r : List Int) (hl : r.length ≤ 1073741824) : xs04 r = some r := by
  refine xs04.eq r ?_
  have : r.length ≤ 4294967296 := by omega
  simp only [xs04.t, dec_t this, cond_true]
theorem spec_l16Same_eq (a b : List Int) (ha : a.length ≤ 1073741824) : spec_l16Same a b = some (decide (a = b)) := by
  refine spec_l16Same.eq a b ?_
  simp only [spec_l16Same.t, bneI]
  by_cases hl : a.length = b.length
  · have key : ∀ i, i ≤ a.length → spec_l16Same.l4 a b (a.length : Int) (i : Int) = some (decide (a.drop i = b.drop i)) := by
      refine upto ?_ ?_
      · have e1 : a.drop a.length = [] := List.drop_length
        have e2 : b.drop a.length = [] := by rw [hl, List.drop_length]
        rw [e1, e2]
        exact spec_l16Same.eq4 _ _ _ _ (by simp only [spec_l16Same.t4, ix_lt, Nat.lt_irrefl, decide_false, cond_false]; rfl)
      · intro i hi ih
        have hi2 : i < b.length := by omega
        refine spec_l16Same.eq4 _ _ _ _ ?_
        simp only [spec_l16Same.t4, ix_lt, ix_nn, ix_nat, dec_t hi, dec_t hi2, cond_true, wrap_succ (show i < 9223372036854775807 by omega)]
        rw [drop_getD (0 : Int) hi, drop_getD (0 : Int) hi2]
        by_cases he : a.getD i 0 = b.getD i 0
        · have h1 : (a.getD i 0 != b.getD i 0) = false := by rw [he]; exact bne_ref _
          simp only [h1, cond_false]
          rw [ih, he]
          congr 1
          exact bool_eq (by simp)
        · have h1 : (a.getD i 0 != b.getD i 0) = true := bne_iff_ne.2 he
          have hn : ¬ (a.getD i 0 :: a.drop (i + 1) = b.getD i 0 :: b.drop (i + 1)) := fun h => he (by injection h)
          simp only [h1, cond_true, dec_f hn]
    simp only [dec_t hl, bang_t, cond_false]
    have k := key 0 (Nat.zero_le _)
    rw [List.drop_zero, List.drop_zero] at k
    exact k
  · have hn : ¬ a = b := fun h => hl (by rw [h])
    simp only [dec_f hl, bang_f, cond_true, dec_f hn]
theorem slices_Equal_int_eq (a b : List Int) (ha : a.length ≤ 1073741824) : xs05 a b = some (decide (a = b)) := by
  refine xs05.eq a b ?_
  simp only [xs05.t, bneI]
  by_cases hl : a.length = b.length
  · have key : ∀ i, i ≤ a.length → xs05.l4 a b (a.length : Int) (i : Int) = some (decide (a.drop i = b.drop i)) := by
      refine upto ?_ ?_
      · have e1 : a.drop a.length = [] := List.drop_length
        have e2 : b.drop a.length = [] := by rw [hl, List.drop_length]
        rw [e1, e2]
        exact xs05.eq4 _ _ _ _ (by simp only [xs05.t4, ix_lt, Nat.lt_irrefl, decide_false, cond_false]; rfl)
      · intro i hi ih
        have hi2 : i < b.length := by omega
        refine xs05.eq4 _ _ _ _ ?_
        simp only [xs05.t4, ix_lt, ix_nn, ix_nat, dec_t hi, dec_t hi2, cond_true, wrap_succ (show i < 9223372036854775807 by omega)]
        rw [drop_getD (0 : Int) hi, drop_getD (0 : Int) hi2]
        by_cases he : a.getD i 0 = b.getD i 0
        · have h1 : (a.getD i 0 != b.getD i 0) = false := by rw [he]; exact bne_ref _
          simp only [h1, cond_false]
          rw [ih, he]
          congr 1
          exact bool_eq (by simp)
        · have h1 : (a.getD i 0 != b.getD i 0) = true := bne_iff_ne.2 he
          have hn : ¬ (a.getD i 0 :: a.drop (i + 1) = b.getD i 0 :: b.drop (i + 1)) := fun h => he (by injection h)
          simp only [h1, cond_true, dec_f hn]
    simp only [dec_t hl, bang_t, cond_false]
    have k := key 0 (Nat.zero_le _)
    rw [List.drop_zero, List.drop_zero] at k
    exact k
  · have hn : ¬ a = b := fun h => hl (by rw [h])
    simp only [dec_f hl, bang_f, cond_true, dec_f hn]

theorem flat_self {α : Type} : ∀ l : List α, l.flatMap (fun x => [x]) = l
  | [] => rfl
  | x :: l => by rw [List.flatMap_cons, flat_self l]; rfl
theorem take_to' {n : Nat} {α : Type} (l : List α) : List.take (((n : Nat) : Int) - 0).toNat (List.drop (Int.toNat 0) l) = l.take n := by
  rw [Int.sub_zero, Int.toNat_natCast]; rfl
theorem toNat0' : Int.toNat (0 : Int) = 0 := rfl
theorem toNat1' : Int.toNat (1 : Int) = 1 := rfl
section
variable {src pend out : List Int} {a last upto : Int} {st : List Prep} {n : Nat}
theorem from_eq (hl : st.length ≤ 1000) : spec_l16From src a pend st out last upto = some (storedU st upto) ∧ impl_Sink_stored src a pend st out last upto = some (storedU st upto) := by
  by_cases h0 : st.length = 0
  · have h1 : ¬ ((st.length : Int) > 0) := by omega
    have h2 : ¬ (IntKind.i64.wrap ((st.length : Int) - 1) ≥ 0) := by rw [wrap_id (by omega) (by omega)]; omega
    refine ⟨spec_l16From.eq _ _ _ _ _ _ _ ?_, impl_Sink_stored.eq _ _ _ _ _ _ _ ?_⟩
    · simp only [spec_l16From.t, dec_f h1, cond_false, storedU, if_pos h0]
    · simp only [impl_Sink_stored.t, dec_f h2, cond_false, storedU, if_pos h0]
  · have h1 : (st.length : Int) > 0 := by omega
    have h3 : st.length - 1 < st.length := by omega
    have h2 : ((st.length - 1 : Nat) : Int) ≥ 0 := by omega
    refine ⟨spec_l16From.eq _ _ _ _ _ _ _ ?_, impl_Sink_stored.eq _ _ _ _ _ _ _ ?_⟩
    · simp only [spec_l16From.t, dec_t h1, cond_true, wrap_pred (show 0 < st.length by omega) (by omega), ix_nn, ix_nat, dec_t h3, storedU, if_neg h0]
    · simp only [impl_Sink_stored.t, wrap_pred (show 0 < st.length by omega) (show st.length < 9223372036854775807 by omega), dec_t h2, cond_true, ix_nn, ix_nat, dec_t h3, storedU, if_neg h0]
theorem crash_eq (hl : st.length ≤ 1000) : spec_l16Crash_5b7 src a pend st out last upto = some (src, storedU st upto, [], st, out, last, upto) ∧ xi06 src a pend st out last upto = some (true, src, storedU st upto, [], st, out, last, upto) := by
  obtain ⟨h1, h2⟩ := from_eq (src := src) (a := a) (pend := pend) (out := out) (last := last) (upto := upto) hl
  exact ⟨spec_l16Crash_5b7.eq _ _ _ _ _ _ _ (by simp only [spec_l16Crash_5b7.t, h1, Option.bind_some]), xi06.eq _ _ _ _ _ _ _ (by simp only [xi06.t, h2, Option.bind_some])⟩
end
def specT (s : Snk) (o : Option Snk) : List Int × Int × List Int × List Prep × List Int × Int × Int × Bool := match o with
  | some t => (t.1, t.2.1, t.2.2.1, t.2.2.2.1, t.2.2.2.2.1, t.2.2.2.2.2.1, t.2.2.2.2.2.2, true)
  | none => (s.1, s.2.1, s.2.2.1, s.2.2.2.1, s.2.2.2.2.1, s.2.2.2.2.2.1, s.2.2.2.2.2.2, false)
def implT (s : Snk) (o : Option Snk) : Bool × Snk := match o with
  | some t => (true, t)
  | none => (false, s)
theorem prep_len {st : List Prep} {p : Prep} (h : p ∈ st) : p.2.2.length ≤ (st.map fun p => p.2.2.length).sum := sum_le (fun p : Prep => p.2.2.length) h
theorem step_eq {s : Snk} {n : Nat} (h : SinkOK n s) (hn : n ≤ 1000000) (k : Int) :
    spec_l16Step_27a s.1 s.2.1 s.2.2.1 s.2.2.2.1 s.2.2.2.2.1 s.2.2.2.2.2.1 s.2.2.2.2.2.2 k = some (specT s (stepS s k)) ∧ impl_Sink_step_1e4 s.1 s.2.1 s.2.2.1 s.2.2.2.1 s.2.2.2.2.1 s.2.2.2.2.2.1 s.2.2.2.2.2.2 k = some (implT s (stepS s k)) := by
  obtain ⟨src, a, pend, st, out, last, upto⟩ := s
  obtain ⟨h1, h2, h3, h4, h5, h6, h7, h8, h9, h10⟩ := h
  simp only [holdS] at h1 h2 h3 h4 h5 h6 h7 h8 h9 h10
  simp only []
  by_cases k1 : k = 1
  · have e1 : (k == 1) = true := beq_iff_eq.2 k1
    by_cases g : a = (src.length : Int)
    · have e2 : (a == (src.length : Int)) = true := beq_iff_eq.2 g
      have em : impl_Sink_read_dfc src a pend st out last upto = some (false, src, a, pend, st, out, last, upto) := impl_Sink_read_dfc.eq _ _ _ _ _ _ _ (by simp only [impl_Sink_read_dfc.t, e2, cond_true])
      refine ⟨spec_l16Step_27a.eq _ _ _ _ _ _ _ _ ?_, impl_Sink_step_1e4.eq _ _ _ _ _ _ _ _ ?_⟩
      · simp only [spec_l16Step_27a.t, e1, e2, cond_true, stepS, if_pos k1, if_pos g, specT]
      · simp only [impl_Sink_step_1e4.t, e1, em, Option.bind_some, cond_true, stepS, if_pos k1, if_pos g, implT]
    · have e2 : (a == (src.length : Int)) = false := beq_eq_false_iff_ne.2 g
      have g1 : a.toNat < src.length := by omega
      have g2 : pend.length + [src.getD a.toNat 0].length ≤ 4294967296 := by simp only [List.length_cons, List.length_nil]; omega
      have hw : IntKind.i64.wrap (a + 1) = a + 1 := wrap_id (by omega) (by omega)
      have em : impl_Sink_read_dfc src a pend st out last upto = some (true, src, a + 1, pend ++ [src.getD a.toNat 0], st, out, last, upto) := impl_Sink_read_dfc.eq _ _ _ _ _ _ _ (by simp only [impl_Sink_read_dfc.t, e2, cond_true, cond_false, dec_t h2, dec_t g1, dec_t g2, hw])
      refine ⟨spec_l16Step_27a.eq _ _ _ _ _ _ _ _ ?_, impl_Sink_step_1e4.eq _ _ _ _ _ _ _ _ ?_⟩
      · simp only [spec_l16Step_27a.t, e1, e2, cond_true, cond_false, dec_t h2, dec_t g1, dec_t g2, hw, stepS, if_pos k1, if_neg g, specT]
      · simp only [impl_Sink_step_1e4.t, e1, em, Option.bind_some, cond_true, stepS, if_pos k1, if_neg g, implT]
  · have e1 : (k == 1) = false := beq_eq_false_iff_ne.2 k1
    by_cases k2 : k = 2
    · have e2 : (k == 2) = true := beq_iff_eq.2 k2
      have hw : IntKind.i64.wrap (last + (st.length : Int)) = last + (st.length : Int) := wrap_id (by omega) (by omega)
      by_cases g1 : pend.length = 0
      · have e3 : ((pend.length : Int) == 0) = true := beq_iff_eq.2 (by omega)
        have em : xi01 src a pend st out last upto = some (false, src, a, pend, st, out, last, upto) := xi01.eq _ _ _ _ _ _ _ (by simp only [xi01.t, e3, cond_true])
        refine ⟨spec_l16Step_27a.eq _ _ _ _ _ _ _ _ ?_, impl_Sink_step_1e4.eq _ _ _ _ _ _ _ _ ?_⟩
        · simp only [spec_l16Step_27a.t, e1, e2, e3, cond_true, cond_false, stepS, if_neg k1, if_pos k2, if_pos g1, specT]
        · simp only [impl_Sink_step_1e4.t, e1, e2, em, Option.bind_some, cond_true, cond_false, stepS, if_neg k1, if_pos k2, if_pos g1, implT]
      · have e3 : ((pend.length : Int) == 0) = false := beq_eq_false_iff_ne.2 (by omega)
        by_cases g2 : st.length ≥ 4
        · have g2' : (st.length : Int) ≥ 4 := by omega
          have em : xi01 src a pend st out last upto = some (false, src, a, pend, st, out, last, upto) := xi01.eq _ _ _ _ _ _ _ (by simp only [xi01.t, e3, dec_t g2', cond_true, cond_false])
          refine ⟨spec_l16Step_27a.eq _ _ _ _ _ _ _ _ ?_, impl_Sink_step_1e4.eq _ _ _ _ _ _ _ _ ?_⟩
          · simp only [spec_l16Step_27a.t, e1, e2, e3, dec_t g2', cond_true, cond_false, stepS, if_neg k1, if_pos k2, if_neg g1, if_pos g2, specT]
          · simp only [impl_Sink_step_1e4.t, e1, e2, em, Option.bind_some, cond_true, cond_false, stepS, if_neg k1, if_pos k2, if_neg g1, if_pos g2, implT]
        · have g2' : ¬ (st.length : Int) ≥ 4 := by omega
          by_cases g3 : last + (st.length : Int) ≥ 1000
          · have em : xi01 src a pend st out last upto = some (false, src, a, pend, st, out, last, upto) := xi01.eq _ _ _ _ _ _ _ (by simp only [xi01.t, e3, dec_f g2', hw, dec_t g3, cond_true, cond_false])
            refine ⟨spec_l16Step_27a.eq _ _ _ _ _ _ _ _ ?_, impl_Sink_step_1e4.eq _ _ _ _ _ _ _ _ ?_⟩
            · simp only [spec_l16Step_27a.t, e1, e2, e3, dec_f g2', hw, dec_t g3, cond_true, cond_false, stepS, if_neg k1, if_pos k2, if_neg g1, if_neg g2, if_pos g3, specT]
            · simp only [impl_Sink_step_1e4.t, e1, e2, em, Option.bind_some, cond_true, cond_false, stepS, if_neg k1, if_pos k2, if_neg g1, if_neg g2, if_pos g3, implT]
          · have hw2 : IntKind.i64.wrap (last + (st.length : Int) + 1) = last + (st.length : Int) + 1 := wrap_id (by omega) (by omega)
            have g4 : st.length + [(last + (st.length : Int) + 1, a, pend)].length ≤ 4294967296 := by simp only [List.length_cons, List.length_nil]; omega
            have em : xi01 src a pend st out last upto = some (true, src, a, [], st ++ [(last + (st.length : Int) + 1, a, pend)], out, last, upto) := xi01.eq _ _ _ _ _ _ _ (by simp only [xi01.t, e3, dec_f g2', hw, hw2, dec_f g3, dec_t g4, cond_true, cond_false])
            refine ⟨spec_l16Step_27a.eq _ _ _ _ _ _ _ _ ?_, impl_Sink_step_1e4.eq _ _ _ _ _ _ _ _ ?_⟩
            · simp only [spec_l16Step_27a.t, e1, e2, e3, dec_f g2', hw, hw2, dec_f g3, dec_t g4, cond_true, cond_false, stepS, if_neg k1, if_pos k2, if_neg g1, if_neg g2, if_neg g3, specT]
            · simp only [impl_Sink_step_1e4.t, e1, e2, em, Option.bind_some, cond_true, cond_false, stepS, if_neg k1, if_pos k2, if_neg g1, if_neg g2, if_neg g3, implT]
    · have e2 : (k == 2) = false := beq_eq_false_iff_ne.2 k2
      by_cases k3 : k = 3
      · have e3 : (k == 3) = true := beq_iff_eq.2 k3
        by_cases g1 : st.length = 0
        · have e4 : ((st.length : Int) == 0) = true := beq_iff_eq.2 (by omega)
          have em : xi02 src a pend st out last upto = some (false, src, a, pend, st, out, last, upto) := xi02.eq _ _ _ _ _ _ _ (by simp only [xi02.t, e4, cond_true])
          refine ⟨spec_l16Step_27a.eq _ _ _ _ _ _ _ _ ?_, impl_Sink_step_1e4.eq _ _ _ _ _ _ _ _ ?_⟩
          · simp only [spec_l16Step_27a.t, e1, e2, e3, e4, cond_true, cond_false, stepS, if_neg k1, if_neg k2, if_pos k3, if_pos g1, specT]
          · simp only [impl_Sink_step_1e4.t, e1, e2, e3, em, Option.bind_some, cond_true, cond_false, stepS, if_neg k1, if_neg k2, if_pos k3, if_pos g1, implT]
        · have e4 : ((st.length : Int) == 0) = false := beq_eq_false_iff_ne.2 (by omega)
          have g2 : 0 < st.length := by omega
          have g3 : (1 : Int) ≤ (st.length : Int) := by omega
          have hp := prep_len (getD_mem (l := st) (((0 : Int), (0 : Int), []) : Prep) g2)
          have g4 : out.length + (st.getD 0 ((0 : Int), (0 : Int), [])).2.2.length ≤ 4294967296 := by omega
          have em : xi02 src a pend st out last upto = some (true, src, a, pend, st.drop 1, out ++ (st.getD 0 ((0 : Int), (0 : Int), [])).2.2, (st.getD 0 ((0 : Int), (0 : Int), [])).1, (st.getD 0 ((0 : Int), (0 : Int), [])).2.1) := xi02.eq _ _ _ _ _ _ _ (by simp only [xi02.t, e4, toNat0', dec_t g2, Option.getD_some, dec_t g3, dec_t g4, toNat1', cond_true, cond_false])
          refine ⟨spec_l16Step_27a.eq _ _ _ _ _ _ _ _ ?_, impl_Sink_step_1e4.eq _ _ _ _ _ _ _ _ ?_⟩
          · simp only [spec_l16Step_27a.t, e1, e2, e3, e4, toNat0', dec_t g2, Option.getD_some, dec_t g3, dec_t g4, toNat1', cond_true, cond_false, stepS, if_neg k1, if_neg k2, if_pos k3, if_neg g1, specT]
          · simp only [impl_Sink_step_1e4.t, e1, e2, e3, em, Option.bind_some, cond_true, cond_false, stepS, if_neg k1, if_neg k2, if_pos k3, if_neg g1, implT]
      · have e3 : (k == 3) = false := beq_eq_false_iff_ne.2 k3
        by_cases k4 : k = 4
        · have e4 : (k == 4) = true := beq_iff_eq.2 k4
          obtain ⟨c1, c2⟩ := crash_eq (src := src) (a := a) (pend := pend) (out := out) (last := last) (upto := upto) (show st.length ≤ 1000 by omega)
          refine ⟨spec_l16Step_27a.eq _ _ _ _ _ _ _ _ ?_, impl_Sink_step_1e4.eq _ _ _ _ _ _ _ _ ?_⟩
          · simp only [spec_l16Step_27a.t, e1, e2, e3, e4, c1, Option.bind_some, cond_true, cond_false, stepS, if_neg k1, if_neg k2, if_neg k3, if_pos k4, specT]
          · simp only [impl_Sink_step_1e4.t, e1, e2, e3, e4, c2, Option.bind_some, cond_true, cond_false, stepS, if_neg k1, if_neg k2, if_neg k3, if_pos k4, implT]
        · have e4 : (k == 4) = false := beq_eq_false_iff_ne.2 k4
          by_cases k5 : k = 5
          · have e5 : (k == 5) = true := beq_iff_eq.2 k5
            by_cases g1 : st.length < 2
            · have g1' : (st.length : Int) < 2 := by omega
              refine ⟨spec_l16Step_27a.eq _ _ _ _ _ _ _ _ ?_, impl_Sink_step_1e4.eq _ _ _ _ _ _ _ _ ?_⟩
              · simp only [spec_l16Step_27a.t, e1, e2, e3, e4, e5, dec_t g1', cond_true, cond_false, stepS, if_neg k1, if_neg k2, if_neg k3, if_neg k4, if_pos k5, if_pos g1, specT]
              · simp only [impl_Sink_step_1e4.t, e1, e2, e3, e4, e5, dec_t g1', cond_true, cond_false, stepS, if_neg k1, if_neg k2, if_neg k3, if_neg k4, if_pos k5, if_pos g1, implT]
            · have g1' : ¬ (st.length : Int) < 2 := by omega
              have g2 : (0 : Int) ≤ ((st.length - 1 : Nat) : Int) := by omega
              have g3 : ((st.length - 1 : Nat) : Int) ≤ (st.length : Int) := by omega
              obtain ⟨c1, c2⟩ := crash_eq (src := src) (a := a) (pend := pend) (out := out) (last := last) (upto := upto) (st := st.take (st.length - 1)) (by rw [List.length_take]; omega)
              refine ⟨spec_l16Step_27a.eq _ _ _ _ _ _ _ _ ?_, impl_Sink_step_1e4.eq _ _ _ _ _ _ _ _ ?_⟩
              · simp only [spec_l16Step_27a.t, e1, e2, e3, e4, e5, dec_f g1', wrap_pred (show 0 < st.length by omega) (show st.length < 9223372036854775807 by omega), Option.getD_none, dec_t g2, dec_t g3, take_to', c1, Option.bind_some, cond_true, cond_false, stepS, if_neg k1, if_neg k2, if_neg k3, if_neg k4, if_pos k5, if_neg g1, specT]
              · simp only [impl_Sink_step_1e4.t, e1, e2, e3, e4, e5, dec_f g1', wrap_pred (show 0 < st.length by omega) (show st.length < 9223372036854775807 by omega), Option.getD_none, dec_t g2, dec_t g3, take_to', c2, Option.bind_some, cond_true, cond_false, stepS, if_neg k1, if_neg k2, if_neg k3, if_neg k4, if_pos k5, if_neg g1, implT]
          · have e5 : (k == 5) = false := beq_eq_false_iff_ne.2 k5
            refine ⟨spec_l16Step_27a.eq _ _ _ _ _ _ _ _ ?_, impl_Sink_step_1e4.eq _ _ _ _ _ _ _ _ ?_⟩
            · simp only [spec_l16Step_27a.t, e1, e2, e3, e4, e5, cond_false, stepS, if_neg k1, if_neg k2, if_neg k3, if_neg k4, if_neg k5, specT]
            · simp only [impl_Sink_step_1e4.t, e1, e2, e3, e4, e5, cond_false, stepS, if_neg k1, if_neg k2, if_neg k3, if_neg k4, if_neg k5, implT]
theorem own_eq {s : Snk} {n : Nat} (h : SinkOK n s) (hn : n ≤ 1000000) :
    spec_l16Own s.1 s.2.1 s.2.2.1 s.2.2.2.1 s.2.2.2.2.1 s.2.2.2.2.2.1 s.2.2.2.2.2.2 = some s ∧ impl_Sink_own s.1 s.2.1 s.2.2.1 s.2.2.2.1 s.2.2.2.2.1 s.2.2.2.2.2.1 s.2.2.2.2.2.2 = some s := by
  obtain ⟨src, a, pend, st, out, last, upto⟩ := s
  obtain ⟨h1, h2, h3, h4, h5, h6, h7, h8, h9, h10⟩ := h
  simp only [holdS] at h1 h2 h3 h4 h5 h6 h7 h8 h9 h10
  simp only []
  have l1 : ([] : List Int).length + src.length ≤ 4294967296 := by simp only [List.length_nil]; omega
  have l2 : ([] : List Int).length + pend.length ≤ 4294967296 := by simp only [List.length_nil]; omega
  have l3 : ([] : List Int).length + out.length ≤ 4294967296 := by simp only [List.length_nil]; omega
  refine ⟨spec_l16Own.eq _ _ _ _ _ _ _ ?_, impl_Sink_own.eq _ _ _ _ _ _ _ ?_⟩
  · simp only [spec_l16Own.t, dec_t l1, dec_t l2, dec_t l3, cond_true, List.nil_append]
    refine push_loop st ((0 : Int), (0 : Int), []) (fun acc i => spec_l16Own.l6 src a pend st out last upto [] 0 [] [] [] 0 0 acc st (st.length : Int) (i : Int)) (fun p => [p]) (fun _ => Nat.le_refl _) (fun acc => some (src, a, pend, acc, out, last, upto)) ?_ ?_ _ (by rw [flat_self])
    · intro acc b _ hb
      exact spec_l16Own.eq6 _ _ _ _ _ _ _ _ _ _ _ _ _ _ _ _ _ _ (by simp only [spec_l16Own.t6, ix_lt, Nat.lt_irrefl, decide_false, cond_false]; exact hb)
    · intro acc i b hi ha hb
      have hp := prep_len (getD_mem (((0 : Int), (0 : Int), []) : Prep) hi)
      have g1 : ([] : List Int).length + (st.getD i ((0 : Int), (0 : Int), [])).2.2.length ≤ 4294967296 := by simp only [List.length_nil]; omega
      have g2 : acc.length + [((st.getD i ((0 : Int), (0 : Int), [])).1, (st.getD i ((0 : Int), (0 : Int), [])).2.1, (st.getD i ((0 : Int), (0 : Int), [])).2.2)].length ≤ 4294967296 := by simp only [List.length_cons, List.length_nil]; omega
      refine spec_l16Own.eq6 _ _ _ _ _ _ _ _ _ _ _ _ _ _ _ _ _ _ ?_
      simp only [spec_l16Own.t6, ix_lt, ix_nn, ix_nat, dec_t hi, cond_true, dec_t g1, List.nil_append, dec_t g2, wrap_succ (show i < 9223372036854775807 by omega)]
      exact hb
  · simp only [impl_Sink_own.t, clone_int src (by omega), clone_int pend (by omega), clone_int out (by omega), Option.bind_some]
    refine push_loop st ((0 : Int), (0 : Int), []) (fun acc i => impl_Sink_own.l4 src a pend st out last upto [] 0 [] [] [] 0 0 acc st (st.length : Int) (i : Int)) (fun p => [p]) (fun _ => Nat.le_refl _) (fun acc => some (src, a, pend, acc, out, last, upto)) ?_ ?_ _ (by rw [flat_self])
    · intro acc b _ hb
      exact impl_Sink_own.eq4 _ _ _ _ _ _ _ _ _ _ _ _ _ _ _ _ _ _ (by simp only [impl_Sink_own.t4, ix_lt, Nat.lt_irrefl, decide_false, cond_false]; exact hb)
    · intro acc i b hi ha hb
      have hp := prep_len (getD_mem (((0 : Int), (0 : Int), []) : Prep) hi)
      have g2 : acc.length + [((st.getD i ((0 : Int), (0 : Int), [])).1, (st.getD i ((0 : Int), (0 : Int), [])).2.1, (st.getD i ((0 : Int), (0 : Int), [])).2.2)].length ≤ 4294967296 := by simp only [List.length_cons, List.length_nil]; omega
      refine impl_Sink_own.eq4 _ _ _ _ _ _ _ _ _ _ _ _ _ _ _ _ _ _ ?_
      simp only [impl_Sink_own.t4, ix_lt, ix_nn, ix_nat, dec_t hi, cond_true, clone_int (st.getD i ((0 : Int), (0 : Int), [])).2.2 (by omega), Option.bind_some, dec_t g2, wrap_succ (show i < 9223372036854775807 by omega)]
      exact hb
abbrev sinkTy : Ty := .pair (.sl (.int .i64)) (.pair (.int .i64) (.pair (.sl (.int .i64)) (.pair (.sl (.pair (.int .i64) (.pair (.int .i64) (.sl (.int .i64))))) (.pair (.sl (.int .i64)) (.pair (.int .i64) (.int .i64))))))
theorem sink_size (s : Snk) : szT sinkTy s = s.1.length + (s.2.2.1.length + ((s.2.2.2.1.length + (s.2.2.2.1.map fun p => p.2.2.length).sum) + s.2.2.2.2.1.length)) := by
  have e : ∀ st : List Prep, (st.map (szT (.pair (.int .i64) (.pair (.int .i64) (.sl (.int .i64)))))) = st.map fun p => p.2.2.length := fun st => List.map_congr_left fun p _ => by
    show 0 + (0 + szT (.sl (.int .i64)) p.2.2) = _
    rw [szT_sl_flat (t := .int .i64) p.2.2 rfl]
    omega
  show szT (.sl (.int .i64)) s.1 + (0 + (szT (.sl (.int .i64)) s.2.2.1 + ((s.2.2.2.1.length + (s.2.2.2.1.map (szT (.pair (.int .i64) (.pair (.int .i64) (.sl (.int .i64)))))).sum) + (szT (.sl (.int .i64)) s.2.2.2.2.1 + (0 + 0))))) = _
  rw [e, szT_sl_flat (t := .int .i64) s.1 rfl, szT_sl_flat (t := .int .i64) s.2.2.1 rfl, szT_sl_flat (t := .int .i64) s.2.2.2.2.1 rfl]
  omega
theorem sink_small {s : Snk} {n : Nat} (h : SinkOK n s) (hn : n ≤ 1000000) : szT sinkTy s ≤ 1073741824 := by
  have h1 := h.hold
  have h2 := h.src
  have h3 := h.st4
  rw [sink_size]
  simp only [holdS] at h1
  omega
theorem sink_none : szT sinkTy (([] : List Int), (0 : Int), ([] : List Int), ([] : List Prep), ([] : List Int), (0 : Int), (0 : Int)) ≤ 1073741824 := by rw [sink_size]; simp
end GoV

/- StepSink: the program's answer is the specification's. -/
namespace GoV
open Go
def cutI (src : List Int) (u v : Int) : List Int := (src.drop u.toNat).take (v - u).toNat
/-- What is stored, one behind the other; how far all of it goes. -/
def chkP (src : List Int) (a : Int) : Int → Int → List Prep → Option Int
  | _, u, [] => some u
  | no, u, p :: r => if (p.1 = no + 1 ∧ p.1 ≤ 1000) ∧ (u ≤ p.2.1 ∧ p.2.1 ≤ a) ∧ p.2.2 = cutI src u p.2.1 then chkP src a p.1 p.2.1 r else none
def endB (src : List Int) (a : Int) (pend out : List Int) (upto : Int) (o : Option Int) : Bool := match o with
  | none => false
  | some u => decide (pend = cutI src u a) && decide (out = src.take upto.toNat)
def goodSk (s : Snk) : Bool := (decide (s.1.length ≤ 30) && (inB 0 (s.1.length : Int) s.2.1 && (inB 0 s.2.1 s.2.2.2.2.2.2 && (decide (s.2.2.2.1.length ≤ 4) && inB 0 1000 s.2.2.2.2.2.1)))) && endB s.1 s.2.1 s.2.2.1 s.2.2.2.2.1 s.2.2.2.2.2.2 (chkP s.1 s.2.1 s.2.2.2.2.2.1 s.2.2.2.2.2.2 s.2.2.2.1)
theorem cutI_def (src : List Int) (u v : Int) : List.take (v - u).toNat (List.drop u.toNat src) = cutI src u v := rfl
theorem cutI_len (src : List Int) (u v : Int) : (cutI src u v).length ≤ src.length := by
  rw [cutI, List.length_take, List.length_drop]; omega
theorem drop_cons_at' {α : Type} {l r : List α} {i : Nat} {x z : α} (h : l.drop i = x :: r) : i < l.length ∧ l.getD i z = x ∧ l.drop (i + 1) = r := by
  have h1 : i < l.length := by
    apply Classical.byContradiction
    intro hn
    rw [List.drop_eq_nil_of_le (by omega)] at h
    cases h
  rw [drop_getD z h1] at h
  injection h with h2 h3
  exact ⟨h1, h2, h3⟩
section
variable {src pend out : List Int} {a last upto : Int} {st : List Prep} (hs : src.length ≤ 30) (ha : 0 ≤ a ∧ a ≤ (src.length : Int)) (hu : 0 ≤ upto ∧ upto ≤ a) (hst : st.length ≤ 4) (hr : ∀ p, p ∈ st → p.2.2.length ≤ 1073741824) (hp : pend.length ≤ 1073741824) (ho : out.length ≤ 1073741824)
include hs ha hu hst hr hp ho
theorem spec_good_loop : ∀ (r : List Prep) (i : Nat) (u no : Int), i ≤ st.length → st.drop i = r → (0 ≤ u ∧ u ≤ a) → (0 ≤ no ∧ no ≤ 1000) →
    spec_GoodSink.l6 src a pend st out last upto u no st (st.length : Int) (i : Int) = some (endB src a pend out upto (chkP src a no u r)) := by
  intro r
  induction r with
  | nil =>
    intro i u no hil hd hu2 _
    have hi : i = st.length := by have := List.drop_eq_nil_iff.1 hd; omega
    subst hi
    refine spec_GoodSink.eq6 _ _ _ _ _ _ _ _ _ _ _ _ ?_
    have e1 := spec_l16Same_eq pend (cutI src u a) hp
    have e2 := spec_l16Same_eq out (src.take upto.toNat) ho
    have hu3 : upto ≤ (src.length : Int) := by omega
    simp only [spec_GoodSink.t6, ix_lt, Nat.lt_irrefl, decide_false, cond_false, Option.getD_some, Option.getD_none, dec_t hu2.1, dec_t hu2.2, dec_t ha.2, dec_t hu.1, dec_t hu3, cond_true, cutI_def src u a, Int.sub_zero, toNat0', List.drop_zero, e1, e2, Option.bind_some, chkP, endB]
    cases decide (pend = cutI src u a) <;> rfl
  | cons p r ih =>
    intro i u no _ hd hu2 hno
    obtain ⟨hi, hk, hd2⟩ := drop_cons_at' (z := (((0 : Int), (0 : Int), []) : Prep)) hd
    have hm : p ∈ st := by rw [← hk]; exact getD_mem _ hi
    have hw : IntKind.i64.wrap (no + 1) = no + 1 := wrap_id (by omega) (by omega)
    refine spec_GoodSink.eq6 _ _ _ _ _ _ _ _ _ _ _ _ ?_
    simp only [spec_GoodSink.t6, ix_lt, ix_nn, ix_nat, dec_t hi, cond_true, hk, hw, spec_l1In_eq, Option.bind_some, Option.getD_some]
    by_cases g1 : p.1 = no + 1
    · have e1 : (p.1 != no + 1) = false := by rw [g1]; exact bne_ref _
      cases g2 : inB u a p.2.1 with
      | false =>
        have : ¬ ((p.1 = no + 1 ∧ p.1 ≤ 1000) ∧ (u ≤ p.2.1 ∧ p.2.1 ≤ a) ∧ p.2.2 = cutI src u p.2.1) := fun h => by rw [inB_iff.2 h.2.1] at g2; cases g2
        simp only [e1, cond_false, bang_f, cond_true, chkP, if_neg this, endB]
      | true =>
        obtain ⟨g3, g4⟩ := inB_iff.1 g2
        have g5 : p.2.1 ≤ (src.length : Int) := by omega
        have e2 := spec_l16Same_eq p.2.2 (cutI src u p.2.1) (hr p hm)
        simp only [e1, cond_false, bang_t, dec_t hu2.1, dec_t g3, dec_t g5, cond_true, cutI_def src u p.2.1, e2, Option.bind_some]
        by_cases g6 : p.2.2 = cutI src u p.2.1
        · by_cases g7 : p.1 > 1000
          · have : ¬ ((p.1 = no + 1 ∧ p.1 ≤ 1000) ∧ (u ≤ p.2.1 ∧ p.2.1 ≤ a) ∧ p.2.2 = cutI src u p.2.1) := fun h => by omega
            simp only [dec_t g6, bang_t, cond_false, dec_t g7, cond_true, chkP, if_neg this, endB]
          · have : (p.1 = no + 1 ∧ p.1 ≤ 1000) ∧ (u ≤ p.2.1 ∧ p.2.1 ≤ a) ∧ p.2.2 = cutI src u p.2.1 := ⟨⟨g1, by omega⟩, ⟨g3, g4⟩, g6⟩
            simp only [dec_t g6, bang_t, cond_false, dec_f g7, wrap_succ (show i < 9223372036854775807 by omega), chkP, if_pos this]
            exact ih (i + 1) p.2.1 p.1 (by omega) hd2 ⟨by omega, g4⟩ ⟨by omega, by omega⟩
        · have : ¬ ((p.1 = no + 1 ∧ p.1 ≤ 1000) ∧ (u ≤ p.2.1 ∧ p.2.1 ≤ a) ∧ p.2.2 = cutI src u p.2.1) := fun h => g6 h.2.2
          simp only [dec_f g6, bang_f, cond_true, chkP, if_neg this, endB]
    · have e1 : (p.1 != no + 1) = true := bne_iff_ne.2 g1
      have : ¬ ((p.1 = no + 1 ∧ p.1 ≤ 1000) ∧ (u ≤ p.2.1 ∧ p.2.1 ≤ a) ∧ p.2.2 = cutI src u p.2.1) := fun h => g1 h.1.1
      simp only [e1, cond_true, chkP, if_neg this, endB]
theorem impl_good_loop (hla : 0 ≤ last ∧ last ≤ 1000) : ∀ (r : List Prep) (i : Nat) (u : Int), i ≤ st.length → st.drop i = r → (0 ≤ u ∧ u ≤ a) →
    impl_GoodSink.l5 src a pend st out last upto u st (st.length : Int) (i : Int) = some (endB src a pend out upto (chkP src a (last + (i : Int)) u r)) := by
  intro r
  induction r with
  | nil =>
    intro i u hil hd hu2
    have hi : i = st.length := by have := List.drop_eq_nil_iff.1 hd; omega
    subst hi
    refine impl_GoodSink.eq5 _ _ _ _ _ _ _ _ _ _ _ ?_
    have e1 := slices_Equal_int_eq pend (cutI src u a) hp
    have e2 := slices_Equal_int_eq out (src.take upto.toNat) ho
    have hu3 : upto ≤ (src.length : Int) := by omega
    simp only [impl_GoodSink.t5, ix_lt, Nat.lt_irrefl, decide_false, cond_false, Option.getD_some, Option.getD_none, dec_t hu2.1, dec_t hu2.2, dec_t ha.2, dec_t hu.1, dec_t hu3, cond_true, cutI_def src u a, Int.sub_zero, toNat0', List.drop_zero, e1, e2, Option.bind_some, chkP, endB]
    cases decide (out = List.take upto.toNat src) <;> cases decide (pend = cutI src u a) <;> rfl
  | cons p r ih =>
    intro i u _ hd hu2
    obtain ⟨hi, hk, hd2⟩ := drop_cons_at' (z := (((0 : Int), (0 : Int), []) : Prep)) hd
    have hm : p ∈ st := by rw [← hk]; exact getD_mem _ hi
    have hw : IntKind.i64.wrap (last + 1) = last + 1 := wrap_id (by omega) (by omega)
    have hw2 : IntKind.i64.wrap (last + 1 + (i : Int)) = last + (i : Int) + 1 := by rw [wrap_id (by omega) (by omega)]; omega
    refine impl_GoodSink.eq5 _ _ _ _ _ _ _ _ _ _ _ ?_
    simp only [impl_GoodSink.t5, ix_lt, ix_nn, ix_nat, dec_t hi, cond_true, hk, hw, hw2, impl_within_eq, Option.bind_some, Option.getD_some]
    by_cases g1 : p.1 = last + (i : Int) + 1
    · have e1 : (p.1 != last + (i : Int) + 1) = false := by rw [g1]; exact bne_ref _
      by_cases g7 : p.1 > 1000
      · have : ¬ ((p.1 = last + (i : Int) + 1 ∧ p.1 ≤ 1000) ∧ (u ≤ p.2.1 ∧ p.2.1 ≤ a) ∧ p.2.2 = cutI src u p.2.1) := fun h => by omega
        simp only [e1, cond_false, dec_t g7, cond_true, chkP, if_neg this, endB]
      · cases g2 : inB u a p.2.1 with
        | false =>
          have : ¬ ((p.1 = last + (i : Int) + 1 ∧ p.1 ≤ 1000) ∧ (u ≤ p.2.1 ∧ p.2.1 ≤ a) ∧ p.2.2 = cutI src u p.2.1) := fun h => by rw [inB_iff.2 h.2.1] at g2; cases g2
          simp only [e1, dec_f g7, cond_false, bang_f, cond_true, chkP, if_neg this, endB]
        | true =>
          obtain ⟨g3, g4⟩ := inB_iff.1 g2
          have g5 : p.2.1 ≤ (src.length : Int) := by omega
          have e2 := slices_Equal_int_eq p.2.2 (cutI src u p.2.1) (hr p hm)
          simp only [e1, dec_f g7, cond_false, bang_t, dec_t hu2.1, dec_t g3, dec_t g5, cond_true, cutI_def src u p.2.1, e2, Option.bind_some]
          by_cases g6 : p.2.2 = cutI src u p.2.1
          · have : (p.1 = last + (i : Int) + 1 ∧ p.1 ≤ 1000) ∧ (u ≤ p.2.1 ∧ p.2.1 ≤ a) ∧ p.2.2 = cutI src u p.2.1 := ⟨⟨g1, by omega⟩, ⟨g3, g4⟩, g6⟩
            simp only [dec_t g6, bang_t, cond_false, wrap_succ (show i < 9223372036854775807 by omega), chkP, if_pos this]
            have k := ih (i + 1) p.2.1 (by omega) hd2 ⟨by omega, g4⟩
            rw [show last + ((i + 1 : Nat) : Int) = p.1 by omega] at k
            exact k
          · have : ¬ ((p.1 = last + (i : Int) + 1 ∧ p.1 ≤ 1000) ∧ (u ≤ p.2.1 ∧ p.2.1 ≤ a) ∧ p.2.2 = cutI src u p.2.1) := fun h => g6 h.2.2
            simp only [dec_f g6, bang_f, cond_true, chkP, if_neg this, endB]
    · have e1 : (p.1 != last + (i : Int) + 1) = true := bne_iff_ne.2 g1
      have : ¬ ((p.1 = last + (i : Int) + 1 ∧ p.1 ≤ 1000) ∧ (u ≤ p.2.1 ∧ p.2.1 ≤ a) ∧ p.2.2 = cutI src u p.2.1) := fun h => g1 h.1.1
      simp only [e1, cond_true, chkP, if_neg this, endB]
end
theorem good_eq {s : Snk} (hp : s.2.2.1.length ≤ 1073741824) (ho : s.2.2.2.2.1.length ≤ 1073741824) (hr : ∀ p, p ∈ s.2.2.2.1 → p.2.2.length ≤ 1073741824) :
    spec_GoodSink s.1 s.2.1 s.2.2.1 s.2.2.2.1 s.2.2.2.2.1 s.2.2.2.2.2.1 s.2.2.2.2.2.2 = some (goodSk s) ∧ impl_GoodSink s.1 s.2.1 s.2.2.1 s.2.2.2.1 s.2.2.2.2.1 s.2.2.2.2.2.1 s.2.2.2.2.2.2 = some (goodSk s) := by
  obtain ⟨src, a, pend, st, out, last, upto⟩ := s
  simp only [] at hp ho hr ⊢
  by_cases h1 : src.length ≤ 30
  · have h1' : ¬ (src.length : Int) > 30 := by omega
    cases h2 : inB 0 (src.length : Int) a with
    | false =>
      have e : goodSk (src, a, pend, st, out, last, upto) = false := by simp only [goodSk, h2, Bool.false_and, Bool.and_false]
      rw [e]
      exact ⟨spec_GoodSink.eq _ _ _ _ _ _ _ (by simp only [spec_GoodSink.t, dec_f h1', spec_l1In_eq, h2, Option.bind_some, bang_f, cond_true, cond_false]), impl_GoodSink.eq _ _ _ _ _ _ _ (by simp only [impl_GoodSink.t, dec_f h1', impl_within_eq, h2, Option.bind_some, bang_f, cond_true, cond_false])⟩
    | true =>
      cases h3 : inB 0 a upto with
      | false =>
        have e : goodSk (src, a, pend, st, out, last, upto) = false := by simp only [goodSk, h3, Bool.false_and, Bool.and_false]
        rw [e]
        exact ⟨spec_GoodSink.eq _ _ _ _ _ _ _ (by simp only [spec_GoodSink.t, dec_f h1', spec_l1In_eq, h2, h3, Option.bind_some, bang_f, bang_t, cond_true, cond_false]), impl_GoodSink.eq _ _ _ _ _ _ _ (by simp only [impl_GoodSink.t, dec_f h1', impl_within_eq, h2, h3, Option.bind_some, bang_f, bang_t, cond_true, cond_false])⟩
      | true =>
        cases h4 : inB 0 1000 last with
        | false =>
          have e : goodSk (src, a, pend, st, out, last, upto) = false := by simp only [goodSk, h4, Bool.false_and, Bool.and_false]
          rw [e]
          refine ⟨spec_GoodSink.eq _ _ _ _ _ _ _ (by simp only [spec_GoodSink.t, dec_f h1', spec_l1In_eq, h2, h3, h4, Option.bind_some, bang_f, bang_t, cond_true, cond_false]), impl_GoodSink.eq _ _ _ _ _ _ _ ?_⟩
          simp only [impl_GoodSink.t, dec_f h1', impl_within_eq, h2, h3, h4, Option.bind_some, bang_f, bang_t, cond_true, cond_false]
          cases decide ((st.length : Int) > 4) <;> rfl
        | true =>
          by_cases h5 : st.length ≤ 4
          · have h5' : ¬ (st.length : Int) > 4 := by omega
            obtain ⟨i1, i2⟩ := inB_iff.1 h2
            obtain ⟨i3, i4⟩ := inB_iff.1 h3
            have i5 := inB_iff.1 h4
            have k1 := spec_good_loop (last := last) h1 ⟨i1, i2⟩ ⟨i3, i4⟩ h5 hr hp ho st 0 upto last (Nat.zero_le _) rfl ⟨i3, i4⟩ i5
            have k2 := impl_good_loop h1 ⟨i1, i2⟩ ⟨i3, i4⟩ h5 hr hp ho i5 st 0 upto (Nat.zero_le _) rfl ⟨i3, i4⟩
            have k3 : last + ((0 : Nat) : Int) = last := by omega
            rw [k3] at k2
            have e : goodSk (src, a, pend, st, out, last, upto) = endB src a pend out upto (chkP src a last upto st) := by simp only [goodSk, h2, h3, h4, dec_t h1, dec_t h5, Bool.true_and]
            rw [e]
            refine ⟨spec_GoodSink.eq _ _ _ _ _ _ _ ?_, impl_GoodSink.eq _ _ _ _ _ _ _ ?_⟩
            · simp only [spec_GoodSink.t, dec_f h1', spec_l1In_eq, h2, h3, h4, dec_f h5', Option.bind_some, bang_t, cond_false]
              exact k1
            · simp only [impl_GoodSink.t, dec_f h1', impl_within_eq, h2, h3, h4, dec_f h5', Option.bind_some, bang_t, cond_false]
              exact k2
          · have h5' : (st.length : Int) > 4 := by omega
            have e : goodSk (src, a, pend, st, out, last, upto) = false := by simp only [goodSk, dec_f h5, Bool.false_and, Bool.and_false]
            rw [e]
            exact ⟨spec_GoodSink.eq _ _ _ _ _ _ _ (by simp only [spec_GoodSink.t, dec_f h1', spec_l1In_eq, h2, h3, h4, dec_t h5', Option.bind_some, bang_t, cond_true, cond_false]), impl_GoodSink.eq _ _ _ _ _ _ _ (by simp only [impl_GoodSink.t, dec_f h1', impl_within_eq, h2, h3, dec_t h5', Option.bind_some, bang_t, cond_true, cond_false])⟩
  · have h1' : (src.length : Int) > 30 := by omega
    have e : goodSk (src, a, pend, st, out, last, upto) = false := by simp only [goodSk, dec_f h1, Bool.false_and]
    rw [e]
    exact ⟨spec_GoodSink.eq _ _ _ _ _ _ _ (by simp only [spec_GoodSink.t, dec_t h1', cond_true]), impl_GoodSink.eq _ _ _ _ _ _ _ (by simp only [impl_GoodSink.t, dec_t h1', cond_true])⟩
theorem chkP_fit {src : List Int} {a : Int} : ∀ {r : List Prep} {no u w : Int}, chkP src a no u r = some w → 0 ≤ no → 0 ≤ u → ∀ p, p ∈ r → (0 ≤ p.1 ∧ p.1 ≤ 1000) ∧ (0 ≤ p.2.1 ∧ p.2.1 ≤ a) ∧ p.2.2.length ≤ src.length
  | [], no, u, w, _, _, _, p, hp => by cases hp
  | q :: r, no, u, w, h, hno, hu, p, hp => by
    simp only [chkP] at h
    split at h
    · rename_i g
      obtain ⟨⟨g1, g2⟩, ⟨g3, g4⟩, g5⟩ := g
      rcases List.mem_cons.1 hp with rfl | hp
      · exact ⟨⟨by omega, g2⟩, ⟨by omega, g4⟩, by rw [g5]; exact cutI_len _ _ _⟩
      · exact chkP_fit h (by omega) (by omega) p hp
    · cases h
theorem rows_sum {n : Nat} : ∀ (st : List Prep), (∀ p, p ∈ st → p.2.2.length ≤ n) → (st.map fun p => p.2.2.length).sum ≤ n * st.length
  | [], _ => by simp
  | p :: st, h => by
    have h1 := h p (by simp)
    have h2 := rows_sum st fun q hq => h q (List.mem_cons_of_mem _ hq)
    have e : n * (p :: st).length = n * st.length + n := by rw [List.length_cons, Nat.mul_succ]
    rw [e]
    simp only [List.map_cons, List.sum_cons]
    omega
theorem good_ok {s : Snk} (h : goodSk s = true) : SinkOK 1000 s := by
  obtain ⟨src, a, pend, st, out, last, upto⟩ := s
  simp only [goodSk, Bool.and_eq_true, decide_eq_true_eq, inB_iff] at h
  obtain ⟨⟨h1, h2, h3, h4, h5⟩, h6⟩ := h
  cases hc : chkP src a last upto st with
  | none => rw [hc] at h6; cases h6
  | some u =>
    rw [hc] at h6
    simp only [endB, Bool.and_eq_true, decide_eq_true_eq] at h6
    have hf := chkP_fit hc h5.1 h3.1
    have hpl := cutI_len src u a
    have hsum := rows_sum st (fun p hp => Nat.le_trans (hf p hp).2.2 h1)
    refine ⟨h1, h2.1, h2.2, h4, fun p hp => ⟨(hf p hp).2.1.1, ?_⟩, fun p hp => ⟨?_, ?_⟩, h3.1, ?_, ⟨?_, ?_⟩, ?_⟩
    · have := (hf p hp).2.1.2
      show p.2.1 ≤ (src.length : Int)
      omega
    · have := (hf p hp).1; omega
    · have := (hf p hp).1; omega
    · show upto ≤ (src.length : Int)
      omega
    · show -1000000 ≤ last
      omega
    · show last ≤ 1000000
      omega
    · show pend.length + ((st.map fun p => p.2.2.length).sum + out.length) ≤ 1000
      have ho : out.length ≤ src.length := by rw [h6.2, List.length_take]; omega
      rw [h6.1] at *
      omega
theorem FnExactStepSink_same (v0 : List Int) (v1 : Int) (v2 : List Int) (v3 : List (Int × Int × List Int)) (v4 : List Int) (v5 : Int) (v6 : Int) (v7 : Int) (w0 : WfT (.pair (.sl (.int .i64)) (.pair (.int .i64) (.pair (.sl (.int .i64)) (.pair (.sl (.pair (.int .i64) (.pair (.int .i64) (.sl (.int .i64))))) (.pair (.sl (.int .i64)) (.pair (.int .i64) (.int .i64))))))) (v0, (v1, (v2, (v3, (v4, (v5, v6)))))))
    (hz0 : szT (.pair (.sl (.int .i64)) (.pair (.int .i64) (.pair (.sl (.int .i64)) (.pair (.sl (.pair (.int .i64) (.pair (.int .i64) (.sl (.int .i64))))) (.pair (.sl (.int .i64)) (.pair (.int .i64) (.int .i64))))))) (v0, (v1, (v2, (v3, (v4, (v5, v6)))))) ≤ 1048576) (w1 : WfT (.int .i64) v7) (hz1 : szT (.int .i64) v7 ≤ 1048576) :
    ∃ (a : List Int) (b : Int) (c : List Int) (d : List (Int × Int × List Int)) (e : List Int) (f g : Int) (ok : Bool), spec_StepSink v0 v1 v2 v3 v4 v5 v6 v7 = some (a, b, c, d, e, f, g, ok) ∧ impl_StepSink v0 v1 v2 v3 v4 v5 v6 v7 = some (a, b, c, d, e, f, g, ok) ∧
      szT (.pair (.sl (.int .i64)) (.pair (.int .i64) (.pair (.sl (.int .i64)) (.pair (.sl (.pair (.int .i64) (.pair (.int .i64) (.sl (.int .i64))))) (.pair (.sl (.int .i64)) (.pair (.int .i64) (.int .i64))))))) (a, (b, (c, (d, (e, (f, g)))))) ≤ 1073741824 := by
  have hz := sink_size (v0, v1, v2, v3, v4, v5, v6)
  have hz0' : szT sinkTy (v0, v1, v2, v3, v4, v5, v6) ≤ 1048576 := hz0
  rw [hz] at hz0'
  simp only [] at hz0'
  obtain ⟨e1, e2⟩ := good_eq (s := (v0, v1, v2, v3, v4, v5, v6)) (by show v2.length ≤ _; omega) (by show v4.length ≤ _; omega) (fun p hp => by have := prep_len (st := v3) hp; omega)
  simp only [] at e1 e2
  cases hg : goodSk (v0, v1, v2, v3, v4, v5, v6) with
  | false =>
    rw [hg] at e1 e2
    exact ⟨[], 0, [], [], [], 0, 0, false, spec_StepSink.eq _ _ _ _ _ _ _ _ (by simp only [spec_StepSink.t, e1, Option.bind_some, bang_f, cond_true]), impl_StepSink.eq _ _ _ _ _ _ _ _ (by simp only [impl_StepSink.t, e2, Option.bind_some, bang_f, cond_true]), sink_none⟩
  | true =>
    rw [hg] at e1 e2
    have hok := good_ok hg
    obtain ⟨o1, o2⟩ := own_eq hok (by omega)
    obtain ⟨s1, s2⟩ := step_eq hok (by omega) v7
    simp only [] at o1 o2 s1 s2
    cases hx : stepS (v0, v1, v2, v3, v4, v5, v6) v7 with
    | none =>
      rw [hx] at s1 s2
      simp only [specT, implT] at s1 s2
      exact ⟨[], 0, [], [], [], 0, 0, false, spec_StepSink.eq _ _ _ _ _ _ _ _ (by simp only [spec_StepSink.t, e1, o1, s1, Option.bind_some, bang_t, bang_f, cond_true, cond_false]), impl_StepSink.eq _ _ _ _ _ _ _ _ (by simp only [impl_StepSink.t, e2, o2, s2, Option.bind_some, bang_t, bang_f, cond_true, cond_false]), sink_none⟩
    | some t =>
      rw [hx] at s1 s2
      have hok2 := (stepS_ok hok hx).1
      obtain ⟨p1, p2⟩ := own_eq hok2 (by omega)
      simp only [specT, implT] at s1 s2
      exact ⟨t.1, t.2.1, t.2.2.1, t.2.2.2.1, t.2.2.2.2.1, t.2.2.2.2.2.1, t.2.2.2.2.2.2, true, spec_StepSink.eq _ _ _ _ _ _ _ _ (by simp only [spec_StepSink.t, e1, o1, s1, p1, Option.bind_some, bang_t, cond_false]), impl_StepSink.eq _ _ _ _ _ _ _ _ (by simp only [impl_StepSink.t, e2, o2, s2, p2, Option.bind_some, bang_t, cond_false]), sink_small hok2 (by omega)⟩
end GoV

/- FnExactStepSink: the law out of its core. -/
namespace GoV
open Go
theorem FnExactStepSink_true (v0 : List Int) (v1 : Int) (v2 : List Int) (v3 : List (Int × Int × List Int)) (v4 : List Int) (v5 : Int) (v6 : Int) (v7 : Int) (w0 : WfT (.pair (.sl (.int .i64)) (.pair (.int .i64) (.pair (.sl (.int .i64)) (.pair (.sl (.pair (.int .i64) (.pair (.int .i64) (.sl (.int .i64))))) (.pair (.sl (.int .i64)) (.pair (.int .i64) (.int .i64))))))) (v0, (v1, (v2, (v3, (v4, (v5, v6))))))) (w1 : WfT (.int .i64) v7) : xl03 v0 v1 v2 v3 v4 v5 v6 v7 = some true := by
  obtain ⟨left1, e1, a1, b1z⟩ := laws_szSink_ok (v0) (v1) (v2) (v3) (v4) (v5) (v6) ((1048576 : Int)) w0 (by omega) (by omega)
  by_cases n1 : left1 < 0
  · exact xl03.eq v0 v1 v2 v3 v4 v5 v6 v7 (by simp only [xl03.t, e1, dec_t n1, cond_true, cond_false, Option.bind_some])
  have z1a := b1z (by omega)
  have hz0 : szT (.pair (.sl (.int .i64)) (.pair (.int .i64) (.pair (.sl (.int .i64)) (.pair (.sl (.pair (.int .i64) (.pair (.int .i64) (.sl (.int .i64))))) (.pair (.sl (.int .i64)) (.pair (.int .i64) (.int .i64))))))) (v0, (v1, (v2, (v3, (v4, (v5, v6)))))) ≤ 1048576 := by omega
  have hz1 : szT (.int .i64) v7 ≤ 1048576 := by simp only [szT]; omega
  obtain ⟨ga, gb, gc, gd, ge, gf, gg, gh, hspec, himpl, hsm⟩ := FnExactStepSink_same v0 v1 v2 v3 v4 v5 v6 v7 w0 hz0 w1 hz1
  -- the answer is small
  have e2 := laws_toSink_id (v0) (v1) (v2) (v3) (v4) (v5) (v6) (by omega)
  have e4 := laws_toSink_id (v0) (v1) (v2) (v3) (v4) (v5) (v6) (by omega)
  have e6 := laws_eqSink_rf (ga) (gb) (gc) (gd) (ge) (gf) (gg) (by first | omega | (simp only [szT] at *; omega))
  have e7 := laws_toSink_id (v0) (v1) (v2) (v3) (v4) (v5) (v6) (by omega)
  have e8 := laws_eqSink_rf (v0) (v1) (v2) (v3) (v4) (v5) (v6) (by first | omega | (simp only [szT] at *; omega))
  have q9 := cntT_le (T := (.pair (.sl (.int .i64)) (.pair (.int .i64) (.pair (.sl (.int .i64)) (.pair (.sl (.pair (.int .i64) (.pair (.int .i64) (.sl (.int .i64))))) (.pair (.sl (.int .i64)) (.pair (.int .i64) (.int .i64)))))))) (v0, (v1, (v2, (v3, (v4, (v5, v6)))))) rfl
  simp only [Ty.size] at q9
  have e9 := laws_markSink_3ad_ok (v0) (v1) (v2) (v3) (v4) (v5) (v6) ((1 : Int)) (by omega) (by omega) (by omega)
  have p9 := mrT_cnt (.pair (.sl (.int .i64)) (.pair (.int .i64) (.pair (.sl (.int .i64)) (.pair (.sl (.pair (.int .i64) (.pair (.int .i64) (.sl (.int .i64))))) (.pair (.sl (.int .i64)) (.pair (.int .i64) (.int .i64))))))) (v0, (v1, (v2, (v3, (v4, (v5, v6)))))) (1 : Int)
  have g9 : ¬ (mrT (.pair (.sl (.int .i64)) (.pair (.int .i64) (.pair (.sl (.int .i64)) (.pair (.sl (.pair (.int .i64) (.pair (.int .i64) (.sl (.int .i64))))) (.pair (.sl (.int .i64)) (.pair (.int .i64) (.int .i64))))))) (v0, (v1, (v2, (v3, (v4, (v5, v6)))))) (1 : Int)).2 < 0 := by omega
  have e10 := laws_eqSink_rf (ga) (gb) (gc) (gd) (ge) (gf) (gg) (by first | omega | (simp only [szT] at *; omega))
  have q11 := cntT_le (T := (.pair (.sl (.int .i64)) (.pair (.int .i64) (.pair (.sl (.int .i64)) (.pair (.sl (.pair (.int .i64) (.pair (.int .i64) (.sl (.int .i64))))) (.pair (.sl (.int .i64)) (.pair (.int .i64) (.int .i64)))))))) (ga, (gb, (gc, (gd, (ge, (gf, gg)))))) rfl
  simp only [Ty.size] at q11
  have e11 := laws_markSink_3ad_ok (ga) (gb) (gc) (gd) (ge) (gf) (gg) ((1 : Int)) (by omega) (by omega) (by omega)
  have p11 := mrT_cnt (.pair (.sl (.int .i64)) (.pair (.int .i64) (.pair (.sl (.int .i64)) (.pair (.sl (.pair (.int .i64) (.pair (.int .i64) (.sl (.int .i64))))) (.pair (.sl (.int .i64)) (.pair (.int .i64) (.int .i64))))))) (ga, (gb, (gc, (gd, (ge, (gf, gg)))))) (1 : Int)
  have g11 : ¬ (mrT (.pair (.sl (.int .i64)) (.pair (.int .i64) (.pair (.sl (.int .i64)) (.pair (.sl (.pair (.int .i64) (.pair (.int .i64) (.sl (.int .i64))))) (.pair (.sl (.int .i64)) (.pair (.int .i64) (.int .i64))))))) (ga, (gb, (gc, (gd, (ge, (gf, gg)))))) (1 : Int)).2 < 0 := by omega
  have e12 : laws_heldSink ((mrT (.pair (.sl (.int .i64)) (.pair (.int .i64) (.pair (.sl (.int .i64)) (.pair (.sl (.pair (.int .i64) (.pair (.int .i64) (.sl (.int .i64))))) (.pair (.sl (.int .i64)) (.pair (.int .i64) (.int .i64))))))) (ga, (gb, (gc, (gd, (ge, (gf, gg)))))) (1 : Int)).1.1) (gb) ((mrT (.pair (.sl (.int .i64)) (.pair (.int .i64) (.pair (.sl (.int .i64)) (.pair (.sl (.pair (.int .i64) (.pair (.int .i64) (.sl (.int .i64))))) (.pair (.sl (.int .i64)) (.pair (.int .i64) (.int .i64))))))) (ga, (gb, (gc, (gd, (ge, (gf, gg)))))) (1 : Int)).1.2.2.1) ((mrT (.pair (.sl (.int .i64)) (.pair (.int .i64) (.pair (.sl (.int .i64)) (.pair (.sl (.pair (.int .i64) (.pair (.int .i64) (.sl (.int .i64))))) (.pair (.sl (.int .i64)) (.pair (.int .i64) (.int .i64))))))) (ga, (gb, (gc, (gd, (ge, (gf, gg)))))) (1 : Int)).1.2.2.2.1) ((mrT (.pair (.sl (.int .i64)) (.pair (.int .i64) (.pair (.sl (.int .i64)) (.pair (.sl (.pair (.int .i64) (.pair (.int .i64) (.sl (.int .i64))))) (.pair (.sl (.int .i64)) (.pair (.int .i64) (.int .i64))))))) (ga, (gb, (gc, (gd, (ge, (gf, gg)))))) (1 : Int)).1.2.2.2.2.1) (gf) (gg) ((1 : Int)) = some (mrT (.pair (.sl (.int .i64)) (.pair (.int .i64) (.pair (.sl (.int .i64)) (.pair (.sl (.pair (.int .i64) (.pair (.int .i64) (.sl (.int .i64))))) (.pair (.sl (.int .i64)) (.pair (.int .i64) (.int .i64))))))) (ga, (gb, (gc, (gd, (ge, (gf, gg)))))) (1 : Int)).2 := laws_heldSink_ok (ga) (gb) (gc) (gd) (ge) (gf) (gg) (1 : Int) (by omega) (by omega) (by omega)
  have e13 := laws_toSink_id (v0) (v1) (v2) (v3) (v4) (v5) (v6) (by omega)
  have e15 := laws_eqSink_rf (ga) (gb) (gc) (gd) (ge) (gf) (gg) (by first | omega | (simp only [szT] at *; omega))
  have e16 : laws_heldSink ((mrT (.pair (.sl (.int .i64)) (.pair (.int .i64) (.pair (.sl (.int .i64)) (.pair (.sl (.pair (.int .i64) (.pair (.int .i64) (.sl (.int .i64))))) (.pair (.sl (.int .i64)) (.pair (.int .i64) (.int .i64))))))) (ga, (gb, (gc, (gd, (ge, (gf, gg)))))) (1 : Int)).1.1) (gb) ((mrT (.pair (.sl (.int .i64)) (.pair (.int .i64) (.pair (.sl (.int .i64)) (.pair (.sl (.pair (.int .i64) (.pair (.int .i64) (.sl (.int .i64))))) (.pair (.sl (.int .i64)) (.pair (.int .i64) (.int .i64))))))) (ga, (gb, (gc, (gd, (ge, (gf, gg)))))) (1 : Int)).1.2.2.1) ((mrT (.pair (.sl (.int .i64)) (.pair (.int .i64) (.pair (.sl (.int .i64)) (.pair (.sl (.pair (.int .i64) (.pair (.int .i64) (.sl (.int .i64))))) (.pair (.sl (.int .i64)) (.pair (.int .i64) (.int .i64))))))) (ga, (gb, (gc, (gd, (ge, (gf, gg)))))) (1 : Int)).1.2.2.2.1) ((mrT (.pair (.sl (.int .i64)) (.pair (.int .i64) (.pair (.sl (.int .i64)) (.pair (.sl (.pair (.int .i64) (.pair (.int .i64) (.sl (.int .i64))))) (.pair (.sl (.int .i64)) (.pair (.int .i64) (.int .i64))))))) (ga, (gb, (gc, (gd, (ge, (gf, gg)))))) (1 : Int)).1.2.2.2.2.1) (gf) (gg) ((1 : Int)) = some (mrT (.pair (.sl (.int .i64)) (.pair (.int .i64) (.pair (.sl (.int .i64)) (.pair (.sl (.pair (.int .i64) (.pair (.int .i64) (.sl (.int .i64))))) (.pair (.sl (.int .i64)) (.pair (.int .i64) (.int .i64))))))) (ga, (gb, (gc, (gd, (ge, (gf, gg)))))) (1 : Int)).2 := laws_heldSink_ok (ga) (gb) (gc) (gd) (ge) (gf) (gg) (1 : Int) (by omega) (by omega) (by omega)
  refine xl03.eq v0 v1 v2 v3 v4 v5 v6 v7 ?_
  simp only [xl03.t, e1, dec_f n1, e2, e4, e6, e7, e8, e9, dec_f g9, e10, e11, dec_f g11, e12, e13, e15, e16, hspec, himpl, cond_true, cond_false, Option.bind_some, bne_ref, beq_ref, bang_t]
end GoV
