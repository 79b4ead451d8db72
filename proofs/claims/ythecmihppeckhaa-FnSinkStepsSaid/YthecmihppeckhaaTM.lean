/- A part of the proof of FnSinkSteps: an interpreter of the model over plain data, its soundness, and what it makes of the functions that the statement reaches. Conditions: none beyond what the given statement itself says. -/
import Derived.Test.YthecmihppeckhaaTL
set_option linter.unusedVariables false
set_option linter.unusedSimpArgs false
set_option linter.unnecessarySimpa false
set_option linter.unusedSectionVars false
/- Sinks: alike for the program and its specification; a step that is none gives back what came in. -/
namespace GoV
open Go
theorem clone_int (r : List Int) (hl : r.length ≤ 1073741824) : xs04 r = some r := by
  refine xs04.eq r ?_
  have : r.length ≤ 4294967296 := by omega
  simp only [xs04.t, dec_t this, cond_true]
theorem spec_l16Same_eq (a b : List Int) (ha : a.length ≤ 1073741824) : spec_l16Same a b = some (decide (a = b)) := by
  refine spec_l16Same.eq a b ?_
  simp only [spec_l16Same.t, bneI]
  by_cases hl : a.length = b.length
  · have key : ∀ i, i ≤ a.length → spec_l16Same.l4 a b (a.length : Int) (i : Int) = some (decide (a.drop i = b.drop i)) := by
      refine upto ?_ ?_
      · have e1 : a.drop a.length = [] := List.drop_length
        have e2 : b.drop a.length = [] := by rw [hl, List.drop_length]
        rw [e1, e2]
        exact spec_l16Same.eq4 _ _ _ _ (by simp only [spec_l16Same.t4, ix_lt, Nat.lt_irrefl, decide_false, cond_false]; rfl)
      · intro i hi ih
        have hi2 : i < b.length := by omega
        refine spec_l16Same.eq4 _ _ _ _ ?_
        simp only [spec_l16Same.t4, ix_lt, ix_nn, ix_nat, dec_t hi, dec_t hi2, cond_true, wrap_succ (show i < 9223372036854775807 by omega)]
        rw [drop_getD (0 : Int) hi, drop_getD (0 : Int) hi2]
        by_cases he : a.getD i 0 = b.getD i 0
        · have h1 : (a.getD i 0 != b.getD i 0) = false := by rw [he]; exact bne_ref _
          simp only [h1, cond_false]
          rw [ih, he]
          congr 1
          exact bool_eq (by simp)
        · have h1 : (a.getD i 0 != b.getD i 0) = true := bne_iff_ne.2 he
          have hn : ¬ (a.getD i 0 :: a.drop (i + 1) = b.getD i 0 :: b.drop (i + 1)) := fun h => he (by injection h)
          simp only [h1, cond_true, dec_f hn]
    simp only [dec_t hl, bang_t, cond_false]
    have k := key 0 (Nat.zero_le _)
    rw [List.drop_zero, List.drop_zero] at k
    exact k
  · have hn : ¬ a = b := fun h => hl (by rw [h])
    simp only [dec_f hl, bang_f, cond_true, dec_f hn]
theorem slices_Equal_int_eq (a b : List Int) (ha : a.length ≤ 1073741824) : xs05 a b = some (decide (a = b)) := by
  refine xs05.eq a b ?_
  simp only [xs05.t, bneI]
  by_cases hl : a.length = b.length
  · have key : ∀ i, i ≤ a.length → xs05.l4 a b (a.length : Int) (i : Int) = some (decide (a.drop i = b.drop i)) := by
      refine upto ?_ ?_
      · have e1 : a.drop a.length = [] := List.drop_length
        have e2 : b.drop a.length = [] := by rw [hl, List.drop_length]
        rw [e1, e2]
        exact xs05.eq4 _ _ _ _ (by simp only [xs05.t4, ix_lt, Nat.lt_irrefl, decide_false, cond_false]; rfl)
      · intro i hi ih
        have hi2 : i < b.length := by omega
        refine xs05.eq4 _ _ _ _ ?_
        simp only [xs05.t4, ix_lt, ix_nn, ix_nat, dec_t hi, dec_t hi2, cond_true, wrap_succ (show i < 9223372036854775807 by omega)]
        rw [drop_getD (0 : Int) hi, drop_getD (0 : Int) hi2]
        by_cases he : a.getD i 0 = b.getD i 0
        · have h1 : (a.getD i 0 != b.getD i 0) = false := by rw [he]; exact bne_ref _
          simp only [h1, cond_false]
          rw [ih, he]
          congr 1
          exact bool_eq (by simp)
        · have h1 : (a.getD i 0 != b.getD i 0) = true := bne_iff_ne.2 he
          have hn : ¬ (a.getD i 0 :: a.drop (i + 1) = b.getD i 0 :: b.drop (i + 1)) := fun h => he (by injection h)
          simp only [h1, cond_true, dec_f hn]
    simp only [dec_t hl, bang_t, cond_false]
    have k := key 0 (Nat.zero_le _)
    rw [List.drop_zero, List.drop_zero] at k
    exact k
  · have hn : ¬ a = b := fun h => hl (by rw [h])
    simp only [dec_f hl, bang_f, cond_true, dec_f hn]

theorem flat_self {α : Type} : ∀ l : List α, l.flatMap (fun x => [x]) = l
  | [] => rfl
  | x :: l => by rw [List.flatMap_cons, flat_self l]; rfl
theorem take_to' {n : Nat} {α : Type} (l : List α) : List.take (((n : Nat) : Int) - 0).toNat (List.drop (Int.toNat 0) l) = l.take n := by
  rw [Int.sub_zero, Int.toNat_natCast]; rfl
theorem toNat0' : Int.toNat (0 : Int) = 0 := rfl
theorem toNat1' : Int.toNat (1 : Int) = 1 := rfl
section
variable {src pend out : List Int} {a last upto : Int} {st : List Prep} {n : Nat}
theorem from_eq (hl : st.length ≤ 1000) : spec_l16From src a pend st out last upto = some (storedU st upto) ∧ impl_Sink_stored src a pend st out last upto = some (storedU st upto) := by
  by_cases h0 : st.length = 0
  · have h1 : ¬ ((st.length : Int) > 0) := by omega
    have h2 : ¬ (IntKind.i64.wrap ((st.length : Int) - 1) ≥ 0) := by rw [wrap_id (by omega) (by omega)]; omega
    refine ⟨spec_l16From.eq _ _ _ _ _ _ _ ?_, impl_Sink_stored.eq _ _ _ _ _ _ _ ?_⟩
    · simp only [spec_l16From.t, dec_f h1, cond_false, storedU, if_pos h0]
    · simp only [impl_Sink_stored.t, dec_f h2, cond_false, storedU, if_pos h0]
  · have h1 : (st.length : Int) > 0 := by omega
    have h3 : st.length - 1 < st.length := by omega
    have h2 : ((st.length - 1 : Nat) : Int) ≥ 0 := by omega
    refine ⟨spec_l16From.eq _ _ _ _ _ _ _ ?_, impl_Sink_stored.eq _ _ _ _ _ _ _ ?_⟩
    · simp only [spec_l16From.t, dec_t h1, cond_true, wrap_pred (show 0 < st.length by omega) (by omega), ix_nn, ix_nat, dec_t h3, storedU, if_neg h0]
    · simp only [impl_Sink_stored.t, wrap_pred (show 0 < st.length by omega) (show st.length < 9223372036854775807 by omega), dec_t h2, cond_true, ix_nn, ix_nat, dec_t h3, storedU, if_neg h0]
theorem crash_eq (hl : st.length ≤ 1000) : spec_l16Crash_5b7 src a pend st out last upto = some (src, storedU st upto, [], st, out, last, upto) ∧ xi07 src a pend st out last upto = some (true, src, storedU st upto, [], st, out, last, upto) := by
  obtain ⟨h1, h2⟩ := from_eq (src := src) (a := a) (pend := pend) (out := out) (last := last) (upto := upto) hl
  exact ⟨spec_l16Crash_5b7.eq _ _ _ _ _ _ _ (by simp only [spec_l16Crash_5b7.t, h1, Option.bind_some]), xi07.eq _ _ _ _ _ _ _ (by simp only [xi07.t, h2, Option.bind_some])⟩
end
abbrev SpecR : Type := (Int × Int × Int × Bool × (List Int) × Int × (List Int) × (List (Int × Int × List Int)) × (List Int) × Int × Int) ⊕ ((List Int) × Int × (List Int) × (List (Int × Int × List Int)) × (List Int) × Int × Int × Bool × Int × Int × Int)
def specT (s : Snk) (o : Option Snk) : SpecR := match o with
  | some t => .inr (t.1, t.2.1, t.2.2.1, t.2.2.2.1, t.2.2.2.2.1, t.2.2.2.2.2.1, t.2.2.2.2.2.2, true, s.2.1, s.2.2.2.2.2.1, s.2.2.2.2.2.2)
  | none => .inl (s.2.1, s.2.2.2.2.2.1, s.2.2.2.2.2.2, false, s.1, s.2.1, s.2.2.1, s.2.2.2.1, s.2.2.2.2.1, s.2.2.2.2.2.1, s.2.2.2.2.2.2)
def implT (s : Snk) (o : Option Snk) : Bool × Snk := match o with
  | some t => (true, t)
  | none => (false, s)
theorem prep_len {st : List Prep} {p : Prep} (h : p ∈ st) : p.2.2.length ≤ (st.map fun p => p.2.2.length).sum := sum_le (fun p : Prep => p.2.2.length) h
theorem step_eq {s : Snk} {n : Nat} (h : SinkOK n s) (hn : n ≤ 1000000) (k : Int) :
    spec_l16Step_3ad s.1 s.2.1 s.2.2.1 s.2.2.2.1 s.2.2.2.2.1 s.2.2.2.2.2.1 s.2.2.2.2.2.2 k = some (specT s (stepS s k)) ∧ impl_Sink_step_1e4 s.1 s.2.1 s.2.2.1 s.2.2.2.1 s.2.2.2.2.1 s.2.2.2.2.2.1 s.2.2.2.2.2.2 k = some (implT s (stepS s k)) := by
  obtain ⟨src, a, pend, st, out, last, upto⟩ := s
  obtain ⟨h1, h2, h3, h4, h5, h6, h7, h8, h9, h10⟩ := h
  simp only [holdS] at h1 h2 h3 h4 h5 h6 h7 h8 h9 h10
  simp only []
  by_cases k1 : k = 1
  · have e1 : (k == 1) = true := beq_iff_eq.2 k1
    by_cases g : a = (src.length : Int)
    · have e2 : (a == (src.length : Int)) = true := beq_iff_eq.2 g
      have em : impl_Sink_read_dfc src a pend st out last upto = some (false, src, a, pend, st, out, last, upto) := impl_Sink_read_dfc.eq _ _ _ _ _ _ _ (by simp only [impl_Sink_read_dfc.t, e2, cond_true])
      refine ⟨spec_l16Step_3ad.eq _ _ _ _ _ _ _ _ ?_, impl_Sink_step_1e4.eq _ _ _ _ _ _ _ _ ?_⟩
      · simp only [spec_l16Step_3ad.t, e1, e2, cond_true, stepS, if_pos k1, if_pos g, specT]
      · simp only [impl_Sink_step_1e4.t, e1, em, Option.bind_some, cond_true, stepS, if_pos k1, if_pos g, implT]
    · have e2 : (a == (src.length : Int)) = false := beq_eq_false_iff_ne.2 g
      have g1 : a.toNat < src.length := by omega
      have g2 : pend.length + [src.getD a.toNat 0].length ≤ 4294967296 := by simp only [List.length_cons, List.length_nil]; omega
      have hw : IntKind.i64.wrap (a + 1) = a + 1 := wrap_id (by omega) (by omega)
      have em : impl_Sink_read_dfc src a pend st out last upto = some (true, src, a + 1, pend ++ [src.getD a.toNat 0], st, out, last, upto) := impl_Sink_read_dfc.eq _ _ _ _ _ _ _ (by simp only [impl_Sink_read_dfc.t, e2, cond_true, cond_false, dec_t h2, dec_t g1, dec_t g2, hw])
      refine ⟨spec_l16Step_3ad.eq _ _ _ _ _ _ _ _ ?_, impl_Sink_step_1e4.eq _ _ _ _ _ _ _ _ ?_⟩
      · simp only [spec_l16Step_3ad.t, e1, e2, cond_true, cond_false, dec_t h2, dec_t g1, dec_t g2, hw, stepS, if_pos k1, if_neg g, specT]
      · simp only [impl_Sink_step_1e4.t, e1, em, Option.bind_some, cond_true, stepS, if_pos k1, if_neg g, implT]
  · have e1 : (k == 1) = false := beq_eq_false_iff_ne.2 k1
    by_cases k2 : k = 2
    · have e2 : (k == 2) = true := beq_iff_eq.2 k2
      have hw : IntKind.i64.wrap (last + (st.length : Int)) = last + (st.length : Int) := wrap_id (by omega) (by omega)
      by_cases g1 : pend.length = 0
      · have e3 : ((pend.length : Int) == 0) = true := beq_iff_eq.2 (by omega)
        have em : xi01 src a pend st out last upto = some (false, src, a, pend, st, out, last, upto) := xi01.eq _ _ _ _ _ _ _ (by simp only [xi01.t, e3, cond_true])
        refine ⟨spec_l16Step_3ad.eq _ _ _ _ _ _ _ _ ?_, impl_Sink_step_1e4.eq _ _ _ _ _ _ _ _ ?_⟩
        · simp only [spec_l16Step_3ad.t, e1, e2, e3, cond_true, cond_false, stepS, if_neg k1, if_pos k2, if_pos g1, specT]
        · simp only [impl_Sink_step_1e4.t, e1, e2, em, Option.bind_some, cond_true, cond_false, stepS, if_neg k1, if_pos k2, if_pos g1, implT]
      · have e3 : ((pend.length : Int) == 0) = false := beq_eq_false_iff_ne.2 (by omega)
        by_cases g2 : st.length ≥ 4
        · have g2' : (st.length : Int) ≥ 4 := by omega
          have em : xi01 src a pend st out last upto = some (false, src, a, pend, st, out, last, upto) := xi01.eq _ _ _ _ _ _ _ (by simp only [xi01.t, e3, dec_t g2', cond_true, cond_false])
          refine ⟨spec_l16Step_3ad.eq _ _ _ _ _ _ _ _ ?_, impl_Sink_step_1e4.eq _ _ _ _ _ _ _ _ ?_⟩
          · simp only [spec_l16Step_3ad.t, e1, e2, e3, dec_t g2', cond_true, cond_false, stepS, if_neg k1, if_pos k2, if_neg g1, if_pos g2, specT]
          · simp only [impl_Sink_step_1e4.t, e1, e2, em, Option.bind_some, cond_true, cond_false, stepS, if_neg k1, if_pos k2, if_neg g1, if_pos g2, implT]
        · have g2' : ¬ (st.length : Int) ≥ 4 := by omega
          by_cases g3 : last + (st.length : Int) ≥ 1000
          · have em : xi01 src a pend st out last upto = some (false, src, a, pend, st, out, last, upto) := xi01.eq _ _ _ _ _ _ _ (by simp only [xi01.t, e3, dec_f g2', hw, dec_t g3, cond_true, cond_false])
            refine ⟨spec_l16Step_3ad.eq _ _ _ _ _ _ _ _ ?_, impl_Sink_step_1e4.eq _ _ _ _ _ _ _ _ ?_⟩
            · simp only [spec_l16Step_3ad.t, e1, e2, e3, dec_f g2', hw, dec_t g3, cond_true, cond_false, stepS, if_neg k1, if_pos k2, if_neg g1, if_neg g2, if_pos g3, specT]
            · simp only [impl_Sink_step_1e4.t, e1, e2, em, Option.bind_some, cond_true, cond_false, stepS, if_neg k1, if_pos k2, if_neg g1, if_neg g2, if_pos g3, implT]
          · have hw2 : IntKind.i64.wrap (last + (st.length : Int) + 1) = last + (st.length : Int) + 1 := wrap_id (by omega) (by omega)
            have g4 : st.length + [(last + (st.length : Int) + 1, a, pend)].length ≤ 4294967296 := by simp only [List.length_cons, List.length_nil]; omega
            have em : xi01 src a pend st out last upto = some (true, src, a, [], st ++ [(last + (st.length : Int) + 1, a, pend)], out, last, upto) := xi01.eq _ _ _ _ _ _ _ (by simp only [xi01.t, e3, dec_f g2', hw, hw2, dec_f g3, dec_t g4, cond_true, cond_false])
            refine ⟨spec_l16Step_3ad.eq _ _ _ _ _ _ _ _ ?_, impl_Sink_step_1e4.eq _ _ _ _ _ _ _ _ ?_⟩
            · simp only [spec_l16Step_3ad.t, e1, e2, e3, dec_f g2', hw, hw2, dec_f g3, dec_t g4, cond_true, cond_false, stepS, if_neg k1, if_pos k2, if_neg g1, if_neg g2, if_neg g3, specT]
            · simp only [impl_Sink_step_1e4.t, e1, e2, em, Option.bind_some, cond_true, cond_false, stepS, if_neg k1, if_pos k2, if_neg g1, if_neg g2, if_neg g3, implT]
    · have e2 : (k == 2) = false := beq_eq_false_iff_ne.2 k2
      by_cases k3 : k = 3
      · have e3 : (k == 3) = true := beq_iff_eq.2 k3
        by_cases g1 : st.length = 0
        · have e4 : ((st.length : Int) == 0) = true := beq_iff_eq.2 (by omega)
          have em : xi03 src a pend st out last upto = some (false, src, a, pend, st, out, last, upto) := xi03.eq _ _ _ _ _ _ _ (by simp only [xi03.t, e4, cond_true])
          refine ⟨spec_l16Step_3ad.eq _ _ _ _ _ _ _ _ ?_, impl_Sink_step_1e4.eq _ _ _ _ _ _ _ _ ?_⟩
          · simp only [spec_l16Step_3ad.t, e1, e2, e3, e4, cond_true, cond_false, stepS, if_neg k1, if_neg k2, if_pos k3, if_pos g1, specT]
          · simp only [impl_Sink_step_1e4.t, e1, e2, e3, em, Option.bind_some, cond_true, cond_false, stepS, if_neg k1, if_neg k2, if_pos k3, if_pos g1, implT]
        · have e4 : ((st.length : Int) == 0) = false := beq_eq_false_iff_ne.2 (by omega)
          have g2 : 0 < st.length := by omega
          have g3 : (1 : Int) ≤ (st.length : Int) := by omega
          have hp := prep_len (getD_mem (l := st) (((0 : Int), (0 : Int), []) : Prep) g2)
          have g4 : out.length + (st.getD 0 ((0 : Int), (0 : Int), [])).2.2.length ≤ 4294967296 := by omega
          have em : xi03 src a pend st out last upto = some (true, src, a, pend, st.drop 1, out ++ (st.getD 0 ((0 : Int), (0 : Int), [])).2.2, (st.getD 0 ((0 : Int), (0 : Int), [])).1, (st.getD 0 ((0 : Int), (0 : Int), [])).2.1) := xi03.eq _ _ _ _ _ _ _ (by simp only [xi03.t, e4, toNat0', dec_t g2, Option.getD_some, dec_t g3, dec_t g4, toNat1', cond_true, cond_false])
          refine ⟨spec_l16Step_3ad.eq _ _ _ _ _ _ _ _ ?_, impl_Sink_step_1e4.eq _ _ _ _ _ _ _ _ ?_⟩
          · simp only [spec_l16Step_3ad.t, e1, e2, e3, e4, toNat0', dec_t g2, Option.getD_some, dec_t g3, dec_t g4, toNat1', cond_true, cond_false, stepS, if_neg k1, if_neg k2, if_pos k3, if_neg g1, specT]
          · simp only [impl_Sink_step_1e4.t, e1, e2, e3, em, Option.bind_some, cond_true, cond_false, stepS, if_neg k1, if_neg k2, if_pos k3, if_neg g1, implT]
      · have e3 : (k == 3) = false := beq_eq_false_iff_ne.2 k3
        by_cases k4 : k = 4
        · have e4 : (k == 4) = true := beq_iff_eq.2 k4
          obtain ⟨c1, c2⟩ := crash_eq (src := src) (a := a) (pend := pend) (out := out) (last := last) (upto := upto) (show st.length ≤ 1000 by omega)
          refine ⟨spec_l16Step_3ad.eq _ _ _ _ _ _ _ _ ?_, impl_Sink_step_1e4.eq _ _ _ _ _ _ _ _ ?_⟩
          · simp only [spec_l16Step_3ad.t, e1, e2, e3, e4, c1, Option.bind_some, cond_true, cond_false, stepS, if_neg k1, if_neg k2, if_neg k3, if_pos k4, specT]
          · simp only [impl_Sink_step_1e4.t, e1, e2, e3, e4, c2, Option.bind_some, cond_true, cond_false, stepS, if_neg k1, if_neg k2, if_neg k3, if_pos k4, implT]
        · have e4 : (k == 4) = false := beq_eq_false_iff_ne.2 k4
          by_cases k5 : k = 5
          · have e5 : (k == 5) = true := beq_iff_eq.2 k5
            by_cases g1 : st.length < 2
            · have g1' : (st.length : Int) < 2 := by omega
              refine ⟨spec_l16Step_3ad.eq _ _ _ _ _ _ _ _ ?_, impl_Sink_step_1e4.eq _ _ _ _ _ _ _ _ ?_⟩
              · simp only [spec_l16Step_3ad.t, e1, e2, e3, e4, e5, dec_t g1', cond_true, cond_false, stepS, if_neg k1, if_neg k2, if_neg k3, if_neg k4, if_pos k5, if_pos g1, specT]
              · simp only [impl_Sink_step_1e4.t, e1, e2, e3, e4, e5, dec_t g1', cond_true, cond_false, stepS, if_neg k1, if_neg k2, if_neg k3, if_neg k4, if_pos k5, if_pos g1, implT]
            · have g1' : ¬ (st.length : Int) < 2 := by omega
              have g2 : (0 : Int) ≤ ((st.length - 1 : Nat) : Int) := by omega
              have g3 : ((st.length - 1 : Nat) : Int) ≤ (st.length : Int) := by omega
              obtain ⟨c1, c2⟩ := crash_eq (src := src) (a := a) (pend := pend) (out := out) (last := last) (upto := upto) (st := st.take (st.length - 1)) (by rw [List.length_take]; omega)
              refine ⟨spec_l16Step_3ad.eq _ _ _ _ _ _ _ _ ?_, impl_Sink_step_1e4.eq _ _ _ _ _ _ _ _ ?_⟩
              · simp only [spec_l16Step_3ad.t, e1, e2, e3, e4, e5, dec_f g1', wrap_pred (show 0 < st.length by omega) (show st.length < 9223372036854775807 by omega), Option.getD_none, dec_t g2, dec_t g3, take_to', c1, Option.bind_some, cond_true, cond_false, stepS, if_neg k1, if_neg k2, if_neg k3, if_neg k4, if_pos k5, if_neg g1, specT]
              · simp only [impl_Sink_step_1e4.t, e1, e2, e3, e4, e5, dec_f g1', wrap_pred (show 0 < st.length by omega) (show st.length < 9223372036854775807 by omega), Option.getD_none, dec_t g2, dec_t g3, take_to', c2, Option.bind_some, cond_true, cond_false, stepS, if_neg k1, if_neg k2, if_neg k3, if_neg k4, if_pos k5, if_neg g1, implT]
          · have e5 : (k == 5) = false := beq_eq_false_iff_ne.2 k5
            refine ⟨spec_l16Step_3ad.eq _ _ _ _ _ _ _ _ ?_, impl_Sink_step_1e4.eq _ _ _ _ _ _ _ _ ?_⟩
            · simp only [spec_l16Step_3ad.t, e1, e2, e3, e4, e5, cond_false, stepS, if_neg k1, if_neg k2, if_neg k3, if_neg k4, if_neg k5, specT]
            · simp only [impl_Sink_step_1e4.t, e1, e2, e3, e4, e5, cond_false, stepS, if_neg k1, if_neg k2, if_neg k3, if_neg k4, if_neg k5, implT]
theorem own_eq {s : Snk} {n : Nat} (h : SinkOK n s) (hn : n ≤ 1000000) :
    spec_l16Own s.1 s.2.1 s.2.2.1 s.2.2.2.1 s.2.2.2.2.1 s.2.2.2.2.2.1 s.2.2.2.2.2.2 = some s ∧ impl_Sink_own s.1 s.2.1 s.2.2.1 s.2.2.2.1 s.2.2.2.2.1 s.2.2.2.2.2.1 s.2.2.2.2.2.2 = some s := by
  obtain ⟨src, a, pend, st, out, last, upto⟩ := s
  obtain ⟨h1, h2, h3, h4, h5, h6, h7, h8, h9, h10⟩ := h
  simp only [holdS] at h1 h2 h3 h4 h5 h6 h7 h8 h9 h10
  simp only []
  have l1 : ([] : List Int).length + src.length ≤ 4294967296 := by simp only [List.length_nil]; omega
  have l2 : ([] : List Int).length + pend.length ≤ 4294967296 := by simp only [List.length_nil]; omega
  have l3 : ([] : List Int).length + out.length ≤ 4294967296 := by simp only [List.length_nil]; omega
  refine ⟨spec_l16Own.eq _ _ _ _ _ _ _ ?_, impl_Sink_own.eq _ _ _ _ _ _ _ ?_⟩
  · simp only [spec_l16Own.t, dec_t l1, dec_t l2, dec_t l3, cond_true, List.nil_append]
    refine push_loop st ((0 : Int), (0 : Int), []) (fun acc i => spec_l16Own.l6 src a pend st out last upto [] 0 [] [] [] 0 0 acc st (st.length : Int) (i : Int)) (fun p => [p]) (fun _ => Nat.le_refl _) (fun acc => some (src, a, pend, acc, out, last, upto)) ?_ ?_ _ (by rw [flat_self])
    · intro acc b _ hb
      exact spec_l16Own.eq6 _ _ _ _ _ _ _ _ _ _ _ _ _ _ _ _ _ _ (by simp only [spec_l16Own.t6, ix_lt, Nat.lt_irrefl, decide_false, cond_false]; exact hb)
    · intro acc i b hi ha hb
      have hp := prep_len (getD_mem (((0 : Int), (0 : Int), []) : Prep) hi)
      have g1 : ([] : List Int).length + (st.getD i ((0 : Int), (0 : Int), [])).2.2.length ≤ 4294967296 := by simp only [List.length_nil]; omega
      have g2 : acc.length + [((st.getD i ((0 : Int), (0 : Int), [])).1, (st.getD i ((0 : Int), (0 : Int), [])).2.1, (st.getD i ((0 : Int), (0 : Int), [])).2.2)].length ≤ 4294967296 := by simp only [List.length_cons, List.length_nil]; omega
      refine spec_l16Own.eq6 _ _ _ _ _ _ _ _ _ _ _ _ _ _ _ _ _ _ ?_
      simp only [spec_l16Own.t6, ix_lt, ix_nn, ix_nat, dec_t hi, cond_true, dec_t g1, List.nil_append, dec_t g2, wrap_succ (show i < 9223372036854775807 by omega)]
      exact hb
  · simp only [impl_Sink_own.t, clone_int src (by omega), clone_int pend (by omega), clone_int out (by omega), Option.bind_some]
    refine push_loop st ((0 : Int), (0 : Int), []) (fun acc i => impl_Sink_own.l4 src a pend st out last upto [] 0 [] [] [] 0 0 acc st (st.length : Int) (i : Int)) (fun p => [p]) (fun _ => Nat.le_refl _) (fun acc => some (src, a, pend, acc, out, last, upto)) ?_ ?_ _ (by rw [flat_self])
    · intro acc b _ hb
      exact impl_Sink_own.eq4 _ _ _ _ _ _ _ _ _ _ _ _ _ _ _ _ _ _ (by simp only [impl_Sink_own.t4, ix_lt, Nat.lt_irrefl, decide_false, cond_false]; exact hb)
    · intro acc i b hi ha hb
      have hp := prep_len (getD_mem (((0 : Int), (0 : Int), []) : Prep) hi)
      have g2 : acc.length + [((st.getD i ((0 : Int), (0 : Int), [])).1, (st.getD i ((0 : Int), (0 : Int), [])).2.1, (st.getD i ((0 : Int), (0 : Int), [])).2.2)].length ≤ 4294967296 := by simp only [List.length_cons, List.length_nil]; omega
      refine impl_Sink_own.eq4 _ _ _ _ _ _ _ _ _ _ _ _ _ _ _ _ _ _ ?_
      simp only [impl_Sink_own.t4, ix_lt, ix_nn, ix_nat, dec_t hi, cond_true, clone_int (st.getD i ((0 : Int), (0 : Int), [])).2.2 (by omega), Option.bind_some, dec_t g2, wrap_succ (show i < 9223372036854775807 by omega)]
      exact hb
abbrev sinkTy : Ty := .pair (.sl (.int .i64)) (.pair (.int .i64) (.pair (.sl (.int .i64)) (.pair (.sl (.pair (.int .i64) (.pair (.int .i64) (.sl (.int .i64))))) (.pair (.sl (.int .i64)) (.pair (.int .i64) (.int .i64))))))
theorem sink_size (s : Snk) : szT sinkTy s = s.1.length + (s.2.2.1.length + ((s.2.2.2.1.length + (s.2.2.2.1.map fun p => p.2.2.length).sum) + s.2.2.2.2.1.length)) := by
  have e : ∀ st : List Prep, (st.map (szT (.pair (.int .i64) (.pair (.int .i64) (.sl (.int .i64)))))) = st.map fun p => p.2.2.length := fun st => List.map_congr_left fun p _ => by
    show 0 + (0 + szT (.sl (.int .i64)) p.2.2) = _
    rw [szT_sl_flat (t := .int .i64) p.2.2 rfl]
    omega
  show szT (.sl (.int .i64)) s.1 + (0 + (szT (.sl (.int .i64)) s.2.2.1 + ((s.2.2.2.1.length + (s.2.2.2.1.map (szT (.pair (.int .i64) (.pair (.int .i64) (.sl (.int .i64)))))).sum) + (szT (.sl (.int .i64)) s.2.2.2.2.1 + (0 + 0))))) = _
  rw [e, szT_sl_flat (t := .int .i64) s.1 rfl, szT_sl_flat (t := .int .i64) s.2.2.1 rfl, szT_sl_flat (t := .int .i64) s.2.2.2.2.1 rfl]
  omega
theorem sink_small {s : Snk} {n : Nat} (h : SinkOK n s) (hn : n ≤ 1000000) : szT sinkTy s ≤ 1073741824 := by
  have h1 := h.hold
  have h2 := h.src
  have h3 := h.st4
  rw [sink_size]
  simp only [holdS] at h1
  omega
theorem sink_none : szT sinkTy (([] : List Int), (0 : Int), ([] : List Int), ([] : List Prep), ([] : List Int), (0 : Int), (0 : Int)) ≤ 1073741824 := by rw [sink_size]; simp
end GoV
