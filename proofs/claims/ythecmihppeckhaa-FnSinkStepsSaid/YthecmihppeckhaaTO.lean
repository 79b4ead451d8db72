/- A part of the proof of FnSinkSteps: an interpreter of the model over plain data, its soundness, and what it makes of the functions that the statement reaches. Conditions: none beyond what the given statement itself says. -/
import Derived.Test.YthecmihppeckhaaTN
set_option linter.unusedVariables false
set_option linter.unusedSimpArgs false
set_option linter.unnecessarySimpa false
set_option linter.unusedSectionVars false
/- Sinks that are good: what is asked of them, given out, recovered and drained. -/
namespace GoV
open Go
def endB (src : List Int) (a : Int) (pend out : List Int) (upto : Int) (o : Option Int) : Bool := match o with
  | none => false
  | some u => decide (pend = cutI src u a) && decide (out = src.take upto.toNat)
theorem cutI_def (src : List Int) (u v : Int) : List.take (v - u).toNat (List.drop u.toNat src) = cutI src u v := rfl
theorem cutI_len (src : List Int) (u v : Int) : (cutI src u v).length ≤ src.length := by
  rw [cutI, List.length_take, List.length_drop]; omega
theorem drop_cons_at2 {α : Type} {l r : List α} {i : Nat} {x z : α} (h : l.drop i = x :: r) : i < l.length ∧ l.getD i z = x ∧ l.drop (i + 1) = r := by
  have h1 : i < l.length := by
    apply Classical.byContradiction
    intro hn
    rw [List.drop_eq_nil_of_le (by omega)] at h
    cases h
  rw [drop_getD z h1] at h
  injection h with h2 h3
  exact ⟨h1, h2, h3⟩
section
variable {src pend out : List Int} {a last upto : Int} {st : List Prep} (hs : src.length ≤ 30) (ha : 0 ≤ a ∧ a ≤ (src.length : Int)) (hu : 0 ≤ upto ∧ upto ≤ a) (hst : st.length ≤ 4) (hr : ∀ p, p ∈ st → p.2.2.length ≤ 1073741824) (hp : pend.length ≤ 1073741824) (ho : out.length ≤ 1073741824)
include hs ha hu hst hr hp ho
theorem impl_good_loop (hla : 0 ≤ last ∧ last ≤ 1000) : ∀ (r : List Prep) (i : Nat) (u : Int), i ≤ st.length → st.drop i = r → (0 ≤ u ∧ u ≤ a) →
    impl_GoodSink.l5 src a pend st out last upto u st (st.length : Int) (i : Int) = some (endB src a pend out upto (chkP src a (last + (i : Int)) u r)) := by
  intro r
  induction r with
  | nil =>
    intro i u hil hd hu2
    have hi : i = st.length := by have := List.drop_eq_nil_iff.1 hd; omega
    subst hi
    refine impl_GoodSink.eq5 _ _ _ _ _ _ _ _ _ _ _ ?_
    have e1 := slices_Equal_int_eq pend (cutI src u a) hp
    have e2 := slices_Equal_int_eq out (src.take upto.toNat) ho
    have hu3 : upto ≤ (src.length : Int) := by omega
    simp only [impl_GoodSink.t5, ix_lt, Nat.lt_irrefl, decide_false, cond_false, Option.getD_some, Option.getD_none, dec_t hu2.1, dec_t hu2.2, dec_t ha.2, dec_t hu.1, dec_t hu3, cond_true, cutI_def src u a, Int.sub_zero, toNat0', List.drop_zero, e1, e2, Option.bind_some, chkP, endB]
    cases decide (out = List.take upto.toNat src) <;> cases decide (pend = cutI src u a) <;> rfl
  | cons p r ih =>
    intro i u _ hd hu2
    obtain ⟨hi, hk, hd2⟩ := drop_cons_at2 (z := (((0 : Int), (0 : Int), []) : Prep)) hd
    have hm : p ∈ st := by rw [← hk]; exact getD_mem _ hi
    have hw : IntKind.i64.wrap (last + 1) = last + 1 := wrap_id (by omega) (by omega)
    have hw2 : IntKind.i64.wrap (last + 1 + (i : Int)) = last + (i : Int) + 1 := by rw [wrap_id (by omega) (by omega)]; omega
    refine impl_GoodSink.eq5 _ _ _ _ _ _ _ _ _ _ _ ?_
    simp only [impl_GoodSink.t5, ix_lt, ix_nn, ix_nat, dec_t hi, cond_true, hk, hw, hw2, impl_within_eq, Option.bind_some, Option.getD_some]
    by_cases g1 : p.1 = last + (i : Int) + 1
    · have e1 : (p.1 != last + (i : Int) + 1) = false := by rw [g1]; exact bne_ref _
      by_cases g7 : p.1 > 1000
      · have : ¬ ((p.1 = last + (i : Int) + 1 ∧ p.1 ≤ 1000) ∧ (u ≤ p.2.1 ∧ p.2.1 ≤ a) ∧ p.2.2 = cutI src u p.2.1) := fun h => by omega
        simp only [e1, cond_false, dec_t g7, cond_true, chkP, if_neg this, endB]
      · cases g2 : inB u a p.2.1 with
        | false =>
          have : ¬ ((p.1 = last + (i : Int) + 1 ∧ p.1 ≤ 1000) ∧ (u ≤ p.2.1 ∧ p.2.1 ≤ a) ∧ p.2.2 = cutI src u p.2.1) := fun h => by rw [inB_iff.2 h.2.1] at g2; cases g2
          simp only [e1, dec_f g7, cond_false, bang_f, cond_true, chkP, if_neg this, endB]
        | true =>
          obtain ⟨g3, g4⟩ := inB_iff.1 g2
          have g5 : p.2.1 ≤ (src.length : Int) := by omega
          have e2 := slices_Equal_int_eq p.2.2 (cutI src u p.2.1) (hr p hm)
          simp only [e1, dec_f g7, cond_false, bang_t, dec_t hu2.1, dec_t g3, dec_t g5, cond_true, cutI_def src u p.2.1, e2, Option.bind_some]
          by_cases g6 : p.2.2 = cutI src u p.2.1
          · have : (p.1 = last + (i : Int) + 1 ∧ p.1 ≤ 1000) ∧ (u ≤ p.2.1 ∧ p.2.1 ≤ a) ∧ p.2.2 = cutI src u p.2.1 := ⟨⟨g1, by omega⟩, ⟨g3, g4⟩, g6⟩
            simp only [dec_t g6, bang_t, cond_false, wrap_succ (show i < 9223372036854775807 by omega), chkP, if_pos this]
            have k := ih (i + 1) p.2.1 (by omega) hd2 ⟨by omega, g4⟩
            rw [show last + ((i + 1 : Nat) : Int) = p.1 by omega] at k
            exact k
          · have : ¬ ((p.1 = last + (i : Int) + 1 ∧ p.1 ≤ 1000) ∧ (u ≤ p.2.1 ∧ p.2.1 ≤ a) ∧ p.2.2 = cutI src u p.2.1) := fun h => g6 h.2.2
            simp only [dec_f g6, bang_f, cond_true, chkP, if_neg this, endB]
    · have e1 : (p.1 != last + (i : Int) + 1) = true := bne_iff_ne.2 g1
      have : ¬ ((p.1 = last + (i : Int) + 1 ∧ p.1 ≤ 1000) ∧ (u ≤ p.2.1 ∧ p.2.1 ≤ a) ∧ p.2.2 = cutI src u p.2.1) := fun h => g1 h.1.1
      simp only [e1, cond_true, chkP, if_neg this, endB]
end
theorem chkP_fit {src : List Int} {a : Int} : ∀ {r : List Prep} {no u w : Int}, chkP src a no u r = some w → 0 ≤ no → 0 ≤ u → ∀ p, p ∈ r → (0 ≤ p.1 ∧ p.1 ≤ 1000) ∧ (0 ≤ p.2.1 ∧ p.2.1 ≤ a) ∧ p.2.2.length ≤ src.length
  | [], no, u, w, _, _, _, p, hp => by cases hp
  | q :: r, no, u, w, h, hno, hu, p, hp => by
    simp only [chkP] at h
    split at h
    · rename_i g
      obtain ⟨⟨g1, g2⟩, ⟨g3, g4⟩, g5⟩ := g
      rcases List.mem_cons.1 hp with rfl | hp
      · exact ⟨⟨by omega, g2⟩, ⟨by omega, g4⟩, by rw [g5]; exact cutI_len _ _ _⟩
      · exact chkP_fit h (by omega) (by omega) p hp
    · cases h
theorem rows_sum {n : Nat} : ∀ (st : List Prep), (∀ p, p ∈ st → p.2.2.length ≤ n) → (st.map fun p => p.2.2.length).sum ≤ n * st.length
  | [], _ => by simp
  | p :: st, h => by
    have h1 := h p (by simp)
    have h2 := rows_sum st fun q hq => h q (List.mem_cons_of_mem _ hq)
    have e : n * (p :: st).length = n * st.length + n := by rw [List.length_cons, Nat.mul_succ]
    rw [e]
    simp only [List.map_cons, List.sum_cons]
    omega
theorem goodP_ok {s : Snk} {w : Int} (h : GoodP s w) : SinkOK 1000 s := by
  have hle := h.le
  obtain ⟨src, a, pend, st, out, last, upto⟩ := s
  obtain ⟨h1, h2, h3, h4, h5, h6, h7, h8, h9, h10⟩ := h
  simp only [] at h1 h2 h3 h4 h5 h6 h7 h8 h9 h10 hle
  have hf := chkP_fit h8 h7.1 h4
  have hpl := cutI_len src w a
  have hsum := rows_sum st (fun p hp => Nat.le_trans (hf p hp).2.2 h1)
  refine ⟨h1, h2, h3, h6, fun p hp => ⟨(hf p hp).2.1.1, ?_⟩, fun p hp => ⟨?_, ?_⟩, h4, ?_, ⟨?_, ?_⟩, ?_⟩
  · have := (hf p hp).2.1.2
    show p.2.1 ≤ (src.length : Int)
    omega
  · have := (hf p hp).1; omega
  · have := (hf p hp).1; omega
  · show upto ≤ (src.length : Int)
    omega
  · show -1000000 ≤ last
    omega
  · show last ≤ 1000000
    omega
  · show pend.length + ((st.map fun p => p.2.2.length).sum + out.length) ≤ 1000
    have ho : out.length ≤ src.length := by rw [h10, List.length_take]; omega
    rw [h9] at *
    omega
theorem good_impl {s : Snk} {w : Int} (h : GoodP s w) : impl_GoodSink s.1 s.2.1 s.2.2.1 s.2.2.2.1 s.2.2.2.2.1 s.2.2.2.2.2.1 s.2.2.2.2.2.2 = some true := by
  have hok := goodP_ok h
  obtain ⟨src, a, pend, st, out, last, upto⟩ := s
  obtain ⟨h1, h2, h3, h4, h5, h6, h7, h8, h9, h10⟩ := h
  have hh := hok.hold
  simp only [holdS] at h1 h2 h3 h4 h5 h6 h7 h8 h9 h10 hh ⊢
  have g1 : ¬ (src.length : Int) > 30 := by omega
  have g2 : inB 0 (src.length : Int) a = true := inB_iff.2 ⟨h2, h3⟩
  have g3 : inB 0 a upto = true := inB_iff.2 ⟨h4, h5⟩
  have g4 : inB 0 1000 last = true := inB_iff.2 h7
  have g5 : ¬ (st.length : Int) > 4 := by omega
  have k2 := impl_good_loop (pend := pend) (out := out) h1 ⟨h2, h3⟩ ⟨h4, h5⟩ h6 (fun p hp => by have := prep_len hp; omega) (by omega) (by omega) h7 st 0 upto (Nat.zero_le _) rfl ⟨h4, h5⟩
  have k3 : last + ((0 : Nat) : Int) = last := by omega
  rw [k3, h8] at k2
  have k4 : endB src a pend out upto (some w) = true := by simp only [endB, dec_t h9, dec_t h10, Bool.and_true]
  rw [k4] at k2
  refine impl_GoodSink.eq _ _ _ _ _ _ _ ?_
  simp only [impl_GoodSink.t, dec_f g1, impl_within_eq, g2, g3, g4, dec_f g5, Option.bind_some, bang_t, cond_false]
  exact k2
theorem often_loop (k : Int) : ∀ (f : Nat) (s : Snk) (n m : Nat), SinkOK n s → n + f ≤ 100000 → m + f ≤ 100000 → stepS (oftenS f s k).1 k = none →
    xi08.l2 s.1 s.2.1 s.2.2.1 s.2.2.2.1 s.2.2.2.2.1 s.2.2.2.2.2.1 s.2.2.2.2.2.2 k (m : Int) = some (((m + (oftenS f s k).2 : Nat) : Int), (oftenS f s k).1)
  | f, s, n, m, h, hn, hm, he => by
    obtain ⟨_, s2⟩ := step_eq h (by omega) k
    cases hx : stepS s k with
    | none =>
      have e : oftenS f s k = (s, 0) := by cases f with | zero => rfl | succ f => rw [oftenS, hx]
      rw [hx] at s2
      rw [e]
      refine xi08.eq2 _ _ _ _ _ _ _ _ _ ?_
      simp only [xi08.t2, s2, implT, Option.bind_some, cond_false, Nat.add_zero]
    | some t =>
      cases f with
      | zero => rw [oftenS, hx] at he; cases he
      | succ f =>
        have e : oftenS (f + 1) s k = ((oftenS f t k).1, (oftenS f t k).2 + 1) := by rw [oftenS, hx]
        rw [e] at he
        have ih := often_loop k f t (n + 1) (m + 1) (stepS_ok h hx).1 (by omega) (by omega) he
        rw [hx] at s2
        rw [e]
        refine xi08.eq2 _ _ _ _ _ _ _ _ _ ?_
        simp only [xi08.t2, s2, implT, Option.bind_some, cond_true, wrap_succ (show m < 9223372036854775807 by omega)]
        rw [ih, show m + 1 + (oftenS f t k).2 = m + ((oftenS f t k).2 + 1) by omega]
theorem often_impl {s : Snk} {n : Nat} {k : Int} (f : Nat) (h : SinkOK n s) (hn : n + f ≤ 100000) (he : stepS (oftenS f s k).1 k = none) :
    xi08 s.1 s.2.1 s.2.2.1 s.2.2.2.1 s.2.2.2.2.1 s.2.2.2.2.2.1 s.2.2.2.2.2.2 k = some (((oftenS f s k).2 : Int), (oftenS f s k).1) := by
  have := often_loop k f s n 0 h hn (by omega) he
  rw [Nat.zero_add] at this
  exact xi08.eq _ _ _ _ _ _ _ _ this
theorem commit_impl {src pend out : List Int} {at_ last upto w : Int} {st : List Prep} (h : GoodP (src, at_, pend, st, out, last, upto) w) :
    xi08 src at_ pend st out last upto 3 = some ((st.length : Int), src, at_, pend, [], src.take w.toNat, last + (st.length : Int), w) := by
  obtain ⟨k1, k2⟩ := often_commit 4 h h.st4
  have := often_impl (k := 3) 4 (goodP_ok h) (by omega) (by rw [k2]; exact none_commit)
  rw [k1, k2] at this
  exact this
theorem read_impl {src pend out : List Int} {at_ last upto w : Int} {st : List Prep} (h : GoodP (src, at_, pend, st, out, last, upto) w) :
    ∃ m, xi08 src at_ pend st out last upto 1 = some (m, src, (src.length : Int), cutI src w (src.length : Int), st, out, last, upto) := by
  have hs := h.src
  have k2 := often_read 30 h (by simp only [] at hs; omega)
  have := often_impl (k := 1) 30 (goodP_ok h) (by omega) (by rw [k2]; exact none_read)
  rw [k2] at this
  exact ⟨_, this⟩
theorem prep_impl {src pend out : List Int} {a last upto w : Int} {st : List Prep} (h : GoodP (src, a, pend, st, out, last, upto) w) :
    xi01 src a pend st out last upto = some (implT (src, a, pend, st, out, last, upto) (stepS (src, a, pend, st, out, last, upto) 2)) := by
  have h7 := h.la
  have h6 := h.st4
  simp only [] at h6 h7
  have k1 : ¬ (2 : Int) = 1 := by omega
  have hw : IntKind.i64.wrap (last + (st.length : Int)) = last + (st.length : Int) := wrap_id (by omega) (by omega)
  refine xi01.eq _ _ _ _ _ _ _ ?_
  by_cases g1 : pend.length = 0
  · have e3 : ((pend.length : Int) == 0) = true := beq_iff_eq.2 (by omega)
    simp only [xi01.t, e3, cond_true, stepS, if_neg k1, if_true, if_pos g1, implT]
  · have e3 : ((pend.length : Int) == 0) = false := beq_eq_false_iff_ne.2 (by omega)
    by_cases g2 : st.length ≥ 4
    · have g2' : (st.length : Int) ≥ 4 := by omega
      simp only [xi01.t, e3, dec_t g2', cond_true, cond_false, stepS, if_neg k1, if_true, if_neg g1, if_pos g2, implT]
    · have g2' : ¬ (st.length : Int) ≥ 4 := by omega
      by_cases g3 : last + (st.length : Int) ≥ 1000
      · simp only [xi01.t, e3, dec_f g2', hw, dec_t g3, cond_true, cond_false, stepS, if_neg k1, if_true, if_neg g1, if_neg g2, if_pos g3, implT]
      · have hw2 : IntKind.i64.wrap (last + (st.length : Int) + 1) = last + (st.length : Int) + 1 := wrap_id (by omega) (by omega)
        have g4 : st.length + [(last + (st.length : Int) + 1, a, pend)].length ≤ 4294967296 := by simp only [List.length_cons, List.length_nil]; omega
        simp only [xi01.t, e3, dec_f g2', hw, hw2, dec_f g3, dec_t g4, cond_true, cond_false, stepS, if_neg k1, if_true, if_neg g1, if_neg g2, if_neg g3, implT]
/-- Behind a crash: all that was stored is given out. -/
theorem implT_snd (s : Snk) (o : Option Snk) : implT s o = ((implT s o).1, o.getD s) := by cases o <;> rfl
/-- What DrainSink does where there is room: read, prepare, commit. -/
theorem tail_impl {src pend out : List Int} {a last upto w : Int} {st : List Prep} (h : GoodP (src, a, pend, st, out, last, upto) w) (hst : st.length ≤ 3) (hn : last + (st.length : Int) < 1000) :
    ∃ (m : Int) (s2 : Snk) (b : Bool) (s3 : Snk) (n : Int) (l2 : List Int) (la : Int), xi08 src a pend st out last upto 1 = some (m, s2) ∧ xi01 s2.1 s2.2.1 s2.2.2.1 s2.2.2.2.1 s2.2.2.2.2.1 s2.2.2.2.2.2.1 s2.2.2.2.2.2.2 = some (b, s3) ∧
      xi08 s3.1 s3.2.1 s3.2.2.1 s3.2.2.2.1 s3.2.2.2.2.1 s3.2.2.2.2.2.1 s3.2.2.2.2.2.2 3 = some (n, src, (src.length : Int), l2, [], src, la, (src.length : Int)) ∧ GoodP (src, (src.length : Int), l2, [], src, la, (src.length : Int)) (src.length : Int) := by
  obtain ⟨m, r⟩ := read_impl h
  have p := prep_impl (read_good h)
  rw [implT_snd] at p
  obtain ⟨v, l2, hv, hv2, e⟩ := drain_tail h hst hn
  generalize hs3 : (stepS (src, (src.length : Int), cutI src w (src.length : Int), st, out, last, upto) 2).getD (src, (src.length : Int), cutI src w (src.length : Int), st, out, last, upto) = s3 at p hv e
  have o := often_impl (k := 3) 4 (goodP_ok hv) (by omega) (by rw [e]; exact none_commit)
  rw [e] at o
  have gf : GoodP (oftenS 4 s3 3).1 v := by
    obtain ⟨x1, x2, x3, x4, x5, x6, x7⟩ := s3
    obtain ⟨_, k2⟩ := often_commit 4 hv hv.st4
    rw [k2]
    exact commit_good hv
  rw [e, hv2] at gf
  exact ⟨m, _, _, s3, _, l2, _, r, p, o, gf⟩
theorem drain_impl {src pend out : List Int} {a last upto w : Int} {st : List Prep} (h : GoodP (src, a, pend, st, out, last, upto) w) (hn : last + (st.length : Int) < 1000) :
    ∃ (l2 : List Int) (la n : Int), impl_DrainSink src a pend st out last upto = some (src, (src.length : Int), l2, [], src, la, (src.length : Int), n, true) ∧ GoodP (src, (src.length : Int), l2, [], src, la, (src.length : Int)) (src.length : Int) := by
  obtain ⟨_, o2⟩ := own_eq (goodP_ok h) (by omega)
  have e := good_impl h
  simp only [] at o2 e
  by_cases g : st.length = 4
  · have c := commit_impl h
    have g2 := commit_good h
    obtain ⟨m, s2, b, s3, n, l2, la, t1, t2, t3, t4⟩ := tail_impl g2 (by simp) (by simp only [List.length_nil]; omega)
    obtain ⟨_, q2⟩ := own_eq (goodP_ok t4) (by omega)
    simp only [] at q2
    have e4 : ((st.length : Int) == 4) = true := beq_iff_eq.2 (by omega)
    exact ⟨l2, la, _, impl_DrainSink.eq _ _ _ _ _ _ _ (by simp only [impl_DrainSink.t, e, o2, e4, c, t1, t2, t3, q2, Option.bind_some, bang_t, cond_true, cond_false]; rfl), t4⟩
  · have h4 := h.st4
    simp only [] at h4
    obtain ⟨m, s2, b, s3, n, l2, la, t1, t2, t3, t4⟩ := tail_impl h (by omega) hn
    obtain ⟨_, q2⟩ := own_eq (goodP_ok t4) (by omega)
    simp only [] at q2
    have e4 : ((st.length : Int) == 4) = false := beq_eq_false_iff_ne.2 (by omega)
    exact ⟨l2, la, _, impl_DrainSink.eq _ _ _ _ _ _ _ (by simp only [impl_DrainSink.t, e, o2, e4, t1, t2, t3, q2, Option.bind_some, bang_t, cond_true, cond_false]; rfl), t4⟩
theorem step_num {s t : Snk} {k w : Int} (h : GoodP s w) (hx : stepS s k = some t) : t.2.2.2.2.2.1 + (t.2.2.2.1.length : Int) ≤ s.2.2.2.2.2.1 + (s.2.2.2.1.length : Int) + 1 := by
  obtain ⟨src, a, pend, st, out, last, upto⟩ := s
  have hc := h.chk
  simp only [stepS] at hx hc
  split at hx
  · split at hx
    · cases hx
    · obtain rfl := Option.some.inj hx
      show last + (st.length : Int) ≤ last + (st.length : Int) + 1
      omega
  · split at hx
    · split at hx
      · cases hx
      · split at hx
        · cases hx
        · split at hx
          · cases hx
          · obtain rfl := Option.some.inj hx
            simp only [List.length_append, List.length_singleton]
            omega
    · split at hx
      · split at hx
        · cases hx
        · obtain rfl := Option.some.inj hx
          cases st with
          | nil => rename_i g; exact absurd rfl g
          | cons p r =>
            have := (chkP_cons.1 hc).1.1.1
            simp only [List.drop_succ_cons, List.drop_zero, List.getD_cons_zero, List.length_cons]
            omega
      · split at hx
        · obtain rfl := Option.some.inj hx
          show last + (st.length : Int) ≤ last + (st.length : Int) + 1
          omega
        · split at hx
          · split at hx
            · cases hx
            · obtain rfl := Option.some.inj hx
              simp only [List.length_take]
              omega
          · cases hx
end GoV

/- Good sinks: alike for the program and its specification. -/
namespace GoV
open Go
def goodSk (s : Snk) : Bool := (decide (s.1.length ≤ 30) && (inB 0 (s.1.length : Int) s.2.1 && (inB 0 s.2.1 s.2.2.2.2.2.2 && (decide (s.2.2.2.1.length ≤ 4) && inB 0 1000 s.2.2.2.2.2.1)))) && endB s.1 s.2.1 s.2.2.1 s.2.2.2.2.1 s.2.2.2.2.2.2 (chkP s.1 s.2.1 s.2.2.2.2.2.1 s.2.2.2.2.2.2 s.2.2.2.1)
theorem drop_cons_at' {α : Type} {l r : List α} {i : Nat} {x z : α} (h : l.drop i = x :: r) : i < l.length ∧ l.getD i z = x ∧ l.drop (i + 1) = r := by
  have h1 : i < l.length := by
    apply Classical.byContradiction
    intro hn
    rw [List.drop_eq_nil_of_le (by omega)] at h
    cases h
  rw [drop_getD z h1] at h
  injection h with h2 h3
  exact ⟨h1, h2, h3⟩
section
variable {src pend out : List Int} {a last upto : Int} {st : List Prep} (hs : src.length ≤ 30) (ha : 0 ≤ a ∧ a ≤ (src.length : Int)) (hu : 0 ≤ upto ∧ upto ≤ a) (hst : st.length ≤ 4) (hr : ∀ p, p ∈ st → p.2.2.length ≤ 1073741824) (hp : pend.length ≤ 1073741824) (ho : out.length ≤ 1073741824)
include hs ha hu hst hr hp ho
theorem spec_good_loop : ∀ (r : List Prep) (i : Nat) (u no : Int), i ≤ st.length → st.drop i = r → (0 ≤ u ∧ u ≤ a) → (0 ≤ no ∧ no ≤ 1000) →
    spec_GoodSink.l6 src a pend st out last upto u no st (st.length : Int) (i : Int) = some (endB src a pend out upto (chkP src a no u r)) := by
  intro r
  induction r with
  | nil =>
    intro i u no hil hd hu2 _
    have hi : i = st.length := by have := List.drop_eq_nil_iff.1 hd; omega
    subst hi
    refine spec_GoodSink.eq6 _ _ _ _ _ _ _ _ _ _ _ _ ?_
    have e1 := spec_l16Same_eq pend (cutI src u a) hp
    have e2 := spec_l16Same_eq out (src.take upto.toNat) ho
    have hu3 : upto ≤ (src.length : Int) := by omega
    simp only [spec_GoodSink.t6, ix_lt, Nat.lt_irrefl, decide_false, cond_false, Option.getD_some, Option.getD_none, dec_t hu2.1, dec_t hu2.2, dec_t ha.2, dec_t hu.1, dec_t hu3, cond_true, cutI_def src u a, Int.sub_zero, toNat0', List.drop_zero, e1, e2, Option.bind_some, chkP, endB]
    cases decide (pend = cutI src u a) <;> rfl
  | cons p r ih =>
    intro i u no _ hd hu2 hno
    obtain ⟨hi, hk, hd2⟩ := drop_cons_at' (z := (((0 : Int), (0 : Int), []) : Prep)) hd
    have hm : p ∈ st := by rw [← hk]; exact getD_mem _ hi
    have hw : IntKind.i64.wrap (no + 1) = no + 1 := wrap_id (by omega) (by omega)
    refine spec_GoodSink.eq6 _ _ _ _ _ _ _ _ _ _ _ _ ?_
    simp only [spec_GoodSink.t6, ix_lt, ix_nn, ix_nat, dec_t hi, cond_true, hk, hw, spec_l1In_eq, Option.bind_some, Option.getD_some]
    by_cases g1 : p.1 = no + 1
    · have e1 : (p.1 != no + 1) = false := by rw [g1]; exact bne_ref _
      cases g2 : inB u a p.2.1 with
      | false =>
        have : ¬ ((p.1 = no + 1 ∧ p.1 ≤ 1000) ∧ (u ≤ p.2.1 ∧ p.2.1 ≤ a) ∧ p.2.2 = cutI src u p.2.1) := fun h => by rw [inB_iff.2 h.2.1] at g2; cases g2
        simp only [e1, cond_false, bang_f, cond_true, chkP, if_neg this, endB]
      | true =>
        obtain ⟨g3, g4⟩ := inB_iff.1 g2
        have g5 : p.2.1 ≤ (src.length : Int) := by omega
        have e2 := spec_l16Same_eq p.2.2 (cutI src u p.2.1) (hr p hm)
        simp only [e1, cond_false, bang_t, dec_t hu2.1, dec_t g3, dec_t g5, cond_true, cutI_def src u p.2.1, e2, Option.bind_some]
        by_cases g6 : p.2.2 = cutI src u p.2.1
        · by_cases g7 : p.1 > 1000
          · have : ¬ ((p.1 = no + 1 ∧ p.1 ≤ 1000) ∧ (u ≤ p.2.1 ∧ p.2.1 ≤ a) ∧ p.2.2 = cutI src u p.2.1) := fun h => by omega
            simp only [dec_t g6, bang_t, cond_false, dec_t g7, cond_true, chkP, if_neg this, endB]
          · have : (p.1 = no + 1 ∧ p.1 ≤ 1000) ∧ (u ≤ p.2.1 ∧ p.2.1 ≤ a) ∧ p.2.2 = cutI src u p.2.1 := ⟨⟨g1, by omega⟩, ⟨g3, g4⟩, g6⟩
            simp only [dec_t g6, bang_t, cond_false, dec_f g7, wrap_succ (show i < 9223372036854775807 by omega), chkP, if_pos this]
            exact ih (i + 1) p.2.1 p.1 (by omega) hd2 ⟨by omega, g4⟩ ⟨by omega, by omega⟩
        · have : ¬ ((p.1 = no + 1 ∧ p.1 ≤ 1000) ∧ (u ≤ p.2.1 ∧ p.2.1 ≤ a) ∧ p.2.2 = cutI src u p.2.1) := fun h => g6 h.2.2
          simp only [dec_f g6, bang_f, cond_true, chkP, if_neg this, endB]
    · have e1 : (p.1 != no + 1) = true := bne_iff_ne.2 g1
      have : ¬ ((p.1 = no + 1 ∧ p.1 ≤ 1000) ∧ (u ≤ p.2.1 ∧ p.2.1 ≤ a) ∧ p.2.2 = cutI src u p.2.1) := fun h => g1 h.1.1
      simp only [e1, cond_true, chkP, if_neg this, endB]
end
theorem good_eq {s : Snk} (hp : s.2.2.1.length ≤ 1073741824) (ho : s.2.2.2.2.1.length ≤ 1073741824) (hr : ∀ p, p ∈ s.2.2.2.1 → p.2.2.length ≤ 1073741824) :
    spec_GoodSink s.1 s.2.1 s.2.2.1 s.2.2.2.1 s.2.2.2.2.1 s.2.2.2.2.2.1 s.2.2.2.2.2.2 = some (goodSk s) ∧ impl_GoodSink s.1 s.2.1 s.2.2.1 s.2.2.2.1 s.2.2.2.2.1 s.2.2.2.2.2.1 s.2.2.2.2.2.2 = some (goodSk s) := by
  obtain ⟨src, a, pend, st, out, last, upto⟩ := s
  simp only [] at hp ho hr ⊢
  by_cases h1 : src.length ≤ 30
  · have h1' : ¬ (src.length : Int) > 30 := by omega
    cases h2 : inB 0 (src.length : Int) a with
    | false =>
      have e : goodSk (src, a, pend, st, out, last, upto) = false := by simp only [goodSk, h2, Bool.false_and, Bool.and_false]
      rw [e]
      exact ⟨spec_GoodSink.eq _ _ _ _ _ _ _ (by simp only [spec_GoodSink.t, dec_f h1', spec_l1In_eq, h2, Option.bind_some, bang_f, cond_true, cond_false]), impl_GoodSink.eq _ _ _ _ _ _ _ (by simp only [impl_GoodSink.t, dec_f h1', impl_within_eq, h2, Option.bind_some, bang_f, cond_true, cond_false])⟩
    | true =>
      cases h3 : inB 0 a upto with
      | false =>
        have e : goodSk (src, a, pend, st, out, last, upto) = false := by simp only [goodSk, h3, Bool.false_and, Bool.and_false]
        rw [e]
        exact ⟨spec_GoodSink.eq _ _ _ _ _ _ _ (by simp only [spec_GoodSink.t, dec_f h1', spec_l1In_eq, h2, h3, Option.bind_some, bang_f, bang_t, cond_true, cond_false]), impl_GoodSink.eq _ _ _ _ _ _ _ (by simp only [impl_GoodSink.t, dec_f h1', impl_within_eq, h2, h3, Option.bind_some, bang_f, bang_t, cond_true, cond_false])⟩
      | true =>
        cases h4 : inB 0 1000 last with
        | false =>
          have e : goodSk (src, a, pend, st, out, last, upto) = false := by simp only [goodSk, h4, Bool.false_and, Bool.and_false]
          rw [e]
          refine ⟨spec_GoodSink.eq _ _ _ _ _ _ _ (by simp only [spec_GoodSink.t, dec_f h1', spec_l1In_eq, h2, h3, h4, Option.bind_some, bang_f, bang_t, cond_true, cond_false]), impl_GoodSink.eq _ _ _ _ _ _ _ ?_⟩
          simp only [impl_GoodSink.t, dec_f h1', impl_within_eq, h2, h3, h4, Option.bind_some, bang_f, bang_t, cond_true, cond_false]
          cases decide ((st.length : Int) > 4) <;> rfl
        | true =>
          by_cases h5 : st.length ≤ 4
          · have h5' : ¬ (st.length : Int) > 4 := by omega
            obtain ⟨i1, i2⟩ := inB_iff.1 h2
            obtain ⟨i3, i4⟩ := inB_iff.1 h3
            have i5 := inB_iff.1 h4
            have k1 := spec_good_loop (last := last) h1 ⟨i1, i2⟩ ⟨i3, i4⟩ h5 hr hp ho st 0 upto last (Nat.zero_le _) rfl ⟨i3, i4⟩ i5
            have k2 := impl_good_loop h1 ⟨i1, i2⟩ ⟨i3, i4⟩ h5 hr hp ho i5 st 0 upto (Nat.zero_le _) rfl ⟨i3, i4⟩
            have k3 : last + ((0 : Nat) : Int) = last := by omega
            rw [k3] at k2
            have e : goodSk (src, a, pend, st, out, last, upto) = endB src a pend out upto (chkP src a last upto st) := by simp only [goodSk, h2, h3, h4, dec_t h1, dec_t h5, Bool.true_and]
            rw [e]
            refine ⟨spec_GoodSink.eq _ _ _ _ _ _ _ ?_, impl_GoodSink.eq _ _ _ _ _ _ _ ?_⟩
            · simp only [spec_GoodSink.t, dec_f h1', spec_l1In_eq, h2, h3, h4, dec_f h5', Option.bind_some, bang_t, cond_false]
              exact k1
            · simp only [impl_GoodSink.t, dec_f h1', impl_within_eq, h2, h3, h4, dec_f h5', Option.bind_some, bang_t, cond_false]
              exact k2
          · have h5' : (st.length : Int) > 4 := by omega
            have e : goodSk (src, a, pend, st, out, last, upto) = false := by simp only [goodSk, dec_f h5, Bool.false_and, Bool.and_false]
            rw [e]
            exact ⟨spec_GoodSink.eq _ _ _ _ _ _ _ (by simp only [spec_GoodSink.t, dec_f h1', spec_l1In_eq, h2, h3, h4, dec_t h5', Option.bind_some, bang_t, cond_true, cond_false]), impl_GoodSink.eq _ _ _ _ _ _ _ (by simp only [impl_GoodSink.t, dec_f h1', impl_within_eq, h2, h3, dec_t h5', Option.bind_some, bang_t, cond_true, cond_false])⟩
  · have h1' : (src.length : Int) > 30 := by omega
    have e : goodSk (src, a, pend, st, out, last, upto) = false := by simp only [goodSk, dec_f h1, Bool.false_and]
    rw [e]
    exact ⟨spec_GoodSink.eq _ _ _ _ _ _ _ (by simp only [spec_GoodSink.t, dec_t h1', cond_true]), impl_GoodSink.eq _ _ _ _ _ _ _ (by simp only [impl_GoodSink.t, dec_t h1', cond_true])⟩
theorem goodSk_P {s : Snk} (h : goodSk s = true) : ∃ w, GoodP s w := by
  obtain ⟨src, a, pend, st, out, last, upto⟩ := s
  simp only [goodSk, Bool.and_eq_true, decide_eq_true_eq, inB_iff] at h
  obtain ⟨⟨h1, h2, h3, h4, h5⟩, h6⟩ := h
  cases hc : chkP src a last upto st with
  | none => rw [hc] at h6; cases h6
  | some u =>
    rw [hc] at h6
    simp only [endB, Bool.and_eq_true, decide_eq_true_eq] at h6
    exact ⟨u, h1, h2.1, h2.2, h3.1, h3.2, h4, h5, hc, h6.1, h6.2⟩
theorem spec_crash_P {src pend out : List Int} {a last upto w : Int} {st : List Prep} (h : GoodP (src, a, pend, st, out, last, upto) w) : spec_l16Crash_5b7 src a pend st out last upto = some (src, w, [], st, out, last, upto) := by
  have h4 := h.st4
  simp only [] at h4
  have c1 := (crash_eq (src := src) (a := a) (pend := pend) (out := out) (last := last) (upto := upto) (st := st) (by omega)).1
  rw [chkP_stored h.chk] at c1
  exact c1
theorem commit_loop : ∀ (f : Nat) (s : Snk) (n m : Nat), SinkOK n s → n + f ≤ 100000 → m + f ≤ 100000 → stepS (oftenS f s 3).1 3 = none →
    spec_l16Commit_5b7.l2 s.1 s.2.1 s.2.2.1 s.2.2.2.1 s.2.2.2.2.1 s.2.2.2.2.2.1 s.2.2.2.2.2.2 [] 0 [] [] [] 0 0 (m : Int) = some ((oftenS f s 3).1.1, (oftenS f s 3).1.2.1, (oftenS f s 3).1.2.2.1, (oftenS f s 3).1.2.2.2.1, (oftenS f s 3).1.2.2.2.2.1, (oftenS f s 3).1.2.2.2.2.2.1, (oftenS f s 3).1.2.2.2.2.2.2, ((m + (oftenS f s 3).2 : Nat) : Int))
  | f, s, n, m, h, hn, hm, he => by
    obtain ⟨s1, _⟩ := step_eq h (by omega) 3
    cases hx : stepS s 3 with
    | none =>
      have e : oftenS f s 3 = (s, 0) := by cases f with | zero => rfl | succ f => rw [oftenS, hx]
      rw [hx] at s1
      rw [e]
      refine spec_l16Commit_5b7.eq2 _ _ _ _ _ _ _ _ _ _ _ _ _ _ _ ?_
      simp only [spec_l16Commit_5b7.t2, s1, specT, Option.bind_some, Sum.isLeft_inl, inL, bang_f, cond_true, Nat.add_zero]
    | some t =>
      cases f with
      | zero => rw [oftenS, hx] at he; cases he
      | succ f =>
        have e : oftenS (f + 1) s 3 = ((oftenS f t 3).1, (oftenS f t 3).2 + 1) := by rw [oftenS, hx]
        rw [e] at he
        have ih := commit_loop f t (n + 1) (m + 1) (stepS_ok h hx).1 (by omega) (by omega) he
        rw [hx] at s1
        rw [e]
        refine spec_l16Commit_5b7.eq2 _ _ _ _ _ _ _ _ _ _ _ _ _ _ _ ?_
        simp only [spec_l16Commit_5b7.t2, s1, specT, Option.bind_some, Sum.isLeft_inr, inR, bang_t, cond_false, wrap_succ (show m < 9223372036854775807 by omega)]
        rw [ih, show m + 1 + (oftenS f t 3).2 = m + ((oftenS f t 3).2 + 1) by omega]
theorem commit_spec {src pend out : List Int} {a last upto w : Int} {st : List Prep} (h : GoodP (src, a, pend, st, out, last, upto) w) :
    spec_l16Commit_5b7 src a pend st out last upto = some (src, a, pend, [], src.take w.toNat, last + (st.length : Int), w, (st.length : Int)) := by
  obtain ⟨k1, k2⟩ := often_commit 4 h h.st4
  have := commit_loop 4 _ 1000 0 (goodP_ok h) (by omega) (by omega) (by rw [k2]; exact none_commit)
  rw [k1, k2, Nat.zero_add] at this
  exact spec_l16Commit_5b7.eq _ _ _ _ _ _ _ (by simp only [spec_l16Commit_5b7.t]; exact this)
/-- What comes behind the reading: prepare, commit. -/
def prepS (s : Snk) : Snk := (stepS s 2).getD s
theorem prepS_good {s : Snk} {w : Int} (h : GoodP s w) : ∃ v, GoodP (prepS s) v := by
  unfold prepS
  cases hx : stepS s 2 with
  | none => exact ⟨w, h⟩
  | some t => exact step_good h hx
def commS (s : Snk) (w : Int) : Snk := (s.1, s.2.1, s.2.2.1, [], s.1.take w.toNat, s.2.2.2.2.2.1 + (s.2.2.2.1.length : Int), w)
theorem commS_good {s : Snk} {w : Int} (h : GoodP s w) : GoodP (commS s w) w := by
  obtain ⟨src, a, pend, st, out, last, upto⟩ := s
  exact commit_good h
theorem drain_loop {v0 : List Int} {v1 : Int} {v2 : List Int} {v3 : List Prep} {v4 : List Int} {v5 v6 : Int} {v : Int} {b : List Int × Int × List Int × List Prep × List Int × Int × Int × Int × Bool} : ∀ (f : Nat) (s : Snk) (n : Nat), SinkOK n s → n + f ≤ 100000 → stepS (oftenS f s 1).1 1 = none →
    GoodP (prepS (oftenS f s 1).1) v →
    b = ((commS (prepS (oftenS f s 1).1) v).1, (commS (prepS (oftenS f s 1).1) v).2.1, (commS (prepS (oftenS f s 1).1) v).2.2.1, (commS (prepS (oftenS f s 1).1) v).2.2.2.1, (commS (prepS (oftenS f s 1).1) v).2.2.2.2.1, (commS (prepS (oftenS f s 1).1) v).2.2.2.2.2.1, (commS (prepS (oftenS f s 1).1) v).2.2.2.2.2.2, IntKind.i64.wrap (((commS (prepS (oftenS f s 1).1) v).2.2.2.2.1.length : Int) - (v4.length : Int)), true) →
    spec_DrainSink.l6 v0 v1 v2 v3 v4 v5 v6 [] 0 [] [] [] 0 0 s.1 s.2.1 s.2.2.1 s.2.2.2.1 s.2.2.2.2.1 s.2.2.2.2.2.1 s.2.2.2.2.2.2 = some b
  | f, s, n, h, hn, he, hg, hb => by
    obtain ⟨s1, _⟩ := step_eq h (by omega) 1
    cases hx : stepS s 1 with
    | none =>
      have e : oftenS f s 1 = (s, 0) := by cases f with | zero => rfl | succ f => rw [oftenS, hx]
      rw [hx] at s1
      rw [e] at hg hb
      simp only [] at hg hb
      subst hb
      obtain ⟨s2, _⟩ := step_eq h (by omega) 2
      refine spec_DrainSink.eq6 _ _ _ _ _ _ _ _ _ _ _ _ _ _ _ _ _ _ _ _ _ ?_
      have own := (own_eq (goodP_ok (commS_good hg)) (by omega)).1
      cases hy : stepS s 2 with
      | none =>
        rw [hy] at s2
        have ep : prepS s = s := by rw [prepS, hy]; rfl
        rw [ep] at hg own ⊢
        obtain ⟨src, a, pend, st, out, last, upto⟩ := s
        have c := commit_spec hg
        simp only [commS] at own
        simp only [] at s1 s2
        simp only [spec_DrainSink.t6, s1, s2, specT, Option.bind_some, Sum.isLeft_inl, inL, bang_f, cond_true, cond_false, c, own, commS]
      | some t =>
        rw [hy] at s2
        have ep : prepS s = t := by rw [prepS, hy]; rfl
        rw [ep] at hg own ⊢
        obtain ⟨src, a, pend, st, out, last, upto⟩ := t
        have c := commit_spec hg
        simp only [commS] at own
        simp only [spec_DrainSink.t6, s1, s2, specT, Option.bind_some, Sum.isLeft_inl, Sum.isLeft_inr, inL, inR, bang_f, cond_true, cond_false, c, own, commS]
    | some t =>
      cases f with
      | zero => rw [oftenS, hx] at he; cases he
      | succ f =>
        have e : (oftenS (f + 1) s 1).1 = (oftenS f t 1).1 := by rw [oftenS, hx]
        rw [e] at he hg hb
        have ih := drain_loop (v0 := v0) (v1 := v1) (v2 := v2) (v3 := v3) (v4 := v4) (v5 := v5) (v6 := v6) f t (n + 1) (stepS_ok h hx).1 (by omega) he hg hb
        rw [hx] at s1
        refine spec_DrainSink.eq6 _ _ _ _ _ _ _ _ _ _ _ _ _ _ _ _ _ _ _ _ _ ?_
        simp only [spec_DrainSink.t6, s1, specT, Option.bind_some, Sum.isLeft_inr, inR, bang_t, cond_false]
        exact ih
/-- What DrainSink gives. -/
def readS (s : Snk) (w : Int) : Snk := (s.1, (s.1.length : Int), cutI s.1 w (s.1.length : Int), s.2.2.2.1, s.2.2.2.2.1, s.2.2.2.2.2.1, s.2.2.2.2.2.2)
theorem tail_spec {v0 : List Int} {v1 : Int} {v2 : List Int} {v3 : List Prep} {v4 : List Int} {v5 v6 v : Int} {s : Snk} {w : Int} (h : GoodP s w) (hv : GoodP (prepS (readS s w)) v) :
    spec_DrainSink.l6 v0 v1 v2 v3 v4 v5 v6 [] 0 [] [] [] 0 0 s.1 s.2.1 s.2.2.1 s.2.2.2.1 s.2.2.2.2.1 s.2.2.2.2.2.1 s.2.2.2.2.2.2 = some ((commS (prepS (readS s w)) v).1, (commS (prepS (readS s w)) v).2.1, (commS (prepS (readS s w)) v).2.2.1, (commS (prepS (readS s w)) v).2.2.2.1, (commS (prepS (readS s w)) v).2.2.2.2.1, (commS (prepS (readS s w)) v).2.2.2.2.2.1, (commS (prepS (readS s w)) v).2.2.2.2.2.2, IntKind.i64.wrap (((commS (prepS (readS s w)) v).2.2.2.2.1.length : Int) - (v4.length : Int)), true) := by
  obtain ⟨src, a, pend, st, out, last, upto⟩ := s
  have hs := h.src
  have k2 := often_read 30 h (by simp only [] at hs; omega)
  have k3 : (oftenS 30 (src, a, pend, st, out, last, upto) 1).1 = readS (src, a, pend, st, out, last, upto) w := k2
  refine drain_loop (v := v) 30 _ 1000 (goodP_ok h) (by omega) (by rw [k2]; exact none_read) (by rw [k3]; exact hv) (by rw [k3])
theorem tail_impl2 {s : Snk} {w v : Int} (h : GoodP s w) (hv : GoodP (prepS (readS s w)) v) : ∃ (m : Int) (b : Bool) (k : Int), xi08 s.1 s.2.1 s.2.2.1 s.2.2.2.1 s.2.2.2.2.1 s.2.2.2.2.2.1 s.2.2.2.2.2.2 1 = some (m, readS s w) ∧
    xi01 (readS s w).1 (readS s w).2.1 (readS s w).2.2.1 (readS s w).2.2.2.1 (readS s w).2.2.2.2.1 (readS s w).2.2.2.2.2.1 (readS s w).2.2.2.2.2.2 = some (b, prepS (readS s w)) ∧
    xi08 (prepS (readS s w)).1 (prepS (readS s w)).2.1 (prepS (readS s w)).2.2.1 (prepS (readS s w)).2.2.2.1 (prepS (readS s w)).2.2.2.2.1 (prepS (readS s w)).2.2.2.2.2.1 (prepS (readS s w)).2.2.2.2.2.2 3 = some (k, commS (prepS (readS s w)) v) := by
  obtain ⟨src, a, pend, st, out, last, upto⟩ := s
  obtain ⟨m, r⟩ := read_impl h
  have p := prep_impl (read_good h)
  rw [implT_snd] at p
  have e : prepS (readS (src, a, pend, st, out, last, upto) w) = (stepS (src, (src.length : Int), cutI src w (src.length : Int), st, out, last, upto) 2).getD (src, (src.length : Int), cutI src w (src.length : Int), st, out, last, upto) := rfl
  have c : ∃ k, xi08 (prepS (readS (src, a, pend, st, out, last, upto) w)).1 (prepS (readS (src, a, pend, st, out, last, upto) w)).2.1 (prepS (readS (src, a, pend, st, out, last, upto) w)).2.2.1 (prepS (readS (src, a, pend, st, out, last, upto) w)).2.2.2.1 (prepS (readS (src, a, pend, st, out, last, upto) w)).2.2.2.2.1 (prepS (readS (src, a, pend, st, out, last, upto) w)).2.2.2.2.2.1 (prepS (readS (src, a, pend, st, out, last, upto) w)).2.2.2.2.2.2 3 = some (k, commS (prepS (readS (src, a, pend, st, out, last, upto) w)) v) := by
    generalize prepS (readS (src, a, pend, st, out, last, upto) w) = t at hv ⊢
    obtain ⟨x1, x2, x3, x4, x5, x6, x7⟩ := t
    exact ⟨_, commit_impl hv⟩
  obtain ⟨k, c⟩ := c
  exact ⟨m, _, k, r, p, c⟩
def drainW (s : Snk) (w v : Int) : Snk := commS (prepS (readS (if s.2.2.2.1.length = 4 then commS s w else s) w)) v
theorem drain_eq {s : Snk} {w : Int} (h : GoodP s w) : ∃ v, GoodP (drainW s w v) v ∧
    spec_DrainSink s.1 s.2.1 s.2.2.1 s.2.2.2.1 s.2.2.2.2.1 s.2.2.2.2.2.1 s.2.2.2.2.2.2 = some ((drainW s w v).1, (drainW s w v).2.1, (drainW s w v).2.2.1, (drainW s w v).2.2.2.1, (drainW s w v).2.2.2.2.1, (drainW s w v).2.2.2.2.2.1, (drainW s w v).2.2.2.2.2.2, IntKind.i64.wrap (((drainW s w v).2.2.2.2.1.length : Int) - (s.2.2.2.2.1.length : Int)), true) ∧
    impl_DrainSink s.1 s.2.1 s.2.2.1 s.2.2.2.1 s.2.2.2.2.1 s.2.2.2.2.2.1 s.2.2.2.2.2.2 = some ((drainW s w v).1, (drainW s w v).2.1, (drainW s w v).2.2.1, (drainW s w v).2.2.2.1, (drainW s w v).2.2.2.2.1, (drainW s w v).2.2.2.2.2.1, (drainW s w v).2.2.2.2.2.2, IntKind.i64.wrap (((drainW s w v).2.2.2.2.1.length : Int) - (s.2.2.2.2.1.length : Int)), true) := by
  have hok := goodP_ok h
  have hh := hok.hold
  obtain ⟨o1, o2⟩ := own_eq hok (by omega)
  have gi := good_impl h
  have gs : spec_GoodSink s.1 s.2.1 s.2.2.1 s.2.2.2.1 s.2.2.2.2.1 s.2.2.2.2.2.1 s.2.2.2.2.2.2 = some true := by
    have hl : s.2.2.1.length ≤ 1073741824 ∧ s.2.2.2.2.1.length ≤ 1073741824 ∧ ∀ p, p ∈ s.2.2.2.1 → p.2.2.length ≤ 1073741824 := by
      simp only [holdS] at hh
      exact ⟨by omega, by omega, fun p hp => by have := prep_len hp; omega⟩
    obtain ⟨e1, e2⟩ := good_eq hl.1 hl.2.1 hl.2.2
    rw [gi] at e2
    rw [e1, ← Option.some.inj e2]
  obtain ⟨s1, hs1⟩ : ∃ s1, (if s.2.2.2.1.length = 4 then commS s w else s) = s1 := ⟨_, rfl⟩
  have g1 : GoodP s1 w := by
    rw [← hs1]
    split
    · exact commS_good h
    · exact h
  have gr : GoodP (readS s1 w) w := by
    obtain ⟨x1, x2, x3, x4, x5, x6, x7⟩ := s1
    exact read_good g1
  obtain ⟨v, gv⟩ := prepS_good gr
  have ed : drainW s w v = commS (prepS (readS s1 w)) v := by rw [drainW, hs1]
  have g4 := commS_good gv
  refine ⟨v, ?_⟩
  rw [ed]
  refine ⟨g4, ?_, ?_⟩
  · have t := tail_spec (v0 := s.1) (v1 := s.2.1) (v2 := s.2.2.1) (v3 := s.2.2.2.1) (v4 := s.2.2.2.2.1) (v5 := s.2.2.2.2.2.1) (v6 := s.2.2.2.2.2.2) g1 gv
    refine spec_DrainSink.eq _ _ _ _ _ _ _ ?_
    by_cases g : s.2.2.2.1.length = 4
    · have e4 : ((s.2.2.2.1.length : Int) == 4) = true := beq_iff_eq.2 (by omega)
      rw [if_pos g] at hs1
      subst hs1
      have c : spec_l16Commit_5b7 s.1 s.2.1 s.2.2.1 s.2.2.2.1 s.2.2.2.2.1 s.2.2.2.2.2.1 s.2.2.2.2.2.2 = some ((commS s w).1, (commS s w).2.1, (commS s w).2.2.1, (commS s w).2.2.2.1, (commS s w).2.2.2.2.1, (commS s w).2.2.2.2.2.1, (commS s w).2.2.2.2.2.2, (s.2.2.2.1.length : Int)) := by
        obtain ⟨x1, x2, x3, x4, x5, x6, x7⟩ := s
        exact commit_spec h
      simp only [spec_DrainSink.t, gs, o1, e4, c, Option.bind_some, bang_t, cond_true, cond_false]
      exact t
    · have e4 : ((s.2.2.2.1.length : Int) == 4) = false := beq_eq_false_iff_ne.2 (by omega)
      rw [if_neg g] at hs1
      subst hs1
      simp only [spec_DrainSink.t, gs, o1, e4, Option.bind_some, bang_t, cond_true, cond_false]
      exact t
  · obtain ⟨m, b, k, t1, t2, t3⟩ := tail_impl2 g1 gv
    have t4 := (own_eq (goodP_ok g4) (by omega)).2
    refine impl_DrainSink.eq _ _ _ _ _ _ _ ?_
    by_cases g : s.2.2.2.1.length = 4
    · have e4 : ((s.2.2.2.1.length : Int) == 4) = true := beq_iff_eq.2 (by omega)
      rw [if_pos g] at hs1
      subst hs1
      have c : xi08 s.1 s.2.1 s.2.2.1 s.2.2.2.1 s.2.2.2.2.1 s.2.2.2.2.2.1 s.2.2.2.2.2.2 3 = some ((s.2.2.2.1.length : Int), commS s w) := by
        obtain ⟨x1, x2, x3, x4, x5, x6, x7⟩ := s
        exact commit_impl h
      simp only [impl_DrainSink.t, gi, o2, e4, c, t1, t2, t3, t4, Option.bind_some, bang_t, cond_true, cond_false]
    · have e4 : ((s.2.2.2.1.length : Int) == 4) = false := beq_eq_false_iff_ne.2 (by omega)
      rw [if_neg g] at hs1
      subst hs1
      simp only [impl_DrainSink.t, gi, o2, e4, t1, t2, t3, t4, Option.bind_some, bang_t, cond_true, cond_false]
end GoV

/- A step takes nothing back that was given out: the law, for each draw. -/
namespace GoV
open Go
theorem ints_self (a : List Int) (h : a.length ≤ 1073741824) : laws_sameInts a a = some true := by
  have key : ∀ (m i : Nat), i + m = a.length → laws_sameInts.l4 a a (a.length : Int) (i : Int) = some true := by
    intro m
    induction m with
    | zero =>
      intro i hi
      have e : i = a.length := by omega
      subst e
      exact laws_sameInts.eq4 _ _ _ _ (by simp only [laws_sameInts.t4, ix_lt, Nat.lt_irrefl, decide_false, cond_false])
    | succ m ih =>
      intro i hi
      have g : i < a.length := by omega
      refine laws_sameInts.eq4 _ _ _ _ ?_
      simp only [laws_sameInts.t4, ix_lt, ix_nn, ix_nat, dec_t g, cond_true, cond_false, bne_ref, wrap_succ (show i < 9223372036854775807 by omega)]
      exact ih (i + 1) (by omega)
  refine laws_sameInts.eq _ _ ?_
  simp only [laws_sameInts.t, bne_ref, cond_false]
  exact key a.length 0 (by omega)
theorem sinks_self {s : Snk} {w : Int} (h : GoodP s w) : laws_sameSinks s.1 s.2.1 s.2.2.1 s.2.2.2.1 s.2.2.2.2.1 s.2.2.2.2.2.1 s.2.2.2.2.2.2 s.1 s.2.1 s.2.2.1 s.2.2.2.1 s.2.2.2.2.1 s.2.2.2.2.2.1 s.2.2.2.2.2.2 = some true := by
  have hok := goodP_ok h
  obtain ⟨src, a, pend, st, out, last, upto⟩ := s
  have h1 := hok.src
  have h4 := hok.st4
  have hh := hok.hold
  simp only [holdS] at h1 h4 hh ⊢
  have key : ∀ (m i : Nat), i + m = st.length → laws_sameSinks.l4 src a pend st out last upto src a pend st out last upto (st.length : Int) (i : Int) = some true := by
    intro m
    induction m with
    | zero =>
      intro i hi
      have e : i = st.length := by omega
      subst e
      exact laws_sameSinks.eq4 _ _ _ _ _ _ _ _ _ _ _ _ _ _ _ _ (by simp only [laws_sameSinks.t4, ix_lt, Nat.lt_irrefl, decide_false, cond_false])
    | succ m ih =>
      intro i hi
      have g : i < st.length := by omega
      have hp := prep_len (getD_mem (((0 : Int), (0 : Int), []) : Prep) g)
      have e := ints_self (st.getD i ((0 : Int), (0 : Int), [])).2.2 (by omega)
      refine laws_sameSinks.eq4 _ _ _ _ _ _ _ _ _ _ _ _ _ _ _ _ ?_
      simp only [laws_sameSinks.t4, ix_lt, ix_nn, ix_nat, dec_t g, cond_true, cond_false, bne_ref, e, Option.bind_some, bang_t, wrap_succ (show i < 9223372036854775807 by omega)]
      exact ih (i + 1) (by omega)
  refine laws_sameSinks.eq _ _ _ _ _ _ _ _ _ _ _ _ _ _ ?_
  simp only [laws_sameSinks.t, ints_self src (by omega), ints_self pend (by omega), ints_self out (by omega), bne_ref, Option.bind_some, bang_t, cond_false]
  exact key st.length 0 (by omega)
theorem zero_self : laws_sameSinks [] 0 [] [] [] 0 0 [] 0 [] [] [] 0 0 = some true := by
  have g : GoodP (([] : List Int), (0 : Int), ([] : List Int), ([] : List Prep), ([] : List Int), (0 : Int), (0 : Int)) 0 := ⟨by simp, Int.le_refl _, Int.le_refl _, Int.le_refl _, Int.le_refl _, by simp, by simp, rfl, rfl, rfl⟩
  exact sinks_self g
def playS : Snk → List Int → Snk × List Bool
  | s, [] => (s, [])
  | s, k :: r => match stepS s k with
    | some t => ((playS t r).1, true :: (playS t r).2)
    | none => ((playS s r).1, false :: (playS s r).2)
theorem playS_len : ∀ (l : List Int) (s : Snk), (playS s l).2.length = l.length
  | [], _ => rfl
  | k :: r, s => by
    rw [playS]
    cases stepS s k with
    | none => simp only [List.length_cons, playS_len r]
    | some t => simp only [List.length_cons, playS_len r]
theorem playS_ok : ∀ (l : List Int) {s : Snk} {n : Nat}, SinkOK n s → SinkOK (n + l.length) (playS s l).1
  | [], s, n, h => h
  | k :: r, s, n, h => by
    rw [playS]
    cases hx : stepS s k with
    | none =>
      have := playS_ok r (n := n + 1) ⟨h.src, h.at0, h.at1, h.st4, h.stU, h.stN, h.up0, h.up1, h.la, by have := h.hold; omega⟩
      rw [List.length_cons, show n + (r.length + 1) = n + 1 + r.length by omega]
      exact this
    | some t =>
      have := playS_ok r (stepS_ok h hx).1
      rw [List.length_cons, show n + (r.length + 1) = n + 1 + r.length by omega]
      exact this
theorem drop_cons_at3 {α : Type} {l r : List α} {i : Nat} {x z : α} (h : l.drop i = x :: r) : i < l.length ∧ l.getD i z = x ∧ l.drop (i + 1) = r := by
  have h1 : i < l.length := by
    apply Classical.byContradiction
    intro hn
    rw [List.drop_eq_nil_of_le (by omega)] at h
    cases h
  rw [drop_getD z h1] at h
  injection h with h2 h3
  exact ⟨h1, h2, h3⟩
def tellS (s : Snk) (d : List Bool) : List Int × Int × List Int × List Prep × List Int × Int × Int × List Bool × Bool := (s.1, s.2.1, s.2.2.1, s.2.2.2.1, s.2.2.2.2.1, s.2.2.2.2.2.1, s.2.2.2.2.2.2, d, true)

theorem play_loopS {l : List Int} (hl : l.length ≤ 1000) : ∀ (r : List Int) (i : Nat) (s : Snk) (did : List Bool) (n : Nat), i ≤ l.length → l.drop i = r → SinkOK n s → n + r.length ≤ 1000000 → did.length ≤ i →
    spec_PlaySink.l6 [] 0 [] [] [] 0 0 s.1 s.2.1 s.2.2.1 s.2.2.2.1 s.2.2.2.2.1 s.2.2.2.2.2.1 s.2.2.2.2.2.2 did l (l.length : Int) (i : Int) = some (tellS (playS s r).1 (did ++ (playS s r).2)) := by
  intro r
  induction r with
  | nil =>
    intro i s did n hil hd h hn _
    have hi : i = l.length := by have := List.drop_eq_nil_iff.1 hd; omega
    subst hi
    obtain ⟨o1, o2⟩ := own_eq h (by simp only [List.length_nil] at hn; omega)
    refine spec_PlaySink.eq6 _ _ _ _ _ _ _ _ _ _ _ _ _ _ _ _ _ _ ?_
    simp only [spec_PlaySink.t6, ix_lt, Nat.lt_irrefl, decide_false, cond_false, o1, Option.bind_some, playS, List.append_nil]; rfl
  | cons k r ih =>
    intro i s did n _ hd h hn ha
    obtain ⟨hi, hk, hd2⟩ := drop_cons_at3 (z := (0 : Int)) hd
    simp only [List.length_cons] at hn
    obtain ⟨o1, o2⟩ := own_eq h (by omega)
    obtain ⟨s1, s2⟩ := step_eq h (by omega) k
    have g1 : ∀ b : Bool, did.length + [b].length ≤ 4294967296 := fun b => by simp only [List.length_cons, List.length_nil]; omega
    rw [playS]
    cases hx : stepS s k with
    | none =>
      rw [hx] at s1
      have i1 := ih (i + 1) s (did ++ [false]) n (by omega) hd2 h (by omega) (by rw [List.length_append, List.length_singleton]; omega)
      rw [List.append_assoc] at i1
      refine spec_PlaySink.eq6 _ _ _ _ _ _ _ _ _ _ _ _ _ _ _ _ _ _ ?_
      simp only [spec_PlaySink.t6, ix_lt, ix_nn, ix_nat, dec_t hi, cond_true, cond_false, hk, o1, s1, specT, Sum.isLeft_inl, inL, Option.bind_some, dec_t (g1 _), wrap_succ (show i < 9223372036854775807 by omega)]
      exact i1
    | some t =>
      rw [hx] at s1
      have i1 := ih (i + 1) t (did ++ [true]) (n + 1) (by omega) hd2 (stepS_ok h hx).1 (by omega) (by rw [List.length_append, List.length_singleton]; omega)
      rw [List.append_assoc] at i1
      refine spec_PlaySink.eq6 _ _ _ _ _ _ _ _ _ _ _ _ _ _ _ _ _ _ ?_
      simp only [spec_PlaySink.t6, ix_lt, ix_nn, ix_nat, dec_t hi, cond_true, cond_false, hk, o1, s1, specT, Sum.isLeft_inr, inR, Option.bind_some, dec_t (g1 _), wrap_succ (show i < 9223372036854775807 by omega)]
      exact i1
def smallS (m : Nat) (s : Snk) : Prop := s.2.2.1.length ≤ m ∧ s.2.2.2.2.1.length ≤ m ∧ ∀ p, p ∈ s.2.2.2.1 → p.2.2.length ≤ m
theorem okS_small {s : Snk} {n : Nat} (h : SinkOK n s) (hn : n ≤ 900) : smallS 1000 s := by
  have hh := h.hold
  simp only [holdS] at hh
  exact ⟨by omega, by omega, fun p hp => by have := prep_len hp; omega⟩
theorem play_eqS (v0 : List Int) (v1 : List Int) (hl0 : v0.length ≤ 1000) (hl1 : v1.length ≤ 120) :
    ∃ (s : Snk) (did : List Bool) (ok : Bool), spec_PlaySink v0 v1 = some (s.1, s.2.1, s.2.2.1, s.2.2.2.1, s.2.2.2.2.1, s.2.2.2.2.2.1, s.2.2.2.2.2.2, did, ok) ∧ smallS 1000 s := by
  by_cases h30 : (v0.length : Int) > 30
  · have n1 : spec_NewSink v0 = some ([], 0, [], [], [], 0, 0, false) := spec_NewSink.eq _ (by simp only [spec_NewSink.t, dec_t h30, cond_true])
    exact ⟨([], 0, [], [], [], 0, 0), [], false, spec_PlaySink.eq _ _ (by simp only [spec_PlaySink.t, n1, Option.bind_some, bang_f, cond_true]), by simp, by simp, fun p hp => by cases hp⟩
  · have hl : ([] : List Int).length + v0.length ≤ 4294967296 := by simp only [List.length_nil]; omega
    have n1 : spec_NewSink v0 = some (v0, 0, [], [], [], 0, 0, true) := spec_NewSink.eq _ (by simp only [spec_NewSink.t, dec_f h30, dec_t hl, cond_true, cond_false, List.nil_append])
    have h120 : ¬ (v1.length : Int) > 120 := by omega
    have h0 : SinkOK 0 ((v0, 0, [], [], [], 0, 0) : Snk) := ⟨by show v0.length ≤ 30; omega, by show (0 : Int) ≤ 0; omega, by show (0 : Int) ≤ (v0.length : Int); omega, by show (0 : Nat) ≤ 4; omega, fun p hp => (by cases hp), fun p hp => (by cases hp), by show (0 : Int) ≤ 0; omega, by show (0 : Int) ≤ (v0.length : Int); omega, by show (-1000000 : Int) ≤ 0 ∧ (0 : Int) ≤ 1000000; omega, Nat.le_refl _⟩
    have p1 := play_loopS (l := v1) (by omega) v1 0 (v0, 0, [], [], [], 0, 0) [] 0 (Nat.zero_le _) rfl h0 (by omega) (Nat.le_refl _)
    exact ⟨_, _, true, spec_PlaySink.eq _ _ (by simp only [spec_PlaySink.t, n1, dec_f h120, Option.bind_some, bang_t, cond_false]; exact p1), okS_small (playS_ok v1 h0) (by omega)⟩
section
variable {b : List Int} (hb : Byt b)
include hb
theorem sink_tail {s : Snk} (hs : smallS 1000 s) {a : Int} (x : Int) (h0 : 0 ≤ a) (h1 : a ≤ 900000) : ∃ (r : Snk) (a' x' : Int), smallS 1001 r ∧ 0 ≤ a' ∧ a' ≤ a + 2 ∧ ∀ {γ : Type} (ret : (List Int × Int × List Int × List Prep × List Int × Int × Int × List Int × Int × Int) → Option γ),
    ((xs0a b a x 40).bind fun r4 =>
      bif r4.1 == (0 : Int) then ret (s.1, IntKind.i64.wrap (s.2.1 + 1), s.2.2.1, s.2.2.2.1, s.2.2.2.2.1, s.2.2.2.2.2.1, s.2.2.2.2.2.2, r4.2.1, r4.2.2.1, r4.2.2.2)
      else bif r4.1 == (1 : Int) then bif decide (s.2.2.2.2.1.length + [(5 : Int)].length ≤ 4294967296) then ret (s.1, s.2.1, s.2.2.1, s.2.2.2.1, s.2.2.2.2.1 ++ [5], s.2.2.2.2.2.1, s.2.2.2.2.2.2, r4.2.1, r4.2.2.1, r4.2.2.2) else none
      else bif r4.1 == (2 : Int) then ((xs06 r4.2.1 r4.2.2.1 r4.2.2.2 [(-1 : Int), (1000 : Int), (1001 : Int)]).bind fun r5 => ret (s.1, s.2.1, s.2.2.1, s.2.2.2.1, s.2.2.2.2.1, r5.1, s.2.2.2.2.2.2, r5.2.1, r5.2.2.1, r5.2.2.2))
      else ret (s.1, s.2.1, s.2.2.1, s.2.2.2.1, s.2.2.2.2.1, s.2.2.2.2.2.1, s.2.2.2.2.2.2, r4.2.1, r4.2.2.1, r4.2.2.2)) = ret (r.1, r.2.1, r.2.2.1, r.2.2.2.1, r.2.2.2.2.1, r.2.2.2.2.2.1, r.2.2.2.2.2.2, b, a', x') := by
  obtain ⟨k, x1, e, hk⟩ := pickD_ok hb x 40 h0 (by omega) (by omega) (by omega)
  obtain ⟨s1, s2, s3⟩ := hs
  have m1 : ∀ {x1 : List Int} {x2 x6 x7 : Int}, smallS 1001 (x1, x2, s.2.2.1, s.2.2.2.1, s.2.2.2.2.1, x6, x7) := ⟨by show s.2.2.1.length ≤ 1001; omega, by show s.2.2.2.2.1.length ≤ 1001; omega, fun p hp => by have := s3 p hp; omega⟩
  cases g0 : k == 0 with
  | true => exact ⟨(s.1, IntKind.i64.wrap (s.2.1 + 1), s.2.2), a + 1, x1, m1, by omega, by omega, fun ret => by simp only [e, Option.bind_some, g0, cond_true]⟩
  | false =>
    cases g1 : k == 1 with
    | true =>
      have hl : s.2.2.2.2.1.length + [(5 : Int)].length ≤ 4294967296 := by simp only [List.length_cons, List.length_nil]; omega
      exact ⟨(s.1, s.2.1, s.2.2.1, s.2.2.2.1, s.2.2.2.2.1 ++ [5], s.2.2.2.2.2), a + 1, x1, ⟨by show s.2.2.1.length ≤ 1001; omega, by show (s.2.2.2.2.1 ++ [5]).length ≤ 1001; rw [List.length_append, List.length_singleton]; omega, fun p hp => by have := s3 p hp; omega⟩, by omega, by omega, fun ret => by simp only [e, Option.bind_some, g0, g1, dec_t hl, cond_true, cond_false]⟩
    | false =>
      cases g2 : k == 2 with
      | true =>
        obtain ⟨y, x2, e2⟩ := amongD_ok hb (a := a + 1) x1 [(-1 : Int), (1000 : Int), (1001 : Int)] (by omega) (by omega) (by simp) (by simp)
        exact ⟨(s.1, s.2.1, s.2.2.1, s.2.2.2.1, s.2.2.2.2.1, y, s.2.2.2.2.2.2), a + 1 + 1, x2, m1, by omega, by omega, fun ret => by simp only [e, e2, Option.bind_some, g0, g1, g2, cond_true, cond_false]⟩
      | false => exact ⟨s, a + 1, x1, m1, by omega, by omega, fun ret => by simp only [e, Option.bind_some, g0, g1, g2, cond_false]⟩
theorem sinkD_ok {a : Int} (x : Int) (h0 : 0 ≤ a) (h1 : a ≤ 100) : ∃ (r : Snk) (a' x' : Int), xs0b b a x = some (r.1, r.2.1, r.2.2.1, r.2.2.2.1, r.2.2.2.2.1, r.2.2.2.2.2.1, r.2.2.2.2.2.2, b, a', x') ∧ smallS 1001 r ∧ 0 ≤ a' ∧ a' ≤ 1000 := by
  obtain ⟨l, a1, x1, e1, hl, k1, k2⟩ := steps_ok hb x h0 (by omega)
  obtain ⟨src, a2, x2, e2, hs, k3, k4⟩ := source_ok hb (a := a1) x1 k1 (by omega)
  have n0 : spec_NewSink [(1 : Int), (2 : Int)] = some ([1, 2], 0, [], [], [], 0, 0, true) := spec_NewSink.eq _ rfl
  have sm : smallS 1000 (([1, 2], 0, [], [], [], 0, 0) : Snk) := ⟨by simp, by simp, fun p hp => by cases hp⟩
  by_cases g : (l.length : Int) > 40
  · obtain ⟨s, did, ok, ep, hsm⟩ := play_eqS src (l.take 40) (by omega) (by rw [List.length_take]; omega)
    have g2 : (40 : Int) ≤ (l.length : Int) := by omega
    have e4 : List.take ((40 : Int) - 0).toNat (List.drop (Int.toNat 0) l) = l.take 40 := rfl
    cases ok with
    | false =>
      obtain ⟨r, a', x', m1, m2, m3, m4⟩ := sink_tail hb sm (a := a2) x2 k3 (by omega)
      refine ⟨r, a', x', xs0b.eq _ _ _ ?_, m1, m2, by omega⟩
      simp only [xs0b.t, e1, dec_t g, dec_t g2, e2, Option.getD_none, e4, ep, n0, Option.bind_some, bang_f, cond_true]
      exact m4 some
    | true =>
      obtain ⟨r, a', x', m1, m2, m3, m4⟩ := sink_tail hb hsm (a := a2) x2 k3 (by omega)
      refine ⟨r, a', x', xs0b.eq _ _ _ ?_, m1, m2, by omega⟩
      simp only [xs0b.t, e1, dec_t g, dec_t g2, e2, Option.getD_none, e4, ep, Option.bind_some, bang_t, cond_true, cond_false]
      exact m4 some
  · obtain ⟨s, did, ok, ep, hsm⟩ := play_eqS src l (by omega) (by omega)
    cases ok with
    | false =>
      obtain ⟨r, a', x', m1, m2, m3, m4⟩ := sink_tail hb sm (a := a2) x2 k3 (by omega)
      refine ⟨r, a', x', xs0b.eq _ _ _ ?_, m1, m2, by omega⟩
      simp only [xs0b.t, e1, dec_f g, e2, ep, n0, Option.bind_some, bang_f, cond_true, cond_false]
      exact m4 some
    | true =>
      obtain ⟨r, a', x', m1, m2, m3, m4⟩ := sink_tail hb hsm (a := a2) x2 k3 (by omega)
      refine ⟨r, a', x', xs0b.eq _ _ _ ?_, m1, m2, by omega⟩
      simp only [xs0b.t, e1, dec_f g, e2, ep, Option.bind_some, bang_t, cond_true, cond_false]
      exact m4 some
theorem drawStep_ok : ∃ (r : Snk) (k : Int), spec_DrawStepSink b = some (r.1, r.2.1, r.2.2.1, r.2.2.2.1, r.2.2.2.2.1, r.2.2.2.2.2.1, r.2.2.2.2.2.2, k) ∧ smallS 1001 r := by
  obtain ⟨r, a, x, e, h, h0, h1⟩ := sinkD_ok hb (a := 0) 0 (by omega) (by omega)
  obtain ⟨k, x1, e2, hk⟩ := pickD_ok hb (a := a) x 8 h0 (by omega) (by omega) (by omega)
  exact ⟨r, IntKind.i64.wrap (k - 1), spec_DrawStepSink.eq _ (by simp only [spec_DrawStepSink.t, e, e2, Option.bind_some]), h⟩
theorem drawDrain_ok : ∃ (r : Snk), spec_DrawDrainSink b = some r ∧ smallS 1001 r := by
  obtain ⟨r, a, x, e, h, h0, h1⟩ := sinkD_ok hb (a := 0) 0 (by omega) (by omega)
  have e2 : spec_DrawGoodSink b = some r := spec_DrawGoodSink.eq _ (by simp only [spec_DrawGoodSink.t, e, Option.bind_some])
  exact ⟨r, spec_DrawDrainSink.eq _ (by simp only [spec_DrawDrainSink.t, e2, Option.bind_some]), h⟩
end
/-- A step takes nothing back. -/
theorem step_out {s t : Snk} {k w : Int} (h : GoodP s w) (hx : stepS s k = some t) : s.2.2.2.2.1.length ≤ t.2.2.2.2.1.length ∧ t.2.2.2.2.1.take s.2.2.2.2.1.length = s.2.2.2.2.1 ∧ s.2.2.2.2.2.1 ≤ t.2.2.2.2.2.1 := by
  obtain ⟨src, a, pend, st, out, last, upto⟩ := s
  have hc := h.chk
  simp only [stepS] at hx hc
  have same : ∀ {x : Snk}, x.2.2.2.2.1 = out → x.2.2.2.2.2.1 = last → out.length ≤ x.2.2.2.2.1.length ∧ x.2.2.2.2.1.take out.length = out ∧ last ≤ x.2.2.2.2.2.1 := fun e1 e2 => by
    rw [e1, e2]
    exact ⟨Nat.le_refl _, List.take_length, Int.le_refl _⟩
  split at hx
  · split at hx
    · cases hx
    · obtain rfl := Option.some.inj hx
      exact same rfl rfl
  · split at hx
    · split at hx
      · cases hx
      · split at hx
        · cases hx
        · split at hx
          · cases hx
          · obtain rfl := Option.some.inj hx
            exact same rfl rfl
    · split at hx
      · split at hx
        · cases hx
        · obtain rfl := Option.some.inj hx
          cases st with
          | nil => rename_i g; exact absurd rfl g
          | cons p r =>
            have := (chkP_cons.1 hc).1.1.1
            simp only [List.getD_cons_zero]
            refine ⟨by rw [List.length_append]; omega, List.take_left, by omega⟩
      · split at hx
        · obtain rfl := Option.some.inj hx
          exact same rfl rfl
        · split at hx
          · split at hx
            · cases hx
            · obtain rfl := Option.some.inj hx
              exact same rfl rfl
          · cases hx
theorem good_small {s : Snk} (h : smallS 1001 s) : spec_GoodSink s.1 s.2.1 s.2.2.1 s.2.2.2.1 s.2.2.2.2.1 s.2.2.2.2.2.1 s.2.2.2.2.2.2 = some (goodSk s) ∧ impl_GoodSink s.1 s.2.1 s.2.2.1 s.2.2.2.1 s.2.2.2.2.1 s.2.2.2.2.2.1 s.2.2.2.2.2.2 = some (goodSk s) :=
  good_eq (by have := h.1; omega) (by have := h.2.1; omega) (fun p hp => by have := h.2.2 p hp; omega)
theorem FnSinkSteps_true (v0 : List Int) (v1 : List Int) (w0 : WfT (.sl (.int .u8)) v0) (w1 : WfT (.sl (.int .u8)) v1) : laws_FnSinkSteps v0 v1 = some true := by
  refine laws_FnSinkSteps.eq _ _ ?_
  by_cases hc : IntKind.i64.wrap ((v0.length : Int) + (v1.length : Int)) > 1048576
  · simp only [laws_FnSinkSteps.t, dec_t hc, cond_true]
  · obtain ⟨s, k, ed, hsm⟩ := drawStep_ok (b := v0) (fun x hx => w0.2 x hx)
    obtain ⟨u, eu, hum⟩ := drawDrain_ok (b := v1) (fun x hx => w1.2 x hx)
    obtain ⟨g1, g2⟩ := good_small hsm
    obtain ⟨g3, g4⟩ := good_small hum
    -- draining
    have drn : ∃ (r : Snk) (n : Int) (ok : Bool), impl_DrainSink u.1 u.2.1 u.2.2.1 u.2.2.2.1 u.2.2.2.2.1 u.2.2.2.2.2.1 u.2.2.2.2.2.2 = some (r.1, r.2.1, r.2.2.1, r.2.2.2.1, r.2.2.2.2.1, r.2.2.2.2.2.1, r.2.2.2.2.2.2, n, ok) ∧ spec_DrainSink u.1 u.2.1 u.2.2.1 u.2.2.2.1 u.2.2.2.2.1 u.2.2.2.2.2.1 u.2.2.2.2.2.2 = some (r.1, r.2.1, r.2.2.1, r.2.2.2.1, r.2.2.2.2.1, r.2.2.2.2.2.1, r.2.2.2.2.2.2, n, ok) ∧
        laws_sameSinks r.1 r.2.1 r.2.2.1 r.2.2.2.1 r.2.2.2.2.1 r.2.2.2.2.2.1 r.2.2.2.2.2.2 r.1 r.2.1 r.2.2.1 r.2.2.2.1 r.2.2.2.2.1 r.2.2.2.2.2.1 r.2.2.2.2.2.2 = some true ∧ (ok = false ∨ ok = true ∧ impl_GoodSink r.1 r.2.1 r.2.2.1 r.2.2.2.1 r.2.2.2.2.1 r.2.2.2.2.2.1 r.2.2.2.2.2.2 = some true) := by
      cases hg : goodSk u with
      | false =>
        rw [hg] at g3 g4
        exact ⟨([], 0, [], [], [], 0, 0), 0, false, impl_DrainSink.eq _ _ _ _ _ _ _ (by simp only [impl_DrainSink.t, g4, Option.bind_some, bang_f, cond_true]), spec_DrainSink.eq _ _ _ _ _ _ _ (by simp only [spec_DrainSink.t, g3, Option.bind_some, bang_f, cond_true]), zero_self, .inl rfl⟩
      | true =>
        obtain ⟨w, hw⟩ := goodSk_P hg
        obtain ⟨v, k4, k1, k2⟩ := drain_eq hw
        exact ⟨_, _, true, k2, k1, sinks_self k4, .inr ⟨rfl, good_impl k4⟩⟩
    obtain ⟨r, n, ok, d1, d2, d3, d4⟩ := drn
    -- stepping
    have stp : ∃ (x : Snk) (is : Bool), impl_StepSink s.1 s.2.1 s.2.2.1 s.2.2.2.1 s.2.2.2.2.1 s.2.2.2.2.2.1 s.2.2.2.2.2.2 k = some (x.1, x.2.1, x.2.2.1, x.2.2.2.1, x.2.2.2.2.1, x.2.2.2.2.2.1, x.2.2.2.2.2.2, is) ∧ spec_StepSink s.1 s.2.1 s.2.2.1 s.2.2.2.1 s.2.2.2.2.1 s.2.2.2.2.2.1 s.2.2.2.2.2.2 k = some (x.1, x.2.1, x.2.2.1, x.2.2.2.1, x.2.2.2.2.1, x.2.2.2.2.2.1, x.2.2.2.2.2.2, is) ∧
        laws_sameSinks x.1 x.2.1 x.2.2.1 x.2.2.2.1 x.2.2.2.2.1 x.2.2.2.2.2.1 x.2.2.2.2.2.2 x.1 x.2.1 x.2.2.1 x.2.2.2.1 x.2.2.2.2.1 x.2.2.2.2.2.1 x.2.2.2.2.2.2 = some true ∧ (is = false ∨ is = true ∧ impl_GoodSink x.1 x.2.1 x.2.2.1 x.2.2.2.1 x.2.2.2.2.1 x.2.2.2.2.2.1 x.2.2.2.2.2.2 = some true ∧ s.2.2.2.2.1.length ≤ x.2.2.2.2.1.length ∧ x.2.2.2.2.1.take s.2.2.2.2.1.length = s.2.2.2.2.1 ∧ s.2.2.2.2.2.1 ≤ x.2.2.2.2.2.1) := by
      cases hg : goodSk s with
      | false =>
        rw [hg] at g1 g2
        exact ⟨([], 0, [], [], [], 0, 0), false, impl_StepSink.eq _ _ _ _ _ _ _ _ (by simp only [impl_StepSink.t, g2, Option.bind_some, bang_f, cond_true]), spec_StepSink.eq _ _ _ _ _ _ _ _ (by simp only [spec_StepSink.t, g1, Option.bind_some, bang_f, cond_true]), zero_self, .inl rfl⟩
      | true =>
        rw [hg] at g1 g2
        obtain ⟨w, hw⟩ := goodSk_P hg
        have hok := goodP_ok hw
        obtain ⟨o1, o2⟩ := own_eq hok (by omega)
        obtain ⟨s1, s2⟩ := step_eq hok (by omega) k
        cases hx : stepS s k with
        | none =>
          rw [hx] at s1 s2
          exact ⟨([], 0, [], [], [], 0, 0), false, impl_StepSink.eq _ _ _ _ _ _ _ _ (by simp only [impl_StepSink.t, g2, o2, s2, implT, Option.bind_some, bang_t, bang_f, cond_true, cond_false]), spec_StepSink.eq _ _ _ _ _ _ _ _ (by simp only [spec_StepSink.t, g1, o1, s1, specT, Sum.isLeft_inl, inL, Option.bind_some, bang_t, bang_f, cond_true, cond_false]), zero_self, .inl rfl⟩
        | some t =>
          rw [hx] at s1 s2
          obtain ⟨v, hv⟩ := step_good hw hx
          obtain ⟨p1, p2⟩ := own_eq (goodP_ok hv) (by omega)
          obtain ⟨q1, q2, q3⟩ := step_out hw hx
          exact ⟨t, true, impl_StepSink.eq _ _ _ _ _ _ _ _ (by simp only [impl_StepSink.t, g2, o2, s2, p2, implT, Option.bind_some, bang_t, cond_false]), spec_StepSink.eq _ _ _ _ _ _ _ _ (by simp only [spec_StepSink.t, g1, o1, s1, p1, specT, Sum.isLeft_inr, inR, Option.bind_some, bang_t, cond_false]), sinks_self hv, .inr ⟨rfl, good_impl hv, q1, q2, q3⟩⟩
    obtain ⟨x, is, t1, t2, t3, t4⟩ := stp
    rcases t4 with rfl | ⟨rfl, t5, t6, t7, t8⟩
    · rcases d4 with rfl | ⟨rfl, d5⟩
      · simp only [laws_FnSinkSteps.t, dec_f hc, ed, t1, t2, t3, g1, g2, eu, d1, d2, d3, Option.bind_some, bne_ref, beq_ref, bang_t, bang_f, cond_true, cond_false]
      · simp only [laws_FnSinkSteps.t, dec_f hc, ed, t1, t2, t3, g1, g2, eu, d1, d2, d3, d5, Option.bind_some, bne_ref, beq_ref, bang_t, bang_f, cond_true, cond_false]
    · have c1 : ¬ ((x.2.2.2.2.1.length : Int) < (s.2.2.2.2.1.length : Int)) := by omega
      have c2 : (s.2.2.2.2.1.length : Int) ≤ (x.2.2.2.2.1.length : Int) := by omega
      have c3 : ¬ (x.2.2.2.2.2.1 < s.2.2.2.2.2.1) := by omega
      have c4 := ints_self s.2.2.2.2.1 (by have := hsm.2.1; omega)
      rcases d4 with rfl | ⟨rfl, d5⟩
      · simp only [laws_FnSinkSteps.t, dec_f hc, ed, t1, t2, t3, g1, g2, t5, dec_f c1, dec_t c2, dec_f c3, Option.getD_none, Int.sub_zero, Int.toNat_natCast, toNat0', List.drop_zero, t7, c4, eu, d1, d2, d3, Option.bind_some, bne_ref, beq_ref, bang_t, bang_f, cond_true, cond_false]
      · simp only [laws_FnSinkSteps.t, dec_f hc, ed, t1, t2, t3, g1, g2, t5, dec_f c1, dec_t c2, dec_f c3, Option.getD_none, Int.sub_zero, Int.toNat_natCast, toNat0', List.drop_zero, t7, c4, eu, d1, d2, d3, d5, Option.bind_some, bne_ref, beq_ref, bang_t, bang_f, cond_true, cond_false]
end GoV

/- FnSinkSteps: its core is the law. -/
