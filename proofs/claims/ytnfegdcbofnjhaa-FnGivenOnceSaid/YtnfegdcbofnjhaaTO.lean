/- A part of the proof of FnGivenOnce: an interpreter of the model over plain data, its soundness, and what it makes of the functions that the statement reaches. Conditions: none beyond what the given statement itself says. -/
import Derived.Test.YtnfegdcbofnjhaaTN
set_option linter.unusedVariables false
set_option linter.unusedSimpArgs false
set_option linter.unnecessarySimpa false
set_option linter.unusedSectionVars false
/- Sinks that are good: what is asked of them, given out, recovered and drained. -/
namespace GoV
open Go
def endB (src : List Int) (a : Int) (pend out : List Int) (upto : Int) (o : Option Int) : Bool := match o with
  | none => false
  | some u => decide (pend = cutI src u a) && decide (out = src.take upto.toNat)
theorem cutI_def (src : List Int) (u v : Int) : List.take (v - u).toNat (List.drop u.toNat src) = cutI src u v := rfl
theorem cutI_len (src : List Int) (u v : Int) : (cutI src u v).length ≤ src.length := by
  rw [cutI, List.length_take, List.length_drop]; omega
theorem drop_cons_at2 {α : Type} {l r : List α} {i : Nat} {x z : α} (h : l.drop i = x :: r) : i < l.length ∧ l.getD i z = x ∧ l.drop (i + 1) = r := by
  have h1 : i < l.length := by
    apply Classical.byContradiction
    intro hn
    rw [List.drop_eq_nil_of_le (by omega)] at h
    cases h
  rw [drop_getD z h1] at h
  injection h with h2 h3
  exact ⟨h1, h2, h3⟩
section
variable {src pend out : List Int} {a last upto : Int} {st : List Prep} (hs : src.length ≤ 30) (ha : 0 ≤ a ∧ a ≤ (src.length : Int)) (hu : 0 ≤ upto ∧ upto ≤ a) (hst : st.length ≤ 4) (hr : ∀ p, p ∈ st → p.2.2.length ≤ 1073741824) (hp : pend.length ≤ 1073741824) (ho : out.length ≤ 1073741824)
include hs ha hu hst hr hp ho
theorem impl_good_loop (hla : 0 ≤ last ∧ last ≤ 1000) : ∀ (r : List Prep) (i : Nat) (u : Int), i ≤ st.length → st.drop i = r → (0 ≤ u ∧ u ≤ a) →
    impl_GoodSink.l5 src a pend st out last upto u st (st.length : Int) (i : Int) = some (endB src a pend out upto (chkP src a (last + (i : Int)) u r)) := by
  intro r
  induction r with
  | nil =>
    intro i u hil hd hu2
    have hi : i = st.length := by have := List.drop_eq_nil_iff.1 hd; omega
    subst hi
    refine impl_GoodSink.eq5 _ _ _ _ _ _ _ _ _ _ _ ?_
    have e1 := slices_Equal_int_eq pend (cutI src u a) hp
    have e2 := slices_Equal_int_eq out (src.take upto.toNat) ho
    have hu3 : upto ≤ (src.length : Int) := by omega
    simp only [impl_GoodSink.t5, ix_lt, Nat.lt_irrefl, decide_false, cond_false, Option.getD_some, Option.getD_none, dec_t hu2.1, dec_t hu2.2, dec_t ha.2, dec_t hu.1, dec_t hu3, cond_true, cutI_def src u a, Int.sub_zero, toNat0', List.drop_zero, e1, e2, Option.bind_some, chkP, endB]
    cases decide (out = List.take upto.toNat src) <;> cases decide (pend = cutI src u a) <;> rfl
  | cons p r ih =>
    intro i u _ hd hu2
    obtain ⟨hi, hk, hd2⟩ := drop_cons_at2 (z := (((0 : Int), (0 : Int), []) : Prep)) hd
    have hm : p ∈ st := by rw [← hk]; exact getD_mem _ hi
    have hw : IntKind.i64.wrap (last + 1) = last + 1 := wrap_id (by omega) (by omega)
    have hw2 : IntKind.i64.wrap (last + 1 + (i : Int)) = last + (i : Int) + 1 := by rw [wrap_id (by omega) (by omega)]; omega
    refine impl_GoodSink.eq5 _ _ _ _ _ _ _ _ _ _ _ ?_
    simp only [impl_GoodSink.t5, ix_lt, ix_nn, ix_nat, dec_t hi, cond_true, hk, hw, hw2, impl_within_eq, Option.bind_some, Option.getD_some]
    by_cases g1 : p.1 = last + (i : Int) + 1
    · have e1 : (p.1 != last + (i : Int) + 1) = false := by rw [g1]; exact bne_ref _
      by_cases g7 : p.1 > 1000
      · have : ¬ ((p.1 = last + (i : Int) + 1 ∧ p.1 ≤ 1000) ∧ (u ≤ p.2.1 ∧ p.2.1 ≤ a) ∧ p.2.2 = cutI src u p.2.1) := fun h => by omega
        simp only [e1, cond_false, dec_t g7, cond_true, chkP, if_neg this, endB]
      · cases g2 : inB u a p.2.1 with
        | false =>
          have : ¬ ((p.1 = last + (i : Int) + 1 ∧ p.1 ≤ 1000) ∧ (u ≤ p.2.1 ∧ p.2.1 ≤ a) ∧ p.2.2 = cutI src u p.2.1) := fun h => by rw [inB_iff.2 h.2.1] at g2; cases g2
          simp only [e1, dec_f g7, cond_false, bang_f, cond_true, chkP, if_neg this, endB]
        | true =>
          obtain ⟨g3, g4⟩ := inB_iff.1 g2
          have g5 : p.2.1 ≤ (src.length : Int) := by omega
          have e2 := slices_Equal_int_eq p.2.2 (cutI src u p.2.1) (hr p hm)
          simp only [e1, dec_f g7, cond_false, bang_t, dec_t hu2.1, dec_t g3, dec_t g5, cond_true, cutI_def src u p.2.1, e2, Option.bind_some]
          by_cases g6 : p.2.2 = cutI src u p.2.1
          · have : (p.1 = last + (i : Int) + 1 ∧ p.1 ≤ 1000) ∧ (u ≤ p.2.1 ∧ p.2.1 ≤ a) ∧ p.2.2 = cutI src u p.2.1 := ⟨⟨g1, by omega⟩, ⟨g3, g4⟩, g6⟩
            simp only [dec_t g6, bang_t, cond_false, wrap_succ (show i < 9223372036854775807 by omega), chkP, if_pos this]
            have k := ih (i + 1) p.2.1 (by omega) hd2 ⟨by omega, g4⟩
            rw [show last + ((i + 1 : Nat) : Int) = p.1 by omega] at k
            exact k
          · have : ¬ ((p.1 = last + (i : Int) + 1 ∧ p.1 ≤ 1000) ∧ (u ≤ p.2.1 ∧ p.2.1 ≤ a) ∧ p.2.2 = cutI src u p.2.1) := fun h => g6 h.2.2
            simp only [dec_f g6, bang_f, cond_true, chkP, if_neg this, endB]
    · have e1 : (p.1 != last + (i : Int) + 1) = true := bne_iff_ne.2 g1
      have : ¬ ((p.1 = last + (i : Int) + 1 ∧ p.1 ≤ 1000) ∧ (u ≤ p.2.1 ∧ p.2.1 ≤ a) ∧ p.2.2 = cutI src u p.2.1) := fun h => g1 h.1.1
      simp only [e1, cond_true, chkP, if_neg this, endB]
end
theorem chkP_fit {src : List Int} {a : Int} : ∀ {r : List Prep} {no u w : Int}, chkP src a no u r = some w → 0 ≤ no → 0 ≤ u → ∀ p, p ∈ r → (0 ≤ p.1 ∧ p.1 ≤ 1000) ∧ (0 ≤ p.2.1 ∧ p.2.1 ≤ a) ∧ p.2.2.length ≤ src.length
  | [], no, u, w, _, _, _, p, hp => by cases hp
  | q :: r, no, u, w, h, hno, hu, p, hp => by
    simp only [chkP] at h
    split at h
    · rename_i g
      obtain ⟨⟨g1, g2⟩, ⟨g3, g4⟩, g5⟩ := g
      rcases List.mem_cons.1 hp with rfl | hp
      · exact ⟨⟨by omega, g2⟩, ⟨by omega, g4⟩, by rw [g5]; exact cutI_len _ _ _⟩
      · exact chkP_fit h (by omega) (by omega) p hp
    · cases h
theorem rows_sum {n : Nat} : ∀ (st : List Prep), (∀ p, p ∈ st → p.2.2.length ≤ n) → (st.map fun p => p.2.2.length).sum ≤ n * st.length
  | [], _ => by simp
  | p :: st, h => by
    have h1 := h p (by simp)
    have h2 := rows_sum st fun q hq => h q (List.mem_cons_of_mem _ hq)
    have e : n * (p :: st).length = n * st.length + n := by rw [List.length_cons, Nat.mul_succ]
    rw [e]
    simp only [List.map_cons, List.sum_cons]
    omega
theorem goodP_ok {s : Snk} {w : Int} (h : GoodP s w) : SinkOK 1000 s := by
  have hle := h.le
  obtain ⟨src, a, pend, st, out, last, upto⟩ := s
  obtain ⟨h1, h2, h3, h4, h5, h6, h7, h8, h9, h10⟩ := h
  simp only [] at h1 h2 h3 h4 h5 h6 h7 h8 h9 h10 hle
  have hf := chkP_fit h8 h7.1 h4
  have hpl := cutI_len src w a
  have hsum := rows_sum st (fun p hp => Nat.le_trans (hf p hp).2.2 h1)
  refine ⟨h1, h2, h3, h6, fun p hp => ⟨(hf p hp).2.1.1, ?_⟩, fun p hp => ⟨?_, ?_⟩, h4, ?_, ⟨?_, ?_⟩, ?_⟩
  · have := (hf p hp).2.1.2
    show p.2.1 ≤ (src.length : Int)
    omega
  · have := (hf p hp).1; omega
  · have := (hf p hp).1; omega
  · show upto ≤ (src.length : Int)
    omega
  · show -1000000 ≤ last
    omega
  · show last ≤ 1000000
    omega
  · show pend.length + ((st.map fun p => p.2.2.length).sum + out.length) ≤ 1000
    have ho : out.length ≤ src.length := by rw [h10, List.length_take]; omega
    rw [h9] at *
    omega
theorem good_impl {s : Snk} {w : Int} (h : GoodP s w) : impl_GoodSink s.1 s.2.1 s.2.2.1 s.2.2.2.1 s.2.2.2.2.1 s.2.2.2.2.2.1 s.2.2.2.2.2.2 = some true := by
  have hok := goodP_ok h
  obtain ⟨src, a, pend, st, out, last, upto⟩ := s
  obtain ⟨h1, h2, h3, h4, h5, h6, h7, h8, h9, h10⟩ := h
  have hh := hok.hold
  simp only [holdS] at h1 h2 h3 h4 h5 h6 h7 h8 h9 h10 hh ⊢
  have g1 : ¬ (src.length : Int) > 30 := by omega
  have g2 : inB 0 (src.length : Int) a = true := inB_iff.2 ⟨h2, h3⟩
  have g3 : inB 0 a upto = true := inB_iff.2 ⟨h4, h5⟩
  have g4 : inB 0 1000 last = true := inB_iff.2 h7
  have g5 : ¬ (st.length : Int) > 4 := by omega
  have k2 := impl_good_loop (pend := pend) (out := out) h1 ⟨h2, h3⟩ ⟨h4, h5⟩ h6 (fun p hp => by have := prep_len hp; omega) (by omega) (by omega) h7 st 0 upto (Nat.zero_le _) rfl ⟨h4, h5⟩
  have k3 : last + ((0 : Nat) : Int) = last := by omega
  rw [k3, h8] at k2
  have k4 : endB src a pend out upto (some w) = true := by simp only [endB, dec_t h9, dec_t h10, Bool.and_true]
  rw [k4] at k2
  refine impl_GoodSink.eq _ _ _ _ _ _ _ ?_
  simp only [impl_GoodSink.t, dec_f g1, impl_within_eq, g2, g3, g4, dec_f g5, Option.bind_some, bang_t, cond_false]
  exact k2
theorem out_impl {s : Snk} {w : Int} (h : GoodP s w) : impl_OutOf s.1 s.2.1 s.2.2.1 s.2.2.2.1 s.2.2.2.2.1 s.2.2.2.2.2.1 s.2.2.2.2.2.2 = some (s.2.2.2.2.1, (s.1.length : Int) - (s.2.2.2.2.1.length : Int), true) := by
  have h1 := (goodP_ok h).hold
  have h2 := h.src
  simp only [holdS] at h1
  have hw : IntKind.i64.wrap ((s.1.length : Int) - (s.2.2.2.2.1.length : Int)) = (s.1.length : Int) - (s.2.2.2.2.1.length : Int) := wrap_id (by omega) (by omega)
  exact impl_OutOf.eq _ _ _ _ _ _ _ (by simp only [impl_OutOf.t, good_impl h, Option.bind_some, bang_t, cond_false, clone_int s.2.2.2.2.1 (by omega), hw])
theorem often_loop (k : Int) : ∀ (f : Nat) (s : Snk) (n m : Nat), SinkOK n s → n + f ≤ 100000 → m + f ≤ 100000 → stepS (oftenS f s k).1 k = none →
    xi08.l2 s.1 s.2.1 s.2.2.1 s.2.2.2.1 s.2.2.2.2.1 s.2.2.2.2.2.1 s.2.2.2.2.2.2 k (m : Int) = some (((m + (oftenS f s k).2 : Nat) : Int), (oftenS f s k).1)
  | f, s, n, m, h, hn, hm, he => by
    obtain ⟨_, s2⟩ := step_eq h (by omega) k
    cases hx : stepS s k with
    | none =>
      have e : oftenS f s k = (s, 0) := by cases f with | zero => rfl | succ f => rw [oftenS, hx]
      rw [hx] at s2
      rw [e]
      refine xi08.eq2 _ _ _ _ _ _ _ _ _ ?_
      simp only [xi08.t2, s2, implT, Option.bind_some, cond_false, Nat.add_zero]
    | some t =>
      cases f with
      | zero => rw [oftenS, hx] at he; cases he
      | succ f =>
        have e : oftenS (f + 1) s k = ((oftenS f t k).1, (oftenS f t k).2 + 1) := by rw [oftenS, hx]
        rw [e] at he
        have ih := often_loop k f t (n + 1) (m + 1) (stepS_ok h hx).1 (by omega) (by omega) he
        rw [hx] at s2
        rw [e]
        refine xi08.eq2 _ _ _ _ _ _ _ _ _ ?_
        simp only [xi08.t2, s2, implT, Option.bind_some, cond_true, wrap_succ (show m < 9223372036854775807 by omega)]
        rw [ih, show m + 1 + (oftenS f t k).2 = m + ((oftenS f t k).2 + 1) by omega]
theorem often_impl {s : Snk} {n : Nat} {k : Int} (f : Nat) (h : SinkOK n s) (hn : n + f ≤ 100000) (he : stepS (oftenS f s k).1 k = none) :
    xi08 s.1 s.2.1 s.2.2.1 s.2.2.2.1 s.2.2.2.2.1 s.2.2.2.2.2.1 s.2.2.2.2.2.2 k = some (((oftenS f s k).2 : Int), (oftenS f s k).1) := by
  have := often_loop k f s n 0 h hn (by omega) he
  rw [Nat.zero_add] at this
  exact xi08.eq _ _ _ _ _ _ _ _ this
theorem commit_impl {src pend out : List Int} {at_ last upto w : Int} {st : List Prep} (h : GoodP (src, at_, pend, st, out, last, upto) w) :
    xi08 src at_ pend st out last upto 3 = some ((st.length : Int), src, at_, pend, [], src.take w.toNat, last + (st.length : Int), w) := by
  obtain ⟨k1, k2⟩ := often_commit 4 h h.st4
  have := often_impl (k := 3) 4 (goodP_ok h) (by omega) (by rw [k2]; exact none_commit)
  rw [k1, k2] at this
  exact this
theorem read_impl {src pend out : List Int} {at_ last upto w : Int} {st : List Prep} (h : GoodP (src, at_, pend, st, out, last, upto) w) :
    ∃ m, xi08 src at_ pend st out last upto 1 = some (m, src, (src.length : Int), cutI src w (src.length : Int), st, out, last, upto) := by
  have hs := h.src
  have k2 := often_read 30 h (by simp only [] at hs; omega)
  have := often_impl (k := 1) 30 (goodP_ok h) (by omega) (by rw [k2]; exact none_read)
  rw [k2] at this
  exact ⟨_, this⟩
theorem prep_impl {src pend out : List Int} {a last upto w : Int} {st : List Prep} (h : GoodP (src, a, pend, st, out, last, upto) w) :
    xi01 src a pend st out last upto = some (implT (src, a, pend, st, out, last, upto) (stepS (src, a, pend, st, out, last, upto) 2)) := by
  have h7 := h.la
  have h6 := h.st4
  simp only [] at h6 h7
  have k1 : ¬ (2 : Int) = 1 := by omega
  have hw : IntKind.i64.wrap (last + (st.length : Int)) = last + (st.length : Int) := wrap_id (by omega) (by omega)
  refine xi01.eq _ _ _ _ _ _ _ ?_
  by_cases g1 : pend.length = 0
  · have e3 : ((pend.length : Int) == 0) = true := beq_iff_eq.2 (by omega)
    simp only [xi01.t, e3, cond_true, stepS, if_neg k1, if_true, if_pos g1, implT]
  · have e3 : ((pend.length : Int) == 0) = false := beq_eq_false_iff_ne.2 (by omega)
    by_cases g2 : st.length ≥ 4
    · have g2' : (st.length : Int) ≥ 4 := by omega
      simp only [xi01.t, e3, dec_t g2', cond_true, cond_false, stepS, if_neg k1, if_true, if_neg g1, if_pos g2, implT]
    · have g2' : ¬ (st.length : Int) ≥ 4 := by omega
      by_cases g3 : last + (st.length : Int) ≥ 1000
      · simp only [xi01.t, e3, dec_f g2', hw, dec_t g3, cond_true, cond_false, stepS, if_neg k1, if_true, if_neg g1, if_neg g2, if_pos g3, implT]
      · have hw2 : IntKind.i64.wrap (last + (st.length : Int) + 1) = last + (st.length : Int) + 1 := wrap_id (by omega) (by omega)
        have g4 : st.length + [(last + (st.length : Int) + 1, a, pend)].length ≤ 4294967296 := by simp only [List.length_cons, List.length_nil]; omega
        simp only [xi01.t, e3, dec_f g2', hw, hw2, dec_f g3, dec_t g4, cond_true, cond_false, stepS, if_neg k1, if_true, if_neg g1, if_neg g2, if_neg g3, implT]
/-- Behind a crash: all that was stored is given out. -/
theorem recover_impl {src pend out : List Int} {a last upto w : Int} {st : List Prep} (h : GoodP (src, a, pend, st, out, last, upto) w) :
    impl_RecoverSink src a pend st out last upto = some (src, w, [], [], src.take w.toNat, last + (st.length : Int), w, (st.length : Int), true) ∧ GoodP (src, w, [], [], src.take w.toNat, last + (st.length : Int), w) w := by
  have hok := goodP_ok h
  obtain ⟨_, o2⟩ := own_eq hok (by omega)
  obtain ⟨_, g⟩ := crash_good h
  have c2 := (crash_eq (src := src) (a := a) (pend := pend) (out := out) (last := last) (upto := upto) (st := st) (by have := h.st4; simp only [] at this; omega)).2
  rw [chkP_stored h.chk] at c2
  have m := commit_impl g
  have g2 := commit_good g
  obtain ⟨_, p2⟩ := own_eq (goodP_ok g2) (by omega)
  have e := good_impl h
  simp only [] at o2 p2 e c2
  exact ⟨impl_RecoverSink.eq _ _ _ _ _ _ _ (by simp only [impl_RecoverSink.t, e, o2, c2, m, p2, Option.bind_some, bang_t, cond_false]), g2⟩
theorem implT_snd (s : Snk) (o : Option Snk) : implT s o = ((implT s o).1, o.getD s) := by cases o <;> rfl
/-- What DrainSink does where there is room: read, prepare, commit. -/
theorem tail_impl {src pend out : List Int} {a last upto w : Int} {st : List Prep} (h : GoodP (src, a, pend, st, out, last, upto) w) (hst : st.length ≤ 3) (hn : last + (st.length : Int) < 1000) :
    ∃ (m : Int) (s2 : Snk) (b : Bool) (s3 : Snk) (n : Int) (l2 : List Int) (la : Int), xi08 src a pend st out last upto 1 = some (m, s2) ∧ xi01 s2.1 s2.2.1 s2.2.2.1 s2.2.2.2.1 s2.2.2.2.2.1 s2.2.2.2.2.2.1 s2.2.2.2.2.2.2 = some (b, s3) ∧
      xi08 s3.1 s3.2.1 s3.2.2.1 s3.2.2.2.1 s3.2.2.2.2.1 s3.2.2.2.2.2.1 s3.2.2.2.2.2.2 3 = some (n, src, (src.length : Int), l2, [], src, la, (src.length : Int)) ∧ GoodP (src, (src.length : Int), l2, [], src, la, (src.length : Int)) (src.length : Int) := by
  obtain ⟨m, r⟩ := read_impl h
  have p := prep_impl (read_good h)
  rw [implT_snd] at p
  obtain ⟨v, l2, hv, hv2, e⟩ := drain_tail h hst hn
  generalize hs3 : (stepS (src, (src.length : Int), cutI src w (src.length : Int), st, out, last, upto) 2).getD (src, (src.length : Int), cutI src w (src.length : Int), st, out, last, upto) = s3 at p hv e
  have o := often_impl (k := 3) 4 (goodP_ok hv) (by omega) (by rw [e]; exact none_commit)
  rw [e] at o
  have gf : GoodP (oftenS 4 s3 3).1 v := by
    obtain ⟨x1, x2, x3, x4, x5, x6, x7⟩ := s3
    obtain ⟨_, k2⟩ := often_commit 4 hv hv.st4
    rw [k2]
    exact commit_good hv
  rw [e, hv2] at gf
  exact ⟨m, _, _, s3, _, l2, _, r, p, o, gf⟩
theorem drain_impl {src pend out : List Int} {a last upto w : Int} {st : List Prep} (h : GoodP (src, a, pend, st, out, last, upto) w) (hn : last + (st.length : Int) < 1000) :
    ∃ (l2 : List Int) (la n : Int), impl_DrainSink src a pend st out last upto = some (src, (src.length : Int), l2, [], src, la, (src.length : Int), n, true) ∧ GoodP (src, (src.length : Int), l2, [], src, la, (src.length : Int)) (src.length : Int) := by
  obtain ⟨_, o2⟩ := own_eq (goodP_ok h) (by omega)
  have e := good_impl h
  simp only [] at o2 e
  by_cases g : st.length = 4
  · have c := commit_impl h
    have g2 := commit_good h
    obtain ⟨m, s2, b, s3, n, l2, la, t1, t2, t3, t4⟩ := tail_impl g2 (by simp) (by simp only [List.length_nil]; omega)
    obtain ⟨_, q2⟩ := own_eq (goodP_ok t4) (by omega)
    simp only [] at q2
    have e4 : ((st.length : Int) == 4) = true := beq_iff_eq.2 (by omega)
    exact ⟨l2, la, _, impl_DrainSink.eq _ _ _ _ _ _ _ (by simp only [impl_DrainSink.t, e, o2, e4, c, t1, t2, t3, q2, Option.bind_some, bang_t, cond_true, cond_false]; rfl), t4⟩
  · have h4 := h.st4
    simp only [] at h4
    obtain ⟨m, s2, b, s3, n, l2, la, t1, t2, t3, t4⟩ := tail_impl h (by omega) hn
    obtain ⟨_, q2⟩ := own_eq (goodP_ok t4) (by omega)
    simp only [] at q2
    have e4 : ((st.length : Int) == 4) = false := beq_eq_false_iff_ne.2 (by omega)
    exact ⟨l2, la, _, impl_DrainSink.eq _ _ _ _ _ _ _ (by simp only [impl_DrainSink.t, e, o2, e4, t1, t2, t3, q2, Option.bind_some, bang_t, cond_true, cond_false]; rfl), t4⟩
theorem step_num {s t : Snk} {k w : Int} (h : GoodP s w) (hx : stepS s k = some t) : t.2.2.2.2.2.1 + (t.2.2.2.1.length : Int) ≤ s.2.2.2.2.2.1 + (s.2.2.2.1.length : Int) + 1 := by
  obtain ⟨src, a, pend, st, out, last, upto⟩ := s
  have hc := h.chk
  simp only [stepS] at hx hc
  split at hx
  · split at hx
    · cases hx
    · obtain rfl := Option.some.inj hx
      show last + (st.length : Int) ≤ last + (st.length : Int) + 1
      omega
  · split at hx
    · split at hx
      · cases hx
      · split at hx
        · cases hx
        · split at hx
          · cases hx
          · obtain rfl := Option.some.inj hx
            simp only [List.length_append, List.length_singleton]
            omega
    · split at hx
      · split at hx
        · cases hx
        · obtain rfl := Option.some.inj hx
          cases st with
          | nil => rename_i g; exact absurd rfl g
          | cons p r =>
            have := (chkP_cons.1 hc).1.1.1
            simp only [List.drop_succ_cons, List.drop_zero, List.getD_cons_zero, List.length_cons]
            omega
      · split at hx
        · obtain rfl := Option.some.inj hx
          show last + (st.length : Int) ≤ last + (st.length : Int) + 1
          omega
        · split at hx
          · split at hx
            · cases hx
            · obtain rfl := Option.some.inj hx
              simp only [List.length_take]
              omega
          · cases hx
end GoV

/- What is given out is the source's beginning, and in the end it is all: the law, for each draw. -/
namespace GoV
open Go
theorem ints_self (a : List Int) (h : a.length ≤ 1073741824) : laws_sameInts a a = some true := by
  have key : ∀ (m i : Nat), i + m = a.length → laws_sameInts.l4 a a (a.length : Int) (i : Int) = some true := by
    intro m
    induction m with
    | zero =>
      intro i hi
      have e : i = a.length := by omega
      subst e
      exact laws_sameInts.eq4 _ _ _ _ (by simp only [laws_sameInts.t4, ix_lt, Nat.lt_irrefl, decide_false, cond_false])
    | succ m ih =>
      intro i hi
      have g : i < a.length := by omega
      refine laws_sameInts.eq4 _ _ _ _ ?_
      simp only [laws_sameInts.t4, ix_lt, ix_nn, ix_nat, dec_t g, cond_true, cond_false, bne_ref, wrap_succ (show i < 9223372036854775807 by omega)]
      exact ih (i + 1) (by omega)
  refine laws_sameInts.eq _ _ ?_
  simp only [laws_sameInts.t, bne_ref, cond_false]
  exact key a.length 0 (by omega)
theorem bools_self (a : List Bool) (h : a.length ≤ 1073741824) : laws_sameBools a a = some true := by
  have key : ∀ (m i : Nat), i + m = a.length → laws_sameBools.l4 a a (a.length : Int) (i : Int) = some true := by
    intro m
    induction m with
    | zero =>
      intro i hi
      have e : i = a.length := by omega
      subst e
      exact laws_sameBools.eq4 _ _ _ _ (by simp only [laws_sameBools.t4, ix_lt, Nat.lt_irrefl, decide_false, cond_false])
    | succ m ih =>
      intro i hi
      have g : i < a.length := by omega
      refine laws_sameBools.eq4 _ _ _ _ ?_
      simp only [laws_sameBools.t4, ix_lt, ix_nn, ix_nat, dec_t g, cond_true, wrap_succ (show i < 9223372036854775807 by omega)]
      cases a.getD i false
      · exact ih (i + 1) (by omega)
      · exact ih (i + 1) (by omega)
  refine laws_sameBools.eq _ _ ?_
  simp only [laws_sameBools.t, bne_ref, cond_false]
  exact key a.length 0 (by omega)
theorem sinks_self {s : Snk} {w : Int} (h : GoodP s w) : laws_sameSinks s.1 s.2.1 s.2.2.1 s.2.2.2.1 s.2.2.2.2.1 s.2.2.2.2.2.1 s.2.2.2.2.2.2 s.1 s.2.1 s.2.2.1 s.2.2.2.1 s.2.2.2.2.1 s.2.2.2.2.2.1 s.2.2.2.2.2.2 = some true := by
  have hok := goodP_ok h
  obtain ⟨src, a, pend, st, out, last, upto⟩ := s
  have h1 := hok.src
  have h4 := hok.st4
  have hh := hok.hold
  simp only [holdS] at h1 h4 hh ⊢
  have key : ∀ (m i : Nat), i + m = st.length → laws_sameSinks.l4 src a pend st out last upto src a pend st out last upto (st.length : Int) (i : Int) = some true := by
    intro m
    induction m with
    | zero =>
      intro i hi
      have e : i = st.length := by omega
      subst e
      exact laws_sameSinks.eq4 _ _ _ _ _ _ _ _ _ _ _ _ _ _ _ _ (by simp only [laws_sameSinks.t4, ix_lt, Nat.lt_irrefl, decide_false, cond_false])
    | succ m ih =>
      intro i hi
      have g : i < st.length := by omega
      have hp := prep_len (getD_mem (((0 : Int), (0 : Int), []) : Prep) g)
      have e := ints_self (st.getD i ((0 : Int), (0 : Int), [])).2.2 (by omega)
      refine laws_sameSinks.eq4 _ _ _ _ _ _ _ _ _ _ _ _ _ _ _ _ ?_
      simp only [laws_sameSinks.t4, ix_lt, ix_nn, ix_nat, dec_t g, cond_true, cond_false, bne_ref, e, Option.bind_some, bang_t, wrap_succ (show i < 9223372036854775807 by omega)]
      exact ih (i + 1) (by omega)
  refine laws_sameSinks.eq _ _ _ _ _ _ _ _ _ _ _ _ _ _ ?_
  simp only [laws_sameSinks.t, ints_self src (by omega), ints_self pend (by omega), ints_self out (by omega), bne_ref, Option.bind_some, bang_t, cond_false]
  exact key st.length 0 (by omega)
theorem zero_self : laws_sameSinks [] 0 [] [] [] 0 0 [] 0 [] [] [] 0 0 = some true := by
  have g : GoodP (([] : List Int), (0 : Int), ([] : List Int), ([] : List Prep), ([] : List Int), (0 : Int), (0 : Int)) 0 := ⟨by simp, Int.le_refl _, Int.le_refl _, Int.le_refl _, Int.le_refl _, by simp, by simp, rfl, rfl, rfl⟩
  exact sinks_self g
theorem playS_good : ∀ (l : List Int) {s : Snk} {w : Int}, GoodP s w → (∃ v, GoodP (playS s l).1 v) ∧ (playS s l).1.1 = s.1 ∧ (playS s l).1.2.2.2.2.2.1 + ((playS s l).1.2.2.2.1.length : Int) ≤ s.2.2.2.2.2.1 + (s.2.2.2.1.length : Int) + (l.length : Int)
  | [], s, w, h => ⟨⟨w, h⟩, rfl, by simp only [playS, List.length_nil]; omega⟩
  | k :: l, s, w, h => by
    rw [playS]
    cases hx : stepS s k with
    | none =>
      obtain ⟨h1, h2, h3⟩ := playS_good l h
      refine ⟨h1, h2, ?_⟩
      simp only [List.length_cons]
      omega
    | some t =>
      obtain ⟨v, hv⟩ := step_good h hx
      obtain ⟨h1, h2, h3⟩ := playS_good l hv
      have h4 := step_num h hx
      refine ⟨h1, h2.trans (stepS_ok (goodP_ok h) hx).2, ?_⟩
      simp only [List.length_cons]
      omega
theorem FnGivenOnce_true (v0 : List Int) (w0 : WfT (.sl (.int .u8)) v0) : laws_FnGivenOnce v0 = some true := by
  refine laws_FnGivenOnce.eq _ ?_
  by_cases hc : (v0.length : Int) > 1048576
  · simp only [laws_FnGivenOnce.t, dec_t hc, cond_true]
  · have hb : Byt v0 := fun x hx => w0.2 x hx
    obtain ⟨l, k, ed, hl, hk⟩ := drawPlay_ok hb
    have hp := play_eq l k (by omega) (by omega)
    by_cases g : l.length ≤ 30 ∧ k.length ≤ 120
    · rw [if_pos g] at hp
      obtain ⟨p1, p2⟩ := hp
      have hd := playS_len k (l, 0, [], [], [], 0, 0)
      have h0 : GoodP ((l, 0, [], [], [], 0, 0) : Snk) 0 := ⟨g.1, Int.le_refl _, by show (0 : Int) ≤ (l.length : Int); omega, Int.le_refl _, Int.le_refl _, by simp, by simp, rfl, (cut_self l 0).symm, rfl⟩
      obtain ⟨⟨w, hw⟩, h1, h2⟩ := playS_good k h0
      generalize hs : (playS (l, 0, [], [], [], 0, 0) k).1 = s at p1 p2 hw h1 h2
      generalize hdd : (playS (l, 0, [], [], [], 0, 0) k).2 = did at p1 p2 hd
      obtain ⟨src, a, pend, st, out, last, upto⟩ := s
      simp only [] at h1
      subst h1
      simp only [List.length_nil] at h2
      have eb := bools_self did (by omega)
      have es := sinks_self hw
      have eg := good_impl hw
      have eo := out_impl hw
      obtain ⟨er, gr⟩ := recover_impl hw
      obtain ⟨er2, _⟩ := recover_impl gr
      have eor := out_impl gr
      obtain ⟨l2, la, n, edr, gd⟩ := drain_impl hw (by omega)
      have eod := out_impl gd
      have hle := hw.le
      have ho := hw.out
      have i1 := hw.src
      have i2 := hw.at1
      have i3 := hw.up0
      simp only [] at es eg eo eor eod hle ho i1 i2 i3
      have hol : out.length ≤ src.length := by rw [ho, List.length_take]; omega
      have hwl : (src.take w.toNat).length = w.toNat := by rw [List.length_take]; omega
      have hul : out.length = upto.toNat := by rw [ho, List.length_take]; omega
      have e1 : IntKind.i64.wrap ((out.length : Int) + ((src.length : Int) - (out.length : Int))) = (src.length : Int) := by rw [wrap_id (by omega) (by omega)]; omega
      have e2 : (out.length : Int) ≤ (src.length : Int) := by omega
      have e3 : src.take out.length = out := by rw [hul]; exact ho.symm
      have e4 : ¬ ((w.toNat : Nat) : Int) < (out.length : Int) := by omega
      have e5 : ((w.toNat : Nat) : Int) ≤ (src.length : Int) := by omega
      have e6 : ((src.length : Int) - (src.length : Int) == 0) = true := beq_iff_eq.2 (by omega)
      have er3 : ((0 : Nat) : Int) = 0 := rfl
      have s2 := sinks_self gr
      simp only [] at s2
      have t1 := ints_self out (by omega)
      have t2 := ints_self (src.take w.toNat) (by rw [hwl]; omega)
      have t3 := ints_self src (by omega)
      simp only [List.length_nil, er3, Int.add_zero] at er2
      simp only [laws_FnGivenOnce.t, dec_f hc, ed, p1, p2, tellS, eb, es, eo, eg, e1, e2, e3, Option.bind_some, bne_ref, bang_t, bang_f, cond_true, cond_false, Option.getD_none, Int.sub_zero, toNat0', List.drop_zero, Int.toNat_natCast, decide_true, t1, er, er2, eor, er3, s2, hwl, dec_f e4, dec_t e5, t2, edr, eod, e6, t3]
      rfl
    · rw [if_neg g] at hp
      obtain ⟨p1, p2⟩ := hp
      have eb := bools_self [] (by simp)
      simp only [laws_FnGivenOnce.t, dec_f hc, ed, p1, p2, eb, zero_self, Option.bind_some, bne_ref, bang_t, bang_f, cond_true, cond_false]
      rfl
end GoV

/- FnGivenOnce: its core is the law. -/
