/- A part of the proof of FnSinkSteps: an interpreter of the model over plain data, its soundness, and what it makes of the functions that the statement reaches. Conditions: none beyond what the given statement itself says. -/
import Derived.Test.YthecmihppeckhaaTM
set_option linter.unusedVariables false
set_option linter.unusedSimpArgs false
set_option linter.unnecessarySimpa false
set_option linter.unusedSectionVars false
/- Good sinks stay good; what recovering and draining give. Plain Lean. -/
namespace GoV
open Go
def cutI (src : List Int) (u v : Int) : List Int := (src.drop u.toNat).take (v - u).toNat
/-- What is stored, one behind the other; how far all of it goes. -/
def chkP (src : List Int) (a : Int) : Int → Int → List Prep → Option Int
  | _, u, [] => some u
  | no, u, p :: r => if (p.1 = no + 1 ∧ p.1 ≤ 1000) ∧ (u ≤ p.2.1 ∧ p.2.1 ≤ a) ∧ p.2.2 = cutI src u p.2.1 then chkP src a p.1 p.2.1 r else none
theorem chkP_cons {src : List Int} {a no u w : Int} {p : Prep} {r : List Prep} : chkP src a no u (p :: r) = some w ↔ ((p.1 = no + 1 ∧ p.1 ≤ 1000) ∧ (u ≤ p.2.1 ∧ p.2.1 ≤ a) ∧ p.2.2 = cutI src u p.2.1) ∧ chkP src a p.1 p.2.1 r = some w := by
  by_cases h : (p.1 = no + 1 ∧ p.1 ≤ 1000) ∧ (u ≤ p.2.1 ∧ p.2.1 ≤ a) ∧ p.2.2 = cutI src u p.2.1
  · rw [chkP, if_pos h]
    exact ⟨fun g => ⟨h, g⟩, fun g => g.2⟩
  · rw [chkP, if_neg h]
    exact ⟨fun g => (by cases g), fun g => absurd g.1 h⟩
theorem chkP_le {src : List Int} {a : Int} : ∀ {st : List Prep} {no u w : Int}, chkP src a no u st = some w → u ≤ a → u ≤ w ∧ w ≤ a
  | [], no, u, w, h, hu => by simp only [chkP, Option.some.injEq] at h; omega
  | p :: r, no, u, w, h, hu => by
    obtain ⟨⟨_, ⟨h1, h2⟩, _⟩, h3⟩ := chkP_cons.1 h
    have := chkP_le h3 h2
    omega
theorem storedU_cons (p : Prep) (r : List Prep) (u : Int) : storedU (p :: r) u = storedU r p.2.1 := by
  cases r with
  | nil => simp [storedU]
  | cons q r => simp [storedU]
theorem chkP_stored {src : List Int} {a : Int} : ∀ {st : List Prep} {no u w : Int}, chkP src a no u st = some w → storedU st u = w
  | [], no, u, w, h => by simp only [chkP, Option.some.injEq] at h; simpa [storedU] using h
  | p :: r, no, u, w, h => by rw [storedU_cons]; exact chkP_stored (chkP_cons.1 h).2
theorem chkP_mono {src : List Int} {a b : Int} : ∀ {st : List Prep} {no u w : Int}, chkP src a no u st = some w → u ≤ a → w ≤ b → chkP src b no u st = some w
  | [], no, u, w, h, _, _ => h
  | p :: r, no, u, w, h, hu, hw => by
    obtain ⟨⟨h0, ⟨h1, h2⟩, h3⟩, h4⟩ := chkP_cons.1 h
    have := chkP_le h4 h2
    exact chkP_cons.2 ⟨⟨h0, ⟨h1, by omega⟩, h3⟩, chkP_mono h4 h2 hw⟩
theorem chkP_append {src : List Int} {a : Int} : ∀ {st t : List Prep} {no u w : Int}, chkP src a no u (st ++ t) = some w ↔ ∃ v, chkP src a no u st = some v ∧ chkP src a (no + (st.length : Int)) v t = some w
  | [], t, no, u, w => by
    simp only [List.nil_append, chkP, Option.some.injEq, List.length_nil]
    constructor
    · intro h; exact ⟨u, rfl, by simpa using h⟩
    · rintro ⟨v, rfl, h⟩; simpa using h
  | p :: r, t, no, u, w => by
    rw [List.cons_append, chkP_cons, chkP_append (st := r)]
    constructor
    · rintro ⟨h1, v, h2, h3⟩
      refine ⟨v, chkP_cons.2 ⟨h1, h2⟩, ?_⟩
      rw [show no + ((p :: r).length : Int) = p.1 + (r.length : Int) by have := h1.1.1; simp only [List.length_cons]; omega]
      exact h3
    · rintro ⟨v, h2, h3⟩
      obtain ⟨h1, h2⟩ := chkP_cons.1 h2
      refine ⟨h1, v, h2, ?_⟩
      rw [show no + ((p :: r).length : Int) = p.1 + (r.length : Int) by have := h1.1.1; simp only [List.length_cons]; omega] at h3
      exact h3
structure GoodP (s : Snk) (w : Int) : Prop where
  src : s.1.length ≤ 30
  at0 : 0 ≤ s.2.1
  at1 : s.2.1 ≤ (s.1.length : Int)
  up0 : 0 ≤ s.2.2.2.2.2.2
  up1 : s.2.2.2.2.2.2 ≤ s.2.1
  st4 : s.2.2.2.1.length ≤ 4
  la : 0 ≤ s.2.2.2.2.2.1 ∧ s.2.2.2.2.2.1 ≤ 1000
  chk : chkP s.1 s.2.1 s.2.2.2.2.2.1 s.2.2.2.2.2.2 s.2.2.2.1 = some w
  pend : s.2.2.1 = cutI s.1 w s.2.1
  out : s.2.2.2.2.1 = s.1.take s.2.2.2.2.2.2.toNat
theorem GoodP.le {s : Snk} {w : Int} (h : GoodP s w) : s.2.2.2.2.2.2 ≤ w ∧ w ≤ s.2.1 := chkP_le h.chk h.up1
theorem cut_step {src : List Int} {u a : Int} (hu : 0 ≤ u) (h1 : u ≤ a) (h2 : a < (src.length : Int)) : cutI src u (a + 1) = cutI src u a ++ [src.getD a.toNat 0] := by
  have e : (a + 1 - u).toNat = (a - u).toNat + 1 := by omega
  have hl : (a - u).toNat < (src.drop u.toNat).length := by rw [List.length_drop]; omega
  rw [cutI, cutI, e, List.take_succ_eq_append_getElem hl, List.getElem_drop, getD_of_lt (by omega)]
  congr 2
  congr 1
  omega
theorem take_cut {src : List Int} {u v : Int} (hu : 0 ≤ u) (h : u ≤ v) : src.take u.toNat ++ cutI src u v = src.take v.toNat := by
  rw [cutI, ← List.take_add]
  congr 1
  omega
theorem cut_self (src : List Int) (u : Int) : cutI src u u = [] := by
  rw [cutI, Int.sub_self]
  rfl
theorem step_good {s t : Snk} {k w : Int} (h : GoodP s w) (hx : stepS s k = some t) : ∃ v, GoodP t v := by
  have hle := h.le
  obtain ⟨src, at_, pend, st, out, last, upto⟩ := s
  obtain ⟨h1, h2, h3, h4, h5, h6, h7, h8, h9, h10⟩ := h
  simp only [] at h1 h2 h3 h4 h5 h6 h7 h8 h9 h10 hle
  simp only [stepS] at hx
  split at hx
  · split at hx
    · cases hx
    · rename_i hne
      obtain rfl := Option.some.inj hx
      refine ⟨w, h1, ?_, ?_, h4, ?_, h6, h7, ?_, ?_, h10⟩
      · show 0 ≤ at_ + 1; omega
      · show at_ + 1 ≤ (src.length : Int); omega
      · show upto ≤ at_ + 1; omega
      · exact chkP_mono h8 h5 (by show w ≤ at_ + 1; omega)
      · show pend ++ [src.getD at_.toNat 0] = cutI src w (at_ + 1)
        rw [h9, cut_step (by omega) (by omega) (by omega)]
  · split at hx
    · split at hx
      · cases hx
      · split at hx
        · cases hx
        · split at hx
          · cases hx
          · rename_i g1 g2 g3
            obtain rfl := Option.some.inj hx
            refine ⟨at_, h1, h2, h3, h4, h5, ?_, h7, ?_, ?_, h10⟩
            · simp only [List.length_append, List.length_singleton]; omega
            · refine chkP_append.2 ⟨w, h8, chkP_cons.2 ⟨⟨⟨rfl, ?_⟩, ⟨hle.2, Int.le_refl _⟩, h9⟩, rfl⟩⟩
              show last + (st.length : Int) + 1 ≤ 1000
              omega
            · exact (cut_self src at_).symm
    · split at hx
      · split at hx
        · cases hx
        · rename_i g1
          obtain rfl := Option.some.inj hx
          cases st with
          | nil => exact absurd rfl g1
          | cons p st =>
            obtain ⟨⟨⟨c1, c2⟩, ⟨c3, c4⟩, c5⟩, c6⟩ := chkP_cons.1 h8
            simp only [List.length_cons] at h6
            refine ⟨w, h1, h2, h3, ?_, c4, ?_, ?_, ?_, h9, ?_⟩
            · show 0 ≤ p.2.1; omega
            · simp only [List.drop_succ_cons, List.drop_zero]; omega
            · show 0 ≤ p.1 ∧ p.1 ≤ 1000; omega
            · simpa using c6
            · show out ++ p.2.2 = src.take p.2.1.toNat
              rw [h10, c5, take_cut h4 c3]
      · split at hx
        · obtain rfl := Option.some.inj hx
          have hs := chkP_stored h8
          refine ⟨w, h1, ?_, ?_, h4, ?_, h6, h7, ?_, ?_, h10⟩
          · show 0 ≤ storedU st upto; omega
          · show storedU st upto ≤ (src.length : Int); omega
          · show upto ≤ storedU st upto; omega
          · exact chkP_mono h8 h5 (by show w ≤ storedU st upto; omega)
          · show ([] : List Int) = cutI src w (storedU st upto)
            rw [hs, cut_self]
        · split at hx
          · split at hx
            · cases hx
            · obtain rfl := Option.some.inj hx
              have e : st = st.take (st.length - 1) ++ st.drop (st.length - 1) := (List.take_append_drop _ _).symm
              rw [e] at h8
              obtain ⟨v, c1, _⟩ := chkP_append.1 h8
              have hs := chkP_stored c1
              have hv := chkP_le c1 h5
              refine ⟨v, h1, ?_, ?_, h4, ?_, ?_, h7, ?_, ?_, h10⟩
              · show 0 ≤ storedU (st.take (st.length - 1)) upto; omega
              · show storedU (st.take (st.length - 1)) upto ≤ (src.length : Int); omega
              · show upto ≤ storedU (st.take (st.length - 1)) upto; omega
              · simp only [List.length_take]; omega
              · exact chkP_mono c1 h5 (by show v ≤ storedU (st.take (st.length - 1)) upto; omega)
              · show ([] : List Int) = cutI src v (storedU (st.take (st.length - 1)) upto)
                rw [hs, cut_self]
          · cases hx
/-- A step made as often as it can be, at most f times. -/
def oftenS : Nat → Snk → Int → Snk × Nat
  | 0, s, _ => (s, 0)
  | f + 1, s, k => match stepS s k with
    | none => (s, 0)
    | some t => ((oftenS f t k).1, (oftenS f t k).2 + 1)
theorem often_good : ∀ (f : Nat) {s : Snk} {k w : Int}, GoodP s w → ∃ v, GoodP (oftenS f s k).1 v
  | 0, s, k, w, h => ⟨w, h⟩
  | f + 1, s, k, w, h => by
    rw [oftenS]
    cases hx : stepS s k with
    | none => exact ⟨w, h⟩
    | some t =>
      obtain ⟨v, hv⟩ := step_good h hx
      exact often_good f hv
theorem often_commit : ∀ (f : Nat) {src pend out : List Int} {at_ last upto w : Int} {st : List Prep}, GoodP (src, at_, pend, st, out, last, upto) w → st.length ≤ f →
    (oftenS f (src, at_, pend, st, out, last, upto) 3).2 = st.length ∧ (oftenS f (src, at_, pend, st, out, last, upto) 3).1 = (src, at_, pend, [], src.take w.toNat, last + (st.length : Int), w)
  | f, src, pend, out, at_, last, upto, w, [], h, _ => by
    have hw : upto = w := by have := h.chk; simpa [chkP] using this
    have ho := h.out
    simp only [] at ho
    subst hw
    have hn : stepS (src, at_, pend, [], out, last, upto) 3 = none := by simp [stepS]
    cases f with
    | zero => exact ⟨rfl, by simp [oftenS, ho]⟩
    | succ f =>
      rw [oftenS, hn]
      exact ⟨rfl, by simp [ho]⟩
  | 0, src, pend, out, at_, last, upto, w, p :: st, h, hf => by simp at hf
  | f + 1, src, pend, out, at_, last, upto, w, p :: st, h, hf => by
    have hx : stepS (src, at_, pend, p :: st, out, last, upto) 3 = some (src, at_, pend, st, out ++ p.2.2, p.1, p.2.1) := by simp [stepS]
    obtain ⟨v, hv⟩ := step_good h hx
    have hvw : v = w := by
      have h1 := (chkP_cons.1 h.chk).2
      have h2 := hv.chk
      simp only [] at h1 h2
      rw [h1] at h2
      exact (Option.some.inj h2).symm
    subst hvw
    have hp : p.1 = last + 1 := (chkP_cons.1 h.chk).1.1.1
    obtain ⟨k1, k2⟩ := often_commit f hv (by simp only [List.length_cons] at hf; omega)
    rw [oftenS, hx]
    refine ⟨by simp only [k1, List.length_cons], ?_⟩
    simp only [k2, List.length_cons]
    rw [hp]
    congr 5
    simp only [Prod.mk.injEq, and_true]
    omega
theorem often_read : ∀ (f : Nat) {src pend out : List Int} {at_ last upto w : Int} {st : List Prep}, GoodP (src, at_, pend, st, out, last, upto) w → src.length ≤ at_.toNat + f →
    (oftenS f (src, at_, pend, st, out, last, upto) 1).1 = (src, (src.length : Int), cutI src w (src.length : Int), st, out, last, upto)
  | 0, src, pend, out, at_, last, upto, w, st, h, hf => by
    have h1 := h.at1
    have h2 := h.at0
    have h3 := h.pend
    simp only [] at h1 h2 h3
    have e : at_ = (src.length : Int) := by omega
    rw [oftenS, h3, e]
  | f + 1, src, pend, out, at_, last, upto, w, st, h, hf => by
    have h1 := h.at1
    have h2 := h.at0
    have h3 := h.pend
    simp only [] at h1 h2 h3
    rw [oftenS]
    by_cases e : at_ = (src.length : Int)
    · have hn : stepS (src, at_, pend, st, out, last, upto) 1 = none := by simp [stepS, e]
      rw [hn]
      simp only [h3, e]
    · have hx : stepS (src, at_, pend, st, out, last, upto) 1 = some (src, at_ + 1, pend ++ [src.getD at_.toNat 0], st, out, last, upto) := by simp only [stepS, if_true, if_neg e]
      obtain ⟨v, hv⟩ := step_good h hx
      have hvw : v = w := by
        have g1 := chkP_mono h.chk h.up1 (b := at_ + 1) (by have := h.le; simp only [] at this; omega)
        have g2 := hv.chk
        simp only [] at g1 g2
        rw [g1] at g2
        exact (Option.some.inj g2).symm
      subst hvw
      rw [hx]
      exact often_read f hv (by omega)
/-- Whose chain is the same ends at the same place. -/
theorem GoodP.same {s t : Snk} {v w : Int} (hs : GoodP s w) (ht : GoodP t v) (h : chkP t.1 t.2.1 t.2.2.2.2.2.1 t.2.2.2.2.2.2 t.2.2.2.1 = some w) : v = w := by
  have := ht.chk
  rw [h] at this
  exact (Option.some.inj this).symm
theorem crash_good {src pend out : List Int} {at_ last upto w : Int} {st : List Prep} (h : GoodP (src, at_, pend, st, out, last, upto) w) :
    stepS (src, at_, pend, st, out, last, upto) 4 = some (src, w, [], st, out, last, upto) ∧ GoodP (src, w, [], st, out, last, upto) w := by
  have hs : storedU st upto = w := chkP_stored h.chk
  have hle := h.le
  have h1 := h.at1
  have h2 := h.up0
  simp only [] at hle h1 h2
  refine ⟨by simp [stepS, hs], h.src, ?_, ?_, h.up0, hle.1, h.st4, h.la, chkP_mono h.chk h.up1 (Int.le_refl _), (cut_self src w).symm, h.out⟩
  · show 0 ≤ w; omega
  · show w ≤ (src.length : Int); omega
theorem none_commit {src pend out : List Int} {at_ last upto : Int} : stepS (src, at_, pend, [], out, last, upto) 3 = none := by simp [stepS]
theorem none_read {src pend out : List Int} {last upto : Int} {st : List Prep} : stepS (src, (src.length : Int), pend, st, out, last, upto) 1 = none := by simp [stepS]
theorem commit_good {src pend out : List Int} {at_ last upto w : Int} {st : List Prep} (h : GoodP (src, at_, pend, st, out, last, upto) w) :
    GoodP (src, at_, pend, [], src.take w.toNat, last + (st.length : Int), w) w := by
  obtain ⟨_, k2⟩ := often_commit st.length h (Nat.le_refl _)
  obtain ⟨v, hv⟩ := often_good st.length (k := 3) h
  rw [k2] at hv
  have e : v = w := by have := hv.chk; simpa [chkP] using this.symm
  rw [e] at hv
  exact hv
theorem read_good {src pend out : List Int} {at_ last upto w : Int} {st : List Prep} (h : GoodP (src, at_, pend, st, out, last, upto) w) :
    GoodP (src, (src.length : Int), cutI src w (src.length : Int), st, out, last, upto) w := by
  have hle := h.le
  have h1 := h.at1
  have h2 := h.at0
  simp only [] at hle h1 h2
  refine ⟨h.src, ?_, Int.le_refl _, h.up0, ?_, h.st4, h.la, chkP_mono h.chk h.up1 ?_, rfl, h.out⟩
  · show (0 : Int) ≤ (src.length : Int); omega
  · show upto ≤ (src.length : Int); omega
  · show w ≤ (src.length : Int); omega
/-- Drained: what is stored where there is no room, all that is there to be read, prepared, given out. -/
def drainS (s : Snk) : Snk :=
  let s1 := if s.2.2.2.1.length = 4 then (oftenS 4 s 3).1 else s
  let s2 := (oftenS 30 s1 1).1
  let s3 := (stepS s2 2).getD s2
  (oftenS 4 s3 3).1
theorem drain_tail {src pend out : List Int} {at_ last upto w : Int} {st : List Prep} (h : GoodP (src, at_, pend, st, out, last, upto) w) (hst : st.length ≤ 3) (hn : last + (st.length : Int) < 1000) :
    ∃ v l2, GoodP ((stepS (src, (src.length : Int), cutI src w (src.length : Int), st, out, last, upto) 2).getD (src, (src.length : Int), cutI src w (src.length : Int), st, out, last, upto)) v ∧ v = (src.length : Int) ∧
      (oftenS 4 ((stepS (src, (src.length : Int), cutI src w (src.length : Int), st, out, last, upto) 2).getD (src, (src.length : Int), cutI src w (src.length : Int), st, out, last, upto)) 3).1 = (src, (src.length : Int), l2, [], src, last + ((((stepS (src, (src.length : Int), cutI src w (src.length : Int), st, out, last, upto) 2).getD (src, (src.length : Int), cutI src w (src.length : Int), st, out, last, upto)).2.2.2.1.length : Nat) : Int), (src.length : Int)) := by
  have hr := read_good h
  have hle := h.le
  have h1 := h.at1
  have h2 := h.up0
  simp only [] at hle h1 h2
  have hlen : (cutI src w (src.length : Int)).length = src.length - w.toNat := by rw [cutI, List.length_take, List.length_drop]; omega
  have htake : src.take ((src.length : Int)).toNat = src := by rw [Int.toNat_natCast, List.take_length]
  by_cases h0 : (cutI src w (src.length : Int)).length = 0
  · have e : stepS (src, (src.length : Int), cutI src w (src.length : Int), st, out, last, upto) 2 = none := by simp [stepS, h0]
    have hw : w = (src.length : Int) := by omega
    rw [e, Option.getD_none]
    obtain ⟨_, k2⟩ := often_commit 4 hr (by omega)
    refine ⟨w, cutI src w (src.length : Int), hr, hw, ?_⟩
    rw [k2, hw, htake]
  · have e : stepS (src, (src.length : Int), cutI src w (src.length : Int), st, out, last, upto) 2 = some (src, (src.length : Int), [], st ++ [(last + (st.length : Int) + 1, (src.length : Int), cutI src w (src.length : Int))], out, last, upto) := by
      have g1 : ¬ st.length ≥ 4 := by omega
      have g2 : ¬ last + (st.length : Int) ≥ 1000 := by omega
      have g3 : ¬ ((2 : Int) = 1) := by omega
      simp only [stepS, if_neg g3, if_true, if_neg h0, if_neg g1, if_neg g2]
    rw [e, Option.getD_some]
    obtain ⟨v, hv⟩ := step_good hr e
    have hv2 : v = (src.length : Int) := by
      have := chkP_stored hv.chk
      simp only [storedU, List.length_append, List.length_singleton] at this
      rw [if_neg (by omega)] at this
      simpa [List.getD] using this.symm
    obtain ⟨_, k2⟩ := often_commit 4 hv (by simp only [List.length_append, List.length_singleton]; omega)
    refine ⟨v, [], hv, hv2, ?_⟩
    rw [k2, hv2, htake]
end GoV
