/- A part of the proof of FnSlid: an interpreter of the model over plain data, its soundness, and what it makes of the functions that the statement reaches. Conditions: none beyond what the given statement itself says. -/
import Derived.Test.YtgoflcackinjdaaTO
set_option linter.unusedVariables false
set_option linter.unusedSimpArgs false
set_option linter.unnecessarySimpa false
set_option linter.unusedSectionVars false
/- Windows pushed, popped, summed up: plain facts. -/
namespace GoV
open Go
def itemsW (f b : List Mp) : List Mp := f.reverse ++ b
theorem goodWin_iff {f s b : List Mp} {m : Mp} : goodWin f s b m = true ↔ f.length + b.length ≤ 60 ∧ (∀ x, x ∈ f → goodM x = true) ∧ (∀ x, x ∈ b → goodM x = true) ∧ s = sumsM oneM f ∧ m = allM b := by
  simp only [goodWin, Bool.and_eq_true, decide_eq_true_eq, List.all_eq_true]
  constructor
  · rintro ⟨⟨h1, h2⟩, h3, h4, h5, h6⟩; exact ⟨h2, h3, h4, h5, h6⟩
  · rintro ⟨h2, h3, h4, h5, h6⟩; exact ⟨⟨by rw [h5, sumsM_len], h2⟩, h3, h4, h5, h6⟩
theorem itemsW_len (f b : List Mp) : (itemsW f b).length = f.length + b.length := by simp [itemsW]
theorem itemsW_good {f s b : List Mp} {m : Mp} (h : goodWin f s b m = true) : ∀ x, x ∈ itemsW f b → goodM x = true := by
  obtain ⟨_, h3, h4, _⟩ := goodWin_iff.1 h
  intro x hx
  simp only [itemsW, List.mem_append, List.mem_reverse] at hx
  exact hx.elim (h3 x) (h4 x)
theorem new_good : goodWin [] [] [] oneM = true := rfl
theorem push_good {f s b : List Mp} {m x : Mp} (h : goodWin f s b m = true) (hx : goodM x = true) (hl : f.length + b.length < 60) : goodWin f s (b ++ [x]) (thenP m x) = true ∧ itemsW f (b ++ [x]) = itemsW f b ++ [x] := by
  obtain ⟨h2, h3, h4, h5, h6⟩ := goodWin_iff.1 h
  refine ⟨goodWin_iff.2 ⟨by rw [List.length_append, List.length_singleton]; omega, h3, fun y hy => ?_, h5, ?_⟩, by simp [itemsW]⟩
  · rcases List.mem_append.1 hy with hy | hy
    · exact h4 y hy
    · rw [List.mem_singleton.1 hy]; exact hx
  · rw [h6, allM, allM, List.foldl_append]; rfl
theorem pop_good {f s b : List Mp} {m : Mp} (h : goodWin f s b m = true) (hne : 0 < f.length + b.length) :
    goodWin ((popF f b).take ((popF f b).length - 1)) ((popS f s b).take ((popF f b).length - 1)) (if f = [] then [] else b) (if f = [] then oneM else m) = true ∧
    itemsW ((popF f b).take ((popF f b).length - 1)) (if f = [] then [] else b) = (itemsW f b).tail ∧ (popF f b).getD ((popF f b).length - 1) ((0 : Int), (0 : Int)) = (itemsW f b).getD 0 ((0 : Int), (0 : Int)) := by
  obtain ⟨h2, h3, h4, h5, h6⟩ := goodWin_iff.1 h
  have hF : popF f b ≠ [] := by
    unfold popF
    split
    · rename_i e
      rw [e] at hne
      intro e2
      have := List.reverse_eq_nil_iff.1 e2
      rw [this] at hne
      simp at hne
    · assumption
  have hS : popS f s b = sumsM oneM (popF f b) := by unfold popS popF; split <;> first | rfl | exact h5
  have hlen : (popF f b).length + (if f = [] then ([] : List Mp) else b).length ≤ 60 := by
    unfold popF
    split
    · rename_i e; rw [e] at h2; simp at h2 ⊢; exact h2
    · exact h2
  have hg : ∀ x, x ∈ popF f b → goodM x = true := by
    unfold popF
    split
    · exact fun x hx => h4 x (List.mem_reverse.1 hx)
    · exact h3
  have hi : itemsW f b = (popF f b).reverse ++ (if f = [] then [] else b) := by
    unfold popF itemsW
    split
    · rename_i e; rw [e]; simp
    · rfl
  obtain ⟨D, x, e⟩ : ∃ D x, popF f b = D ++ [x] := ⟨_, _, (List.dropLast_concat_getLast hF).symm⟩
  have hb : ∀ y, y ∈ (if f = [] then ([] : List Mp) else b) → goodM y = true := by
    split
    · intro y hy; cases hy
    · exact h4
  have hm : (if f = [] then oneM else m) = allM (if f = [] then [] else b) := by split <;> first | rfl | exact h6
  have et : (D ++ [x]).take ((D ++ [x]).length - 1) = D := by simp
  have es : (sumsM oneM (D ++ [x])).take ((D ++ [x]).length - 1) = sumsM oneM D := by rw [← sumsM_take, et]
  rw [hi, hS]
  rw [e] at hlen hg ⊢
  rw [et, es]
  refine ⟨goodWin_iff.2 ⟨?_, fun y hy => hg y (by simp [hy]), hb, rfl, hm⟩, by simp [itemsW], ?_⟩
  · rw [List.length_append, List.length_singleton] at hlen; omega
  · simp
theorem sum_items {f s b : List Mp} {m : Mp} (h : goodWin f s b m = true) : (if s.length = 0 then m else thenP (s.getD (s.length - 1) ((0 : Int), (0 : Int))) m) = allM (itemsW f b) := by
  obtain ⟨h2, h3, h4, h5, h6⟩ := goodWin_iff.1 h
  have hl : s.length = f.length := by rw [h5, sumsM_len]
  rw [hl]
  split
  · rename_i e
    rw [List.length_eq_zero_iff.1 e, h6]; rfl
  · rename_i e
    have hr : ∀ x, x ∈ f.reverse → goodM x = true := fun x hx => h3 x (List.mem_reverse.1 hx)
    rw [h5, sums_at (by omega) (fun k hk => h3 _ (getD_mem _ (by omega))), show f.length - 1 + 1 = f.length by omega, List.take_length, h6, itemsW, allM_append hr h4]
end GoV

/- Windows: what pushing, popping, summing, telling give. -/
namespace GoV
open Go
theorem goodWin_len {f s b : List Mp} {m : Mp} (h : goodWin f s b m = true) : f.length ≤ 60 ∧ s.length = f.length ∧ b.length ≤ 60 := by
  obtain ⟨h2, _, _, h5, _⟩ := goodWin_iff.1 h
  exact ⟨by omega, by rw [h5, sumsM_len], by omega⟩
theorem goodWin_m {f s b : List Mp} {m : Mp} (h : goodWin f s b m = true) : goodM m = true := by
  obtain ⟨_, _, h4, _, h6⟩ := goodWin_iff.1 h
  rw [h6]; exact allM_good b h4
theorem impl_push_eq {f s b : List Mp} {m x : Mp} (hb : b.length ≤ 1073741824) (hm : goodM m = true) (hx : goodM x = true) : xi08 f s b m.1 m.2 x.1 x.2 = some (f, s, b ++ [x], (thenP m x).1, (thenP m x).2) := by
  have h1 : b.length + [(x.1, x.2)].length ≤ 4294967296 := by simp only [List.length_cons, List.length_nil]; omega
  refine xi08.eq _ _ _ _ _ _ _ ?_
  simp only [xi08.t, dec_t h1, cond_true, impl_then_eq hm hx, Option.bind_some]
theorem impl_sum_eq {f s b : List Mp} {m : Mp} (h : goodWin f s b m = true) : impl_Window_sum f s b m.1 m.2 = some (allM (itemsW f b)) := by
  obtain ⟨l1, l2, l3⟩ := goodWin_len h
  have hs := sum_items h
  refine impl_Window_sum.eq _ _ _ _ _ ?_
  by_cases h0 : s.length = 0
  · rw [if_pos h0] at hs
    have h2 : ¬ (IntKind.i64.wrap ((s.length : Int) - 1) ≥ 0) := by rw [wrap_id (by omega) (by omega)]; omega
    simp only [impl_Window_sum.t, dec_f h2, cond_false, ← hs]
  · rw [if_neg h0] at hs
    have h2 : ((s.length - 1 : Nat) : Int) ≥ 0 := by omega
    have h3 : s.length - 1 < s.length := by omega
    obtain ⟨_, g3, _, g5, _⟩ := goodWin_iff.1 h
    have hg : goodM (s.getD (s.length - 1) ((0 : Int), (0 : Int))) = true := by
      have hi : f.length - 1 < f.length := by omega
      have := sums_at hi (fun k hk => g3 _ (getD_mem _ (by omega)))
      rw [l2, g5, this]
      exact allM_good _ fun x hx => g3 x (List.mem_of_mem_take (List.mem_reverse.1 hx))
    have e := impl_then_eq hg (goodWin_m h)
    simp only [impl_Window_sum.t, wrap_pred (show 0 < s.length by omega) (show s.length < 9223372036854775807 by omega), dec_t h2, ix_nn, ix_nat, dec_t h3, cond_true, e, Option.bind_some, ← hs]
theorem impl_WindowSum_eq {f s b : List Mp} {m : Mp} (h : goodWin f s b m = true) : impl_WindowSum f s b m.1 m.2 = some ((allM (itemsW f b)).1, (allM (itemsW f b)).2, true) := by
  obtain ⟨l1, l2, l3⟩ := goodWin_len h
  have e := impl_GoodWindow_eq (f := f) (s := s) (b := b) (m := m) (by omega) (by omega) (by omega)
  rw [h] at e
  exact impl_WindowSum.eq _ _ _ _ _ (by simp only [impl_WindowSum.t, e, impl_sum_eq h, Option.bind_some, bang_t, cond_false])
section
variable {f s b : List Mp} {m x : Mp} (hf : f.length ≤ 1048576) (hs : s.length ≤ 1048576) (hb : b.length ≤ 1048576)
include hf hs hb
theorem push_yes (h : goodWin f s b m = true) (hx : goodM x = true) (hl : f.length + b.length < 60) : impl_PushMap f s b m.1 m.2 x.1 x.2 = some (f, s, b ++ [x], (thenP m x).1, (thenP m x).2, true) := by
  have e1 := impl_GoodWindow_eq (f := f) (s := s) (b := b) (m := m) (by omega) (by omega) (by omega)
  rw [h] at e1
  have e2 := impl_GoodMap_eq x.1 x.2
  rw [show goodM (x.1, x.2) = true from hx] at e2
  have hw : IntKind.i64.wrap ((f.length : Int) + (b.length : Int)) = ((f.length + b.length : Nat) : Int) := by rw [wrap_id] <;> omega
  have h0 : (((f.length + b.length : Nat) : Int) == 60) = false := beq_eq_false_iff_ne.2 (by omega)
  have e3 := impl_own_eq (f := f) (s := s) (b := b) (m := m) (by omega) (by omega) (by omega)
  have e4 := impl_push_eq (f := f) (s := s) (b := b) (m := m) (x := x) (by omega) (goodWin_m h) hx
  have e5 := impl_own_eq (f := f) (s := s) (b := b ++ [x]) (m := thenP m x) (by omega) (by omega) (by rw [List.length_append, List.length_singleton]; omega)
  exact impl_PushMap.eq _ _ _ _ _ _ _ (by simp only [impl_PushMap.t, e1, e2, hw, h0, e3, e4, e5, Option.bind_some, bang_t, cond_false])
theorem push_no (h : (goodWin f s b m && (goodM x && decide (f.length + b.length < 60))) = false) : impl_PushMap f s b m.1 m.2 x.1 x.2 = some ([], [], [], 0, 0, false) := by
  have e1 := impl_GoodWindow_eq (f := f) (s := s) (b := b) (m := m) (by omega) (by omega) (by omega)
  have e2 := impl_GoodMap_eq x.1 x.2
  rw [show goodM (x.1, x.2) = goodM x from rfl] at e2
  have hw : IntKind.i64.wrap ((f.length : Int) + (b.length : Int)) = ((f.length + b.length : Nat) : Int) := by rw [wrap_id] <;> omega
  refine impl_PushMap.eq _ _ _ _ _ _ _ ?_
  cases hg : goodWin f s b m with
  | false => simp only [impl_PushMap.t, e1, hg, Option.bind_some, bang_f, cond_true]
  | true =>
    cases hx : goodM x with
    | false => simp only [impl_PushMap.t, e1, e2, hg, hx, Option.bind_some, bang_f, bang_t, cond_true, cond_false]
    | true =>
      have := (goodWin_iff.1 hg).1
      have h0 : (((f.length + b.length : Nat) : Int) == 60) = true := beq_iff_eq.2 (by
        have h9 : ¬ f.length + b.length < 60 := fun h9 => by rw [hg, hx, dec_t h9] at h; cases h
        omega)
      simp only [impl_PushMap.t, e1, e2, hg, hx, hw, h0, Option.bind_some, bang_t, cond_true, cond_false]
theorem impl_PopMap_eq (h : goodWin f s b m = true) (hne : 0 < f.length + b.length) :
    impl_PopMap f s b m.1 m.2 = some ((popF f b).take ((popF f b).length - 1), (popS f s b).take ((popF f b).length - 1), (if f = [] then [] else b), (if f = [] then oneM else m).1, (if f = [] then oneM else m).2, ((popF f b).getD ((popF f b).length - 1) ((0 : Int), (0 : Int))).1, ((popF f b).getD ((popF f b).length - 1) ((0 : Int), (0 : Int))).2, (if f = [] then (b.length : Int) else 0), true) := by
  have e2 := impl_GoodWindow_eq (f := f) (s := s) (b := b) (m := m) (by omega) (by omega) (by omega)
  rw [h] at e2
  obtain ⟨h60, _, hgb, hss, _⟩ := goodWin_iff.1 h
  have hs2 : s.length = f.length := by rw [hss, sumsM_len]
  have hw : IntKind.i64.wrap ((f.length : Int) + (b.length : Int)) = ((f.length + b.length : Nat) : Int) := by rw [wrap_id] <;> omega
  have h0 : (((f.length + b.length : Nat) : Int) == 0) = false := beq_eq_false_iff_ne.2 (by omega)
  have e3 := impl_own_eq (f := f) (s := s) (b := b) (m := m) (by omega) (by omega) (by omega)
  have e5 := impl_pop_eq (m := m) h60 hs2 hgb (by omega)
  obtain ⟨g1, _, _⟩ := pop_good h hne
  obtain ⟨k1, k2, k3⟩ := goodWin_len g1
  have e6 := impl_own_eq (f := (popF f b).take ((popF f b).length - 1)) (s := (popS f s b).take ((popF f b).length - 1)) (b := if f = [] then [] else b) (m := if f = [] then oneM else m) (by omega) (by omega) (by omega)
  exact impl_PopMap.eq _ _ _ _ _ (by simp only [impl_PopMap.t, e2, hw, h0, e3, e5, e6, Option.bind_some, bang_t, cond_false])
end
theorem maps_self (a : List Mp) (h : a.length ≤ 1073741824) : laws_sameMaps a a = some true := by
  have key : ∀ (m i : Nat), i + m = a.length → laws_sameMaps.l4 a a (a.length : Int) (i : Int) = some true := by
    intro m
    induction m with
    | zero =>
      intro i hi
      have e : i = a.length := by omega
      subst e
      exact laws_sameMaps.eq4 _ _ _ _ (by simp only [laws_sameMaps.t4, ix_lt, Nat.lt_irrefl, decide_false, cond_false])
    | succ m ih =>
      intro i hi
      have g : i < a.length := by omega
      refine laws_sameMaps.eq4 _ _ _ _ ?_
      simp only [laws_sameMaps.t4, ix_lt, ix_nn, ix_nat, dec_t g, cond_true, cond_false, decide_true, Bool.and_self, bang_t, wrap_succ (show i < 9223372036854775807 by omega)]
      exact ih (i + 1) (by omega)
  refine laws_sameMaps.eq _ _ ?_
  simp only [laws_sameMaps.t, bne_ref, cond_false]
  exact key a.length 0 (by omega)
theorem newWindow_eq : impl_NewWindow = some ([], [], [], oneM.1, oneM.2) := impl_NewWindow.eq (by simp only [impl_NewWindow.t, impl_same_eq, Option.bind_some])
end GoV

/- Drawing: a cursor always answers. -/
namespace GoV
open Go
def Byt (b : List Int) : Prop := ∀ x, x ∈ b → 0 ≤ x ∧ x ≤ 255
theorem u64_id {x : Int} (h1 : 0 ≤ x) (h2 : x ≤ 255) : IntKind.u64.wrap x = x := by
  simp [IntKind.wrap, IntKind.signed, IntKind.bits]
  omega
theorem low_byte (x : BitVec IntKind.u64.bits) : 0 ≤ IntKind.i64.wrap (IntKind.u64.wrap (((x &&& BitVec.ofInt IntKind.u64.bits (255 : Int)).toNat : Nat) : Int)) ∧ IntKind.i64.wrap (IntKind.u64.wrap (((x &&& BitVec.ofInt IntKind.u64.bits (255 : Int)).toNat : Nat) : Int)) ≤ 255 := by
  have h : (x &&& BitVec.ofInt IntKind.u64.bits (255 : Int)).toNat ≤ 255 := by
    rw [BitVec.toNat_and]
    exact Nat.and_le_right
  rw [u64_id (by omega) (by omega), wrap_id (by omega) (by omega)]
  omega
section
variable {b : List Int} (hb : Byt b)
include hb
theorem nextD_ok {a : Int} (s : Int) (h0 : 0 ≤ a) (h1 : a ≤ 1000000) : ∃ x s', xs0c b a s = some (x, b, a + 1, s') ∧ 0 ≤ x ∧ x ≤ 255 := by
  have hw : IntKind.i64.wrap (a + 1) = a + 1 := wrap_id (by omega) (by omega)
  by_cases g : a < (b.length : Int)
  · have g2 : a.toNat < b.length := by omega
    have g3 : a + 1 ≤ (b.length : Int) := by omega
    have hx := hb _ (getD_mem (0 : Int) g2)
    have hwx : IntKind.i64.wrap (b.getD a.toNat 0) = b.getD a.toNat 0 := wrap_id (by omega) (by omega)
    have k : ∃ s', xs0c.t some b a s = some (b.getD a.toNat 0, b, a + 1, s') := by
      simp only [xs0c.t, dec_t g, dec_t h0, dec_t g2, hw, hwx, dec_t g3, cond_true]
      exact ⟨_, rfl⟩
    obtain ⟨s', k⟩ := k
    exact ⟨_, s', xs0c.eq _ _ _ k, hx⟩
  · have g3 : ¬ a + 1 ≤ (b.length : Int) := by omega
    have k : ∃ x s', xs0c.t some b a s = some (x, b, a + 1, s') ∧ 0 ≤ x ∧ x ≤ 255 := by
      simp only [xs0c.t, dec_f g, hw, dec_f g3, cond_false]
      exact ⟨_, _, rfl, low_byte _⟩
    obtain ⟨x, s', k, hx⟩ := k
    exact ⟨x, s', xs0c.eq _ _ _ k, hx⟩
theorem pickD_ok {a : Int} (s k : Int) (h0 : 0 ≤ a) (h1 : a ≤ 1000000) (hk : 2 ≤ k) (hk2 : k ≤ 200) : ∃ x s', xs0d b a s k = some (x, b, a + 1, s') ∧ 0 ≤ x ∧ x < k := by
  obtain ⟨x, s', e, hx⟩ := nextD_ok hb s h0 h1
  have g1 : ¬ k ≤ 1 := by omega
  have g2 : ¬ k > 200 := by omega
  have g3 : k ≠ 0 := by omega
  refine ⟨x.tmod k, s', xs0d.eq _ _ _ _ ?_, Int.tmod_nonneg _ hx.1, Int.tmod_lt_of_pos _ (by omega)⟩
  simp only [xs0d.t, dec_f g1, e, Option.bind_some, dec_f g2, dec_t g3, cond_true, cond_false]
theorem oneD_ok {a : Int} (s k : Int) (h0 : 0 ≤ a) (h1 : a ≤ 1000000) (hk : 2 ≤ k) (hk2 : k ≤ 200) : ∃ x s', spec_l1Cur_one_e61 b a s k = some (x, b, a + 1, s') := by
  obtain ⟨x, s', e, hx⟩ := pickD_ok hb s k h0 h1 hk hk2
  exact ⟨x == 0, s', spec_l1Cur_one_e61.eq _ _ _ _ (by simp only [spec_l1Cur_one_e61.t, e, Option.bind_some])⟩
theorem amongD_ok {a : Int} (s : Int) (l : List Int) (h0 : 0 ≤ a) (h1 : a ≤ 1000000) (hk : 2 ≤ l.length) (hk2 : l.length ≤ 200) : ∃ x s', xs0a b a s l = some (x, b, a + 1, s') := by
  obtain ⟨x, s', e, hx⟩ := pickD_ok hb s (l.length : Int) h0 h1 (by omega) (by omega)
  have g : x.toNat < l.length := by omega
  exact ⟨l.getD x.toNat 0, s', xs0a.eq _ _ _ _ (by simp only [xs0a.t, e, Option.bind_some, dec_t hx.1, dec_t g, cond_true])⟩
end
end GoV

/- Drawing maps. -/
namespace GoV
open Go
section
variable {b : List Int} (hb : Byt b)
include hb
theorem pickB_ok {a : Int} (s k : Int) (h0 : 0 ≤ a) (h1 : a ≤ 900000) (hk : 200 < k) : ∃ x s', xs0d b a s k = some (x, b, a + 1 + 1, s') ∧ 0 ≤ x ∧ x < k := by
  obtain ⟨x, s1, e1, hx⟩ := nextD_ok hb s h0 (by omega)
  obtain ⟨y, s2, e2, hy⟩ := nextD_ok hb (a := a + 1) s1 (by omega) (by omega)
  have g1 : ¬ k ≤ 1 := by omega
  have g2 : k > 200 := by omega
  have g3 : k ≠ 0 := by omega
  have hw : IntKind.i64.wrap (IntKind.i64.wrap (x * 256) + y) = x * 256 + y := by rw [wrap_id (x := x * 256) (by omega) (by omega), wrap_id (by omega) (by omega)]
  refine ⟨(x * 256 + y).tmod k, s2, xs0d.eq _ _ _ _ ?_, Int.tmod_nonneg _ (by omega), Int.tmod_lt_of_pos _ (by omega)⟩
  simp only [xs0d.t, dec_f g1, e1, e2, Option.bind_some, dec_t g2, dec_t g3, hw, cond_true, cond_false]
theorem affine_ok {a : Int} (s : Int) (h0 : 0 ≤ a) (h1 : a ≤ 800000) : ∃ (m : Mp) (a' s' : Int), xs07 b a s = some (m.1, m.2, b, a', s') ∧ a ≤ a' ∧ a' ≤ a + 6 := by
  obtain ⟨x, s1, e1, hx⟩ := pickB_ok hb s 1009 h0 (by omega) (by omega)
  obtain ⟨y, s2, e2, hy⟩ := pickB_ok hb (a := a + 1 + 1) s1 1009 (by omega) (by omega) (by omega)
  obtain ⟨z, s3, e3, hz⟩ := pickD_ok hb (a := a + 1 + 1 + 1 + 1) s2 30 (by omega) (by omega) (by omega) (by omega)
  cases g0 : z == 0 with
  | true =>
    obtain ⟨u, s4, e4⟩ := amongD_ok hb (a := a + 1 + 1 + 1 + 1 + 1) s3 [(-1 : Int), (0 : Int), (1 : Int), (1008 : Int), (1009 : Int)] (by omega) (by omega) (by simp) (by simp)
    exact ⟨(u, y), (a + 1 + 1 + 1 + 1 + 1 + 1), s4, xs07.eq _ _ _ (by simp only [xs07.t, e1, e2, e3, e4, g0, Option.bind_some, cond_true]), by omega, by omega⟩
  | false =>
    cases g1 : z == 1 with
    | true => exact ⟨(1, 0), (a + 1 + 1 + 1 + 1 + 1), s3, xs07.eq _ _ _ (by simp only [xs07.t, e1, e2, e3, g0, g1, Option.bind_some, cond_true, cond_false]), by omega, by omega⟩
    | false => exact ⟨(x, y), (a + 1 + 1 + 1 + 1 + 1), s3, xs07.eq _ _ _ (by simp only [xs07.t, e1, e2, e3, g0, g1, Option.bind_some, cond_true, cond_false]), by omega, by omega⟩
end
end GoV

/- What slides over is told by pushing and popping, and composing hangs on no brackets: the law, for each draw. -/
namespace GoV
open Go
section
variable {b : List Int} (hb : Byt b)
include hb
theorem slide_loop : ∀ (n : Nat) (a s : Int) (l : List Mp), 0 ≤ a → a + 6 * (n : Int) ≤ 100000 → l.length + n ≤ 10000 →
    ∃ l' w, spec_DrawSlideOver.l6 l (n : Int) b a s = some (l', w) ∧ l'.length = l.length + n
  | 0, a, s, l, h0, h1, h2 => by
    have g : ¬ ((0 : Nat) : Int) > 0 := by omega
    obtain ⟨w, s1, e⟩ := amongD_ok hb s [(0 : Int), (1 : Int), (2 : Int), (3 : Int), (5 : Int), (60 : Int), (61 : Int)] h0 (by omega) (by simp) (by simp)
    exact ⟨l, w, spec_DrawSlideOver.eq6 _ _ _ _ _ (by simp only [spec_DrawSlideOver.t6, dec_f g, e, Option.bind_some, cond_false]), rfl⟩
  | n + 1, a, s, l, h0, h1, h2 => by
    obtain ⟨m, a1, s1, e, k1, k2⟩ := affine_ok hb s h0 (by omega)
    obtain ⟨l', w, k, k3⟩ := slide_loop n a1 s1 (l ++ [(m.1, m.2)]) (by omega) (by omega) (by simp only [List.length_append, List.length_singleton]; omega)
    have g : ((n + 1 : Nat) : Int) > 0 := by omega
    have g2 : l.length + [(m.1, m.2)].length ≤ 4294967296 := by simp only [List.length_cons, List.length_nil]; omega
    have g3 : IntKind.i64.wrap (((n + 1 : Nat) : Int) - 1) = (n : Int) := by rw [wrap_id] <;> omega
    refine ⟨l', w, spec_DrawSlideOver.eq6 _ _ _ _ _ ?_, by rw [k3, List.length_append, List.length_singleton]; omega⟩
    simp only [spec_DrawSlideOver.t6, dec_t g, e, Option.bind_some, dec_t g2, g3, cond_true]
    exact k
theorem drawSlide_ok : ∃ l w, spec_DrawSlideOver b = some (l, w) ∧ l.length ≤ 101 := by
  obtain ⟨n, s1, e1, hn⟩ := pickD_ok hb (a := 0) 0 14 (by omega) (by omega) (by omega) (by omega)
  obtain ⟨o, s2, e2⟩ := oneD_ok hb (a := 0 + 1) s1 20 (by omega) (by omega) (by omega) (by omega)
  cases o with
  | false =>
    obtain ⟨l, w, k, k2⟩ := slide_loop hb n.toNat (0 + 1 + 1) s2 [] (by omega) (by omega) (by simp only [List.length_nil]; omega)
    rw [Int.toNat_of_nonneg hn.1] at k
    refine ⟨l, w, spec_DrawSlideOver.eq _ ?_, by rw [k2, List.length_nil]; omega⟩
    simp only [spec_DrawSlideOver.t, e1, e2, Option.bind_some, cond_false]
    exact k
  | true =>
    obtain ⟨x, s3, e3, hx⟩ := pickD_ok hb (a := 0 + 1 + 1) s2 2 (by omega) (by omega) (by omega) (by omega)
    have hw : IntKind.i64.wrap (100 + x) = ((100 + x).toNat : Int) := by rw [wrap_id (by omega) (by omega)]; omega
    obtain ⟨l, w, k, k2⟩ := slide_loop hb (100 + x).toNat (0 + 1 + 1 + 1) s3 [] (by omega) (by omega) (by simp only [List.length_nil]; omega)
    refine ⟨l, w, spec_DrawSlideOver.eq _ ?_, by rw [k2, List.length_nil]; omega⟩
    simp only [spec_DrawSlideOver.t, e1, e2, e3, hw, Option.bind_some, cond_true]
    exact k
theorem drawCompose_ok : ∃ m n : Mp, xs09 b = some (m.1, m.2, n.1, n.2) := by
  obtain ⟨m, a1, s1, e1, k1, k2⟩ := affine_ok hb (a := 0) 0 (by omega) (by omega)
  obtain ⟨n, a2, s2, e2, _, _⟩ := affine_ok hb (a := a1) s1 (by omega) (by omega)
  exact ⟨m, n, xs09.eq _ (by simp only [xs09.t, e1, e2, Option.bind_some])⟩
theorem drawApply_ok : ∃ (m : Mp) (x : Int), spec_DrawApplyMap b = some (m.1, m.2, x) := by
  obtain ⟨m, a1, s1, e1, k1, k2⟩ := affine_ok hb (a := 0) 0 (by omega) (by omega)
  obtain ⟨x, s2, e2, _⟩ := pickB_ok hb (a := a1) s1 1011 (by omega) (by omega) (by omega)
  exact ⟨m, IntKind.i64.wrap (x - 1), spec_DrawApplyMap.eq _ (by simp only [spec_DrawApplyMap.t, e1, e2, Option.bind_some])⟩
end
/-! ## Sliding -/
def slF (l : List Mp) (w : Nat) : Nat → Nat → List Mp
  | _, 0 => []
  | i, n + 1 => allM (lastN l w (i + 1)) :: slF l w (i + 1) n
theorem slF_len (l : List Mp) (w : Nat) : ∀ n i, (slF l w i n).length = n
  | 0, _ => rfl
  | n + 1, i => by rw [slF, List.length_cons, slF_len l w n]
theorem slF_get (l : List Mp) (w : Nat) : ∀ (n i k : Nat), k < n → (slF l w i n).getD k ((0 : Int), (0 : Int)) = allM (lastN l w (i + k + 1))
  | 0, _, k, h => by omega
  | n + 1, i, 0, _ => rfl
  | n + 1, i, k + 1, h => by
    rw [slF, List.getD_cons_succ, slF_get l w n (i + 1) k (by omega)]
    congr 2
    omega
theorem lastN_take {l : List Mp} {w i : Nat} (hi : i < l.length) : (List.take (((i + 1 : Nat) : Int) - ((i + 1 - w : Nat) : Int)).toNat (List.drop (i + 1 - w) l)) = lastN l w (i + 1) := by
  rw [lastN, List.take_drop]
  congr 2
  omega
section
variable {l : List Mp} {w : Nat} (hl : l.length ≤ 100) (h1 : 1 ≤ w) (h60 : w ≤ 60)
include hl h1 h60
theorem spec_slide_good (hg : ∀ x, x ∈ l → goodM x = true) : ∀ (n i : Nat) (acc : List Mp), i + n = l.length → acc.length ≤ i → spec_SlideOver.l5 l (w : Int) acc l (l.length : Int) (i : Int) = some (acc ++ slF l w i n, true)
  | 0, i, acc, hi, ha => by
    have e : i = l.length := by omega
    subst e
    exact spec_SlideOver.eq5 _ _ _ _ _ _ (by simp only [spec_SlideOver.t5, ix_lt, Nat.lt_irrefl, decide_false, cond_false, slF, List.append_nil])
  | n + 1, i, acc, hi, ha => by
    have g : i < l.length := by omega
    have hm := hg _ (getD_mem ((0 : Int), (0 : Int)) g)
    have hall : spec_l17All (lastN l w (i + 1)) = some (allM (lastN l w (i + 1))) := spec_l17All_eq (by rw [lastN_len (by omega)]; omega) fun x hx => hg x (lastN_mem hx)
    have ih := spec_slide_good hg n (i + 1) (acc ++ [allM (lastN l w (i + 1))]) (by omega) (by rw [List.length_append, List.length_singleton]; omega)
    have g2 : acc.length + [((allM (lastN l w (i + 1))).1, (allM (lastN l w (i + 1))).2)].length ≤ 4294967296 := by simp only [List.length_cons, List.length_nil]; omega
    have g3 : ((i + 1 : Nat) : Int) ≤ (l.length : Int) := by omega
    rw [List.append_assoc] at ih
    refine spec_SlideOver.eq5 _ _ _ _ _ _ ?_
    by_cases c : i + 1 < w
    · have c2 : IntKind.i64.wrap (((i + 1 : Nat) : Int) - (w : Int)) < 0 := by rw [wrap_id (by omega) (by omega)]; omega
      have c3 : (0 : Int) ≤ ((i + 1 : Nat) : Int) := by omega
      have e := lastN_take (l := l) (w := w) g
      rw [show i + 1 - w = 0 by omega] at e
      simp only [Int.natCast_zero] at e
      simp only [spec_SlideOver.t5, ix_lt, ix_nn, ix_nat, dec_t g, cond_true, spec_GoodMap_eq, show goodM ((l.getD i ((0 : Int), (0 : Int))).1, (l.getD i ((0 : Int), (0 : Int))).2) = true from hm, Option.bind_some, bang_t, cond_false, wrap_succ (show i < 9223372036854775807 by omega), dec_t c2, Option.getD_some, dec_t c3, dec_t g3, Int.toNat_zero, e, hall, dec_t g2]
      exact ih
    · have c4 : IntKind.i64.wrap (((i + 1 : Nat) : Int) - (w : Int)) = ((i + 1 - w : Nat) : Int) := by rw [wrap_id (by omega) (by omega)]; omega
      have c2 : ¬ ((i + 1 - w : Nat) : Int) < 0 := by omega
      have c3 : (0 : Int) ≤ ((i + 1 - w : Nat) : Int) := by omega
      have c5 : ((i + 1 - w : Nat) : Int) ≤ ((i + 1 : Nat) : Int) := by omega
      simp only [spec_SlideOver.t5, ix_lt, ix_nn, ix_nat, dec_t g, cond_true, spec_GoodMap_eq, show goodM ((l.getD i ((0 : Int), (0 : Int))).1, (l.getD i ((0 : Int), (0 : Int))).2) = true from hm, Option.bind_some, bang_t, cond_false, wrap_succ (show i < 9223372036854775807 by omega), c4, dec_f c2, Option.getD_some, dec_t c3, dec_t c5, dec_t g3, Int.toNat_natCast, lastN_take g, hall, dec_t g2]
      exact ih
theorem spec_slide_bad : ∀ (n i : Nat) (acc : List Mp), i + n = l.length → acc.length ≤ i → (∀ x, x ∈ l.take i → goodM x = true) → (l.drop i).all goodM = false → spec_SlideOver.l5 l (w : Int) acc l (l.length : Int) (i : Int) = some ([], false)
  | 0, i, acc, hi, ha, _, hb => by
    have e : i = l.length := by omega
    subst e
    rw [List.drop_length] at hb
    cases hb
  | n + 1, i, acc, hi, ha, hg, hb => by
    have g : i < l.length := by omega
    rw [drop_getD ((0 : Int), (0 : Int)) g, List.all_cons] at hb
    refine spec_SlideOver.eq5 _ _ _ _ _ _ ?_
    cases hm : goodM (l.getD i ((0 : Int), (0 : Int))) with
    | false => simp only [spec_SlideOver.t5, ix_lt, ix_nn, ix_nat, dec_t g, cond_true, spec_GoodMap_eq, show goodM ((l.getD i ((0 : Int), (0 : Int))).1, (l.getD i ((0 : Int), (0 : Int))).2) = false from hm, Option.bind_some, bang_f]
    | true =>
      rw [hm, Bool.true_and] at hb
      have hg2 : ∀ x, x ∈ l.take (i + 1) → goodM x = true := fun x hx => by
        rw [List.take_succ_eq_append_getElem g] at hx
        rcases List.mem_append.1 hx with hx | hx
        · exact hg x hx
        · rw [List.mem_singleton.1 hx, ← getD_of_lt (z := ((0 : Int), (0 : Int))) g]; exact hm
      have hall : spec_l17All (lastN l w (i + 1)) = some (allM (lastN l w (i + 1))) := spec_l17All_eq (by rw [lastN_len (by omega)]; omega) fun x hx => hg2 x (List.mem_of_mem_drop hx)
      have ih := spec_slide_bad n (i + 1) (acc ++ [allM (lastN l w (i + 1))]) (by omega) (by rw [List.length_append, List.length_singleton]; omega) hg2 hb
      have g2 : acc.length + [((allM (lastN l w (i + 1))).1, (allM (lastN l w (i + 1))).2)].length ≤ 4294967296 := by simp only [List.length_cons, List.length_nil]; omega
      have g3 : ((i + 1 : Nat) : Int) ≤ (l.length : Int) := by omega
      by_cases c : i + 1 < w
      · have c2 : IntKind.i64.wrap (((i + 1 : Nat) : Int) - (w : Int)) < 0 := by rw [wrap_id (by omega) (by omega)]; omega
        have c3 : (0 : Int) ≤ ((i + 1 : Nat) : Int) := by omega
        have e := lastN_take (l := l) (w := w) g
        rw [show i + 1 - w = 0 by omega] at e
        simp only [Int.natCast_zero] at e
        simp only [spec_SlideOver.t5, ix_lt, ix_nn, ix_nat, dec_t g, cond_true, spec_GoodMap_eq, show goodM ((l.getD i ((0 : Int), (0 : Int))).1, (l.getD i ((0 : Int), (0 : Int))).2) = true from hm, Option.bind_some, bang_t, cond_false, wrap_succ (show i < 9223372036854775807 by omega), dec_t c2, Option.getD_some, dec_t c3, dec_t g3, Int.toNat_zero, e, hall, dec_t g2]
        exact ih
      · have c4 : IntKind.i64.wrap (((i + 1 : Nat) : Int) - (w : Int)) = ((i + 1 - w : Nat) : Int) := by rw [wrap_id (by omega) (by omega)]; omega
        have c2 : ¬ ((i + 1 - w : Nat) : Int) < 0 := by omega
        have c3 : (0 : Int) ≤ ((i + 1 - w : Nat) : Int) := by omega
        have c5 : ((i + 1 - w : Nat) : Int) ≤ ((i + 1 : Nat) : Int) := by omega
        simp only [spec_SlideOver.t5, ix_lt, ix_nn, ix_nat, dec_t g, cond_true, spec_GoodMap_eq, show goodM ((l.getD i ((0 : Int), (0 : Int))).1, (l.getD i ((0 : Int), (0 : Int))).2) = true from hm, Option.bind_some, bang_t, cond_false, wrap_succ (show i < 9223372036854775807 by omega), c4, dec_f c2, Option.getD_some, dec_t c3, dec_t c5, dec_t g3, Int.toNat_natCast, lastN_take g, hall, dec_t g2]
        exact ih
/-- A window slides on by a map. -/
theorem slide_step (hg : ∀ x, x ∈ l → goodM x = true) {i : Nat} (g : i < l.length) {f s b : List Mp} {m : Mp} (h : goodWin f s b m = true) (hi : itemsW f b = lastN l w i) :
    f.length + b.length = min i w ∧ (i < w → goodWin f s (b ++ [l.getD i ((0 : Int), (0 : Int))]) (thenP m (l.getD i ((0 : Int), (0 : Int)))) = true ∧ itemsW f (b ++ [l.getD i ((0 : Int), (0 : Int))]) = lastN l w (i + 1)) ∧
    (w ≤ i → goodWin ((popF f b).take ((popF f b).length - 1)) ((popS f s b).take ((popF f b).length - 1)) (if f = [] then [] else b) (if f = [] then oneM else m) = true ∧
      ((popF f b).take ((popF f b).length - 1)).length + (if f = [] then ([] : List Mp) else b).length < 60 ∧
      goodWin ((popF f b).take ((popF f b).length - 1)) ((popS f s b).take ((popF f b).length - 1)) ((if f = [] then [] else b) ++ [l.getD i ((0 : Int), (0 : Int))]) (thenP (if f = [] then oneM else m) (l.getD i ((0 : Int), (0 : Int)))) = true ∧
      itemsW ((popF f b).take ((popF f b).length - 1)) ((if f = [] then [] else b) ++ [l.getD i ((0 : Int), (0 : Int))]) = lastN l w (i + 1)) := by
  have hm := hg _ (getD_mem ((0 : Int), (0 : Int)) g)
  have hlen : f.length + b.length = min i w := by rw [← itemsW_len, hi, lastN_len (by omega)]
  refine ⟨hlen, fun c => ?_, fun c => ?_⟩
  · obtain ⟨k1, k2⟩ := push_good h hm (by omega)
    exact ⟨k1, by rw [k2, hi, lastN_less g c, getD_of_lt g]⟩
  · obtain ⟨p1, p2, _⟩ := pop_good h (by omega)
    have hl2 : ((popF f b).take ((popF f b).length - 1)).length + (if f = [] then ([] : List Mp) else b).length = w - 1 := by
      rw [← itemsW_len, p2, List.length_tail, hi, lastN_len (by omega)]
      omega
    obtain ⟨k1, k2⟩ := push_good p1 hm (by omega)
    exact ⟨p1, by omega, k1, by rw [k2, p2, hi, lastN_full g c h1, getD_of_lt g]⟩
theorem impl_slide (hg : ∀ x, x ∈ l → goodM x = true) : ∀ (n i : Nat) (acc : List Mp) (f s b : List Mp) (m : Mp), i + n = l.length → acc.length ≤ i → goodWin f s b m = true → itemsW f b = lastN l w i →
    impl_SlideOver.l6 (w : Int) f s b m.1 m.2 acc l (l.length : Int) (i : Int) = some (acc ++ slF l w i n, true)
  | 0, i, acc, f, s, b, m, hi, ha, h, hit => by
    have e : i = l.length := by omega
    subst e
    exact impl_SlideOver.eq6 _ _ _ _ _ _ _ _ _ _ (by simp only [impl_SlideOver.t6, ix_lt, Nat.lt_irrefl, decide_false, cond_false, slF, List.append_nil])
  | n + 1, i, acc, f, s, b, m, hi, ha, h, hit => by
    have g : i < l.length := by omega
    have hm := hg _ (getD_mem ((0 : Int), (0 : Int)) g)
    obtain ⟨hlen, c1, c2⟩ := slide_step hl h1 h60 hg g h hit
    have hw : IntKind.i64.wrap ((f.length : Int) + (b.length : Int)) = ((f.length + b.length : Nat) : Int) := by rw [wrap_id] <;> omega
    have g2 : acc.length + [((allM (lastN l w (i + 1))).1, (allM (lastN l w (i + 1))).2)].length ≤ 4294967296 := by simp only [List.length_cons, List.length_nil]; omega
    have ih := fun f s b m => impl_slide hg n (i + 1) (acc ++ [allM (lastN l w (i + 1))]) f s b m (by omega) (by rw [List.length_append, List.length_singleton]; omega)
    simp only [List.append_assoc] at ih
    refine impl_SlideOver.eq6 _ _ _ _ _ _ _ _ _ _ ?_
    by_cases c : i < w
    · obtain ⟨k1, k2⟩ := c1 c
      have e1 := impl_push_eq (f := f) (s := s) (b := b) (m := m) (x := l.getD i ((0 : Int), (0 : Int))) (by omega) (goodWin_m h) hm
      have e2 := impl_sum_eq k1
      rw [k2] at e2
      have h0 : (((f.length + b.length : Nat) : Int) == (w : Int)) = false := beq_eq_false_iff_ne.2 (by omega)
      simp only [impl_SlideOver.t6, ix_lt, ix_nn, ix_nat, dec_t g, cond_true, hw, h0, cond_false, e1, e2, Option.bind_some, dec_t g2, wrap_succ (show i < 9223372036854775807 by omega)]
      exact ih _ _ _ _ k1 k2
    · obtain ⟨p1, p2, k1, k2⟩ := c2 (by omega)
      obtain ⟨q60, _, qb, qs, _⟩ := goodWin_iff.1 h
      have e0 := impl_pop_eq (f := f) (s := s) (b := b) (m := m) q60 (by rw [qs, sumsM_len]) qb (by omega)
      have e1 := impl_push_eq (f := (popF f b).take ((popF f b).length - 1)) (s := (popS f s b).take ((popF f b).length - 1)) (b := if f = [] then [] else b) (m := if f = [] then oneM else m) (x := l.getD i ((0 : Int), (0 : Int))) (by omega) (goodWin_m p1) hm
      have e2 := impl_sum_eq k1
      rw [k2] at e2
      have h0 : (((f.length + b.length : Nat) : Int) == (w : Int)) = true := beq_iff_eq.2 (by omega)
      simp only [impl_SlideOver.t6, ix_lt, ix_nn, ix_nat, dec_t g, cond_true, hw, h0, e0, e1, e2, Option.bind_some, dec_t g2, wrap_succ (show i < 9223372036854775807 by omega)]
      exact ih _ _ _ _ k1 k2
end
theorem slide_eq (l : List Mp) (v : Int) (hl : l.length ≤ 1000) : (∃ w : Nat, v = (w : Int) ∧ 1 ≤ w ∧ w ≤ 60 ∧ l.length ≤ 100 ∧ (∀ x, x ∈ l → goodM x = true) ∧ impl_SlideOver l v = some (slF l w 0 l.length, true) ∧ spec_SlideOver l v = some (slF l w 0 l.length, true)) ∨ (impl_SlideOver l v = some ([], false) ∧ spec_SlideOver l v = some ([], false)) := by
  have ea := xi04_ok l goodM (by omega) (fun x _ => impl_GoodMap_eq x.1 x.2)
  by_cases h100 : (l.length : Int) > 100
  · exact .inr ⟨impl_SlideOver.eq _ _ (by simp only [impl_SlideOver.t, dec_t h100, cond_true]), spec_SlideOver.eq _ _ (by simp only [spec_SlideOver.t, dec_t h100, cond_true])⟩
  · cases hv : inB 1 60 v with
    | false =>
      refine .inr ⟨impl_SlideOver.eq _ _ ?_, spec_SlideOver.eq _ _ (by simp only [spec_SlideOver.t, dec_f h100, spec_l1In_eq, hv, Option.bind_some, bang_f, cond_true, cond_false])⟩
      simp only [impl_SlideOver.t, dec_f h100, ea, impl_within_eq, hv, Option.bind_some, bang_f, cond_true, cond_false]
      cases l.all goodM <;> rfl
    | true =>
      obtain ⟨v1, v2⟩ := inB_iff.1 hv
      obtain ⟨w, rfl⟩ : ∃ w : Nat, v = (w : Int) := ⟨v.toNat, by omega⟩
      cases hg : l.all goodM with
      | false =>
        have k := spec_slide_bad (l := l) (w := w) (by omega) (by omega) (by omega) l.length 0 [] (by omega) (Nat.le_refl _) (fun x hx => by simp at hx) (by rw [List.drop_zero]; exact hg)
        exact .inr ⟨impl_SlideOver.eq _ _ (by simp only [impl_SlideOver.t, dec_f h100, ea, hg, Option.bind_some, bang_f, cond_true, cond_false]), spec_SlideOver.eq _ _ (by simp only [spec_SlideOver.t, dec_f h100, spec_l1In_eq, hv, Option.bind_some, bang_t, cond_false]; exact k)⟩
      | true =>
        have hg2 : ∀ x, x ∈ l → goodM x = true := fun x hx => List.all_eq_true.1 hg x hx
        have k := spec_slide_good (l := l) (w := w) (by omega) (by omega) (by omega) hg2 l.length 0 [] (by omega) (Nat.le_refl _)
        have j := impl_slide (l := l) (w := w) (by omega) (by omega) (by omega) hg2 l.length 0 [] [] [] [] oneM (by omega) (Nat.le_refl _) new_good (by simp [itemsW, lastN])
        exact .inl ⟨w, rfl, by omega, by omega, by omega, hg2, impl_SlideOver.eq _ _ (by simp only [impl_SlideOver.t, dec_f h100, ea, hg, impl_within_eq, hv, newWindow_eq, Option.bind_some, bang_t, cond_false]; exact j), spec_SlideOver.eq _ _ (by simp only [spec_SlideOver.t, dec_f h100, spec_l1In_eq, hv, Option.bind_some, bang_t, cond_false]; exact k)⟩
/-! ## Composing -/
theorem compose_eq (m n : Mp) : (goodM m = true ∧ goodM n = true ∧ impl_ComposeMaps m.1 m.2 n.1 n.2 = some ((thenP m n).1, (thenP m n).2, true) ∧ spec_ComposeMaps m.1 m.2 n.1 n.2 = some ((thenP m n).1, (thenP m n).2, true)) ∨ (impl_ComposeMaps m.1 m.2 n.1 n.2 = some (0, 0, false) ∧ spec_ComposeMaps m.1 m.2 n.1 n.2 = some (0, 0, false)) := by
  have i1 : impl_GoodMap m.1 m.2 = some (goodM m) := impl_GoodMap_eq _ _
  have i2 : impl_GoodMap n.1 n.2 = some (goodM n) := impl_GoodMap_eq _ _
  have s1 : spec_GoodMap m.1 m.2 = some (goodM m) := spec_GoodMap_eq _ _
  have s2 : spec_GoodMap n.1 n.2 = some (goodM n) := spec_GoodMap_eq _ _
  cases h1 : goodM m with
  | false => exact .inr ⟨impl_ComposeMaps.eq _ _ _ _ (by simp only [impl_ComposeMaps.t, i1, h1, Option.bind_some, bang_f, cond_true]), spec_ComposeMaps.eq _ _ _ _ (by simp only [spec_ComposeMaps.t, s1, h1, Option.bind_some, bang_f, cond_true])⟩
  | true =>
    cases h2 : goodM n with
    | false => exact .inr ⟨impl_ComposeMaps.eq _ _ _ _ (by simp only [impl_ComposeMaps.t, i1, i2, h1, h2, Option.bind_some, bang_f, bang_t, cond_true, cond_false]), spec_ComposeMaps.eq _ _ _ _ (by simp only [spec_ComposeMaps.t, s1, s2, h1, h2, Option.bind_some, bang_f, bang_t, cond_true, cond_false])⟩
    | true => exact .inl ⟨rfl, rfl, impl_ComposeMaps.eq _ _ _ _ (by simp only [impl_ComposeMaps.t, i1, i2, h1, h2, impl_then_eq h1 h2, Option.bind_some, bang_t, cond_false]), spec_ComposeMaps.eq _ _ _ _ (by simp only [spec_ComposeMaps.t, s1, s2, h1, h2, spec_l17Then_eq h1 h2, Option.bind_some, bang_t, cond_false])⟩
theorem apply_eq (m : Mp) (x : Int) : ∃ y ok, impl_ApplyMap m.1 m.2 x = some (y, ok) ∧ spec_ApplyMap m.1 m.2 x = some (y, ok) := by
  have i1 : impl_GoodMap m.1 m.2 = some (goodM m) := impl_GoodMap_eq _ _
  have s1 : spec_GoodMap m.1 m.2 = some (goodM m) := spec_GoodMap_eq _ _
  have i2 : impl_isRest x = some (inB 0 1008 x) := impl_isRest.eq x (by simp only [impl_isRest.t, impl_within_eq, Option.bind_some])
  cases h1 : goodM m with
  | false => exact ⟨0, false, impl_ApplyMap.eq _ _ _ (by simp only [impl_ApplyMap.t, i1, h1, Option.bind_some, bang_f, cond_true]), spec_ApplyMap.eq _ _ _ (by simp only [spec_ApplyMap.t, s1, h1, Option.bind_some, bang_f, cond_true])⟩
  | true =>
    cases h2 : inB 0 1008 x with
    | false => exact ⟨0, false, impl_ApplyMap.eq _ _ _ (by simp only [impl_ApplyMap.t, i1, i2, h1, h2, Option.bind_some, bang_f, bang_t, cond_true, cond_false]), spec_ApplyMap.eq _ _ _ (by simp only [spec_ApplyMap.t, s1, spec_l1In_eq, h1, h2, Option.bind_some, bang_f, bang_t, cond_true, cond_false])⟩
    | true => exact ⟨(IntKind.i64.wrap (IntKind.i64.wrap (m.1 * x) + m.2)).tmod 1009, true, impl_ApplyMap.eq _ _ _ (by simp only [impl_ApplyMap.t, i1, i2, h1, h2, Option.bind_some, bang_t, cond_false]), spec_ApplyMap.eq _ _ _ (by simp only [spec_ApplyMap.t, s1, spec_l1In_eq, h1, h2, Option.bind_some, bang_t, cond_false])⟩
theorem slid_tail {v : List Int} (hb : Byt v) : laws_FnSlid.l2000024 v = some true := by
  obtain ⟨a, c, e1⟩ := drawCompose_ok hb
  obtain ⟨e, x, e2⟩ := drawApply_ok hb
  obtain ⟨y, ok, a1, a2⟩ := apply_eq e x
  have i1 : impl_GoodMap a.1 a.2 = some (goodM a) := impl_GoodMap_eq _ _
  have s1 : spec_GoodMap a.1 a.2 = some (goodM a) := spec_GoodMap_eq _ _
  have i2 : impl_GoodMap e.1 e.2 = some (goodM e) := impl_GoodMap_eq _ _
  refine laws_FnSlid.eq2000024 _ ?_
  rcases compose_eq a c with ⟨g1, g2, c1, c2⟩ | ⟨c1, c2⟩
  · have fin : laws_FnSlid.l2000032 a.1 a.2 c.1 c.2 (thenP a c).1 (thenP a c).2 true e.1 e.2 = some true := by
      refine laws_FnSlid.eq2000032 _ _ _ _ _ _ _ _ _ ?_
      cases g3 : goodM e with
      | false => simp only [laws_FnSlid.t2000032, i2, g3, Option.bind_some, cond_true, cond_false]
      | true =>
        have fin2 : laws_FnSlid.l2000033 a.1 a.2 c.1 c.2 (thenP a c).1 (thenP a c).2 e.1 e.2 = some true := by
          refine laws_FnSlid.eq2000033 _ _ _ _ _ _ _ _ ?_
          rcases compose_eq (thenP a c) e with ⟨_, _, d1, _⟩ | ⟨d1, d2⟩
          · rcases compose_eq c e with ⟨_, _, d2, _⟩ | ⟨d2, d3⟩
            · rcases compose_eq a (thenP c e) with ⟨_, _, d3, _⟩ | ⟨d3, d4⟩
              · rw [thenP_assoc] at d1
                simp only [laws_FnSlid.t2000033, d1, d2, d3, Option.bind_some, bang_t, cond_false, decide_true, Bool.and_self]
              · exfalso
                have j1 : impl_GoodMap (thenP c e).1 (thenP c e).2 = some true := (impl_GoodMap_eq _ _).trans (congrArg some (thenP_good c e))
                have := impl_ComposeMaps.eq a.1 a.2 (thenP c e).1 (thenP c e).2 (b := ((thenP a (thenP c e)).1, (thenP a (thenP c e)).2, true)) (by simp only [impl_ComposeMaps.t, i1, g1, j1, impl_then_eq g1 (thenP_good c e), Option.bind_some, bang_t, cond_false])
                rw [this] at d3
                simp at d3
            · exfalso
              have j1 : impl_GoodMap c.1 c.2 = some true := (impl_GoodMap_eq _ _).trans (congrArg some g2)
              have := impl_ComposeMaps.eq c.1 c.2 e.1 e.2 (b := ((thenP c e).1, (thenP c e).2, true)) (by simp only [impl_ComposeMaps.t, j1, i2, g3, impl_then_eq g2 g3, Option.bind_some, bang_t, cond_false])
              rw [this] at d2
              simp at d2
          · exfalso
            have j1 : impl_GoodMap (thenP a c).1 (thenP a c).2 = some true := (impl_GoodMap_eq _ _).trans (congrArg some (thenP_good a c))
            have := impl_ComposeMaps.eq (thenP a c).1 (thenP a c).2 e.1 e.2 (b := ((thenP (thenP a c) e).1, (thenP (thenP a c) e).2, true)) (by simp only [impl_ComposeMaps.t, j1, i2, g3, impl_then_eq (thenP_good a c) g3, Option.bind_some, bang_t, cond_false])
            rw [this] at d1
            simp at d1
        simp only [laws_FnSlid.t2000032, i2, g3, Option.bind_some, cond_true]
        exact fin2
    simp only [laws_FnSlid.t2000024, e1, e2, c1, c2, a1, a2, i1, s1, Option.bind_some, bne_ref, beq_ref, bang_t, cond_false, decide_true, Bool.and_self]
    exact fin
  · have fin : laws_FnSlid.l2000032 a.1 a.2 c.1 c.2 0 0 false e.1 e.2 = some true := laws_FnSlid.eq2000032 _ _ _ _ _ _ _ _ _ (by simp only [laws_FnSlid.t2000032, cond_false])
    simp only [laws_FnSlid.t2000024, e1, e2, c1, c2, a1, a2, i1, s1, Option.bind_some, bne_ref, beq_ref, bang_t, cond_false, decide_true, Bool.and_self]
    exact fin
theorem slid_loop {v : List Int} (hb : Byt v) {l : List Mp} {w : Nat} (hl : l.length ≤ 100) (h1 : 1 ≤ w) (h60 : w ≤ 60) (hg : ∀ x, x ∈ l → goodM x = true) : ∀ (n i : Nat) (f s b : List Mp) (m : Mp), i + n = l.length → goodWin f s b m = true → itemsW f b = lastN l w i →
    laws_FnSlid.l11 v l (w : Int) (slF l w 0 l.length) f s b m.1 m.2 (l.length : Int) (i : Int) = some true
  | 0, i, f, s, b, m, hi, h, hit => by
    have e : i = l.length := by omega
    subst e
    exact laws_FnSlid.eq11 _ _ _ _ _ _ _ _ _ _ _ (by simp only [laws_FnSlid.t11, ix_lt, Nat.lt_irrefl, decide_false, cond_false]; exact slid_tail hb)
  | n + 1, i, f, s, b, m, hi, h, hit => by
    have g : i < l.length := by omega
    have hm := hg _ (getD_mem ((0 : Int), (0 : Int)) g)
    obtain ⟨hlen, c1, c2⟩ := slide_step hl h1 h60 hg g h hit
    obtain ⟨l1, l2, l3⟩ := goodWin_len h
    have join : ∀ (f s b : List Mp) (m : Mp), goodWin f s b m = true → f.length + b.length < 60 → goodWin f s (b ++ [l.getD i ((0 : Int), (0 : Int))]) (thenP m (l.getD i ((0 : Int), (0 : Int)))) = true → itemsW f (b ++ [l.getD i ((0 : Int), (0 : Int))]) = lastN l w (i + 1) →
        laws_FnSlid.l2000018 v l (w : Int) (slF l w 0 l.length) f s b m.1 m.2 (i : Int) (l.getD i ((0 : Int), (0 : Int))).1 (l.getD i ((0 : Int), (0 : Int))).2 (l.length : Int) (i : Int) = some true := by
      intro f s b m k0 kl k1 k2
      obtain ⟨l1, l2, l3⟩ := goodWin_len k0
      have e1 := push_yes (f := f) (s := s) (b := b) (m := m) (x := l.getD i ((0 : Int), (0 : Int))) (by omega) (by omega) (by omega) k0 hm kl
      have e2 := impl_WindowSum_eq k1
      rw [k2] at e2
      have g2 : i < (slF l w 0 l.length).length := by rw [slF_len]; exact g
      have e3 := slF_get l w l.length 0 i g
      rw [Nat.zero_add] at e3
      have ih := slid_loop hb hl h1 h60 hg n (i + 1) f s (b ++ [l.getD i ((0 : Int), (0 : Int))]) (thenP m (l.getD i ((0 : Int), (0 : Int)))) (by omega) k1 k2
      have nx : laws_FnSlid.l2000022 v l (w : Int) (slF l w 0 l.length) f s b m.1 m.2 f s (b ++ [l.getD i ((0 : Int), (0 : Int))]) (thenP m (l.getD i ((0 : Int), (0 : Int)))).1 (thenP m (l.getD i ((0 : Int), (0 : Int)))).2 (l.length : Int) (i : Int) = some true :=
        laws_FnSlid.eq2000022 _ _ _ _ _ _ _ _ _ _ _ _ _ _ _ _ (by simp only [laws_FnSlid.t2000022, wrap_succ (show i < 9223372036854775807 by omega)]; exact ih)
      refine laws_FnSlid.eq2000018 _ _ _ _ _ _ _ _ _ _ _ _ _ _ ?_
      simp only [laws_FnSlid.t2000018, e1, e2, ix_nn, ix_nat, dec_t g2, e3, Option.bind_some, bang_t, cond_true, cond_false, decide_true, Bool.and_self]
      exact nx
    refine laws_FnSlid.eq11 _ _ _ _ _ _ _ _ _ _ _ ?_
    by_cases c : i < w
    · obtain ⟨k1, k2⟩ := c1 c
      have h0 : ¬ ((i : Int) ≥ (w : Int)) := by omega
      simp only [laws_FnSlid.t11, ix_lt, ix_nn, ix_nat, dec_t g, cond_true, dec_f h0, cond_false]
      exact join f s b m h (by omega) k1 k2
    · obtain ⟨p1, p2, k1, k2⟩ := c2 (by omega)
      have h0 : (i : Int) ≥ (w : Int) := by omega
      have e0 := impl_PopMap_eq (f := f) (s := s) (b := b) (m := m) (by omega) (by omega) (by omega) h (by omega)
      simp only [laws_FnSlid.t11, ix_lt, ix_nn, ix_nat, dec_t g, cond_true, dec_t h0, e0, Option.bind_some, bang_t, cond_false]
      exact join _ _ _ _ p1 p2 k1 k2
theorem FnSlid_true (v0 : List Int) (v1 : List Int) (w0 : WfT (.sl (.int .u8)) v0) (w1 : WfT (.sl (.int .u8)) v1) : laws_FnSlid v0 v1 = some true := by
  refine laws_FnSlid.eq _ _ ?_
  by_cases hc : IntKind.i64.wrap ((v0.length : Int) + (v1.length : Int)) > 1048576
  · simp only [laws_FnSlid.t, dec_t hc, cond_true]
  · have hb1 : Byt v1 := fun x hx => w1.2 x hx
    obtain ⟨l, v, ed, hl⟩ := drawSlide_ok (b := v0) (fun x hx => w0.2 x hx)
    rcases slide_eq l v (by omega) with ⟨w, rfl, h1, h60, h100, hg, e1, e2⟩ | ⟨e1, e2⟩
    · have es := maps_self (slF l w 0 l.length) (by rw [slF_len]; omega)
      have k := slid_loop hb1 h100 h1 h60 hg l.length 0 [] [] [] oneM (by omega) new_good (by simp [itemsW, lastN])
      have nx : laws_FnSlid.l2000008 v1 l (w : Int) (slF l w 0 l.length) true = some true := laws_FnSlid.eq2000008 _ _ _ _ _ (by simp only [laws_FnSlid.t2000008, newWindow_eq, Option.bind_some, cond_true]; exact k)
      simp only [laws_FnSlid.t, dec_f hc, ed, e1, e2, es, Option.bind_some, beq_ref, bang_t, cond_false]
      exact nx
    · have es := maps_self [] (by simp)
      have nx : laws_FnSlid.l2000008 v1 l v [] false = some true := laws_FnSlid.eq2000008 _ _ _ _ _ (by simp only [laws_FnSlid.t2000008, cond_false]; exact slid_tail hb1)
      simp only [laws_FnSlid.t, dec_f hc, ed, e1, e2, es, Option.bind_some, beq_ref, bang_t, cond_false]
      exact nx
end GoV

/- FnSlid: its core is the law. -/
