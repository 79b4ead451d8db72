/- A part of the proof of FnWindows: an interpreter of the model over plain data, its soundness, and what it makes of the functions that the statement reaches. Conditions: none beyond what the given statement itself says. -/
import Derived.Test.YtgoflcackinjdaaTO
set_option linter.unusedVariables false
set_option linter.unusedSimpArgs false
set_option linter.unnecessarySimpa false
set_option linter.unusedSectionVars false
/- Windows pushed, popped, summed up: plain facts. -/
namespace GoV
open Go
def itemsW (f b : List Mp) : List Mp := f.reverse ++ b
theorem goodWin_iff {f s b : List Mp} {m : Mp} : goodWin f s b m = true ↔ f.length + b.length ≤ 60 ∧ (∀ x, x ∈ f → goodM x = true) ∧ (∀ x, x ∈ b → goodM x = true) ∧ s = sumsM oneM f ∧ m = allM b := by
  simp only [goodWin, Bool.and_eq_true, decide_eq_true_eq, List.all_eq_true]
  constructor
  · rintro ⟨⟨h1, h2⟩, h3, h4, h5, h6⟩; exact ⟨h2, h3, h4, h5, h6⟩
  · rintro ⟨h2, h3, h4, h5, h6⟩; exact ⟨⟨by rw [h5, sumsM_len], h2⟩, h3, h4, h5, h6⟩
theorem itemsW_len (f b : List Mp) : (itemsW f b).length = f.length + b.length := by simp [itemsW]
theorem itemsW_good {f s b : List Mp} {m : Mp} (h : goodWin f s b m = true) : ∀ x, x ∈ itemsW f b → goodM x = true := by
  obtain ⟨_, h3, h4, _⟩ := goodWin_iff.1 h
  intro x hx
  simp only [itemsW, List.mem_append, List.mem_reverse] at hx
  exact hx.elim (h3 x) (h4 x)
theorem new_good : goodWin [] [] [] oneM = true := rfl
theorem push_good {f s b : List Mp} {m x : Mp} (h : goodWin f s b m = true) (hx : goodM x = true) (hl : f.length + b.length < 60) : goodWin f s (b ++ [x]) (thenP m x) = true ∧ itemsW f (b ++ [x]) = itemsW f b ++ [x] := by
  obtain ⟨h2, h3, h4, h5, h6⟩ := goodWin_iff.1 h
  refine ⟨goodWin_iff.2 ⟨by rw [List.length_append, List.length_singleton]; omega, h3, fun y hy => ?_, h5, ?_⟩, by simp [itemsW]⟩
  · rcases List.mem_append.1 hy with hy | hy
    · exact h4 y hy
    · rw [List.mem_singleton.1 hy]; exact hx
  · rw [h6, allM, allM, List.foldl_append]; rfl
theorem pop_good {f s b : List Mp} {m : Mp} (h : goodWin f s b m = true) (hne : 0 < f.length + b.length) :
    goodWin ((popF f b).take ((popF f b).length - 1)) ((popS f s b).take ((popF f b).length - 1)) (if f = [] then [] else b) (if f = [] then oneM else m) = true ∧
    itemsW ((popF f b).take ((popF f b).length - 1)) (if f = [] then [] else b) = (itemsW f b).tail ∧ (popF f b).getD ((popF f b).length - 1) ((0 : Int), (0 : Int)) = (itemsW f b).getD 0 ((0 : Int), (0 : Int)) := by
  obtain ⟨h2, h3, h4, h5, h6⟩ := goodWin_iff.1 h
  have hF : popF f b ≠ [] := by
    unfold popF
    split
    · rename_i e
      rw [e] at hne
      intro e2
      have := List.reverse_eq_nil_iff.1 e2
      rw [this] at hne
      simp at hne
    · assumption
  have hS : popS f s b = sumsM oneM (popF f b) := by unfold popS popF; split <;> first | rfl | exact h5
  have hlen : (popF f b).length + (if f = [] then ([] : List Mp) else b).length ≤ 60 := by
    unfold popF
    split
    · rename_i e; rw [e] at h2; simp at h2 ⊢; exact h2
    · exact h2
  have hg : ∀ x, x ∈ popF f b → goodM x = true := by
    unfold popF
    split
    · exact fun x hx => h4 x (List.mem_reverse.1 hx)
    · exact h3
  have hi : itemsW f b = (popF f b).reverse ++ (if f = [] then [] else b) := by
    unfold popF itemsW
    split
    · rename_i e; rw [e]; simp
    · rfl
  obtain ⟨D, x, e⟩ : ∃ D x, popF f b = D ++ [x] := ⟨_, _, (List.dropLast_concat_getLast hF).symm⟩
  have hb : ∀ y, y ∈ (if f = [] then ([] : List Mp) else b) → goodM y = true := by
    split
    · intro y hy; cases hy
    · exact h4
  have hm : (if f = [] then oneM else m) = allM (if f = [] then [] else b) := by split <;> first | rfl | exact h6
  have et : (D ++ [x]).take ((D ++ [x]).length - 1) = D := by simp
  have es : (sumsM oneM (D ++ [x])).take ((D ++ [x]).length - 1) = sumsM oneM D := by rw [← sumsM_take, et]
  rw [hi, hS]
  rw [e] at hlen hg ⊢
  rw [et, es]
  refine ⟨goodWin_iff.2 ⟨?_, fun y hy => hg y (by simp [hy]), hb, rfl, hm⟩, by simp [itemsW], ?_⟩
  · rw [List.length_append, List.length_singleton] at hlen; omega
  · simp
theorem sum_items {f s b : List Mp} {m : Mp} (h : goodWin f s b m = true) : (if s.length = 0 then m else thenP (s.getD (s.length - 1) ((0 : Int), (0 : Int))) m) = allM (itemsW f b) := by
  obtain ⟨h2, h3, h4, h5, h6⟩ := goodWin_iff.1 h
  have hl : s.length = f.length := by rw [h5, sumsM_len]
  rw [hl]
  split
  · rename_i e
    rw [List.length_eq_zero_iff.1 e, h6]; rfl
  · rename_i e
    have hr : ∀ x, x ∈ f.reverse → goodM x = true := fun x hx => h3 x (List.mem_reverse.1 hx)
    rw [h5, sums_at (by omega) (fun k hk => h3 _ (getD_mem _ (by omega))), show f.length - 1 + 1 = f.length by omega, List.take_length, h6, itemsW, allM_append hr h4]
end GoV

/- Windows: what pushing, popping, summing, telling give. -/
namespace GoV
open Go
theorem goodWin_len {f s b : List Mp} {m : Mp} (h : goodWin f s b m = true) : f.length ≤ 60 ∧ s.length = f.length ∧ b.length ≤ 60 := by
  obtain ⟨h2, _, _, h5, _⟩ := goodWin_iff.1 h
  exact ⟨by omega, by rw [h5, sumsM_len], by omega⟩
theorem goodWin_m {f s b : List Mp} {m : Mp} (h : goodWin f s b m = true) : goodM m = true := by
  obtain ⟨_, _, h4, _, h6⟩ := goodWin_iff.1 h
  rw [h6]; exact allM_good b h4
theorem impl_push_eq {f s b : List Mp} {m x : Mp} (hb : b.length ≤ 1073741824) (hm : goodM m = true) (hx : goodM x = true) : xi09 f s b m.1 m.2 x.1 x.2 = some (f, s, b ++ [x], (thenP m x).1, (thenP m x).2) := by
  have h1 : b.length + [(x.1, x.2)].length ≤ 4294967296 := by simp only [List.length_cons, List.length_nil]; omega
  refine xi09.eq _ _ _ _ _ _ _ ?_
  simp only [xi09.t, dec_t h1, cond_true, impl_then_eq hm hx, Option.bind_some]
theorem impl_sum_eq {f s b : List Mp} {m : Mp} (h : goodWin f s b m = true) : impl_Window_sum f s b m.1 m.2 = some (allM (itemsW f b)) := by
  obtain ⟨l1, l2, l3⟩ := goodWin_len h
  have hs := sum_items h
  refine impl_Window_sum.eq _ _ _ _ _ ?_
  by_cases h0 : s.length = 0
  · rw [if_pos h0] at hs
    have h2 : ¬ (IntKind.i64.wrap ((s.length : Int) - 1) ≥ 0) := by rw [wrap_id (by omega) (by omega)]; omega
    simp only [impl_Window_sum.t, dec_f h2, cond_false, ← hs]
  · rw [if_neg h0] at hs
    have h2 : ((s.length - 1 : Nat) : Int) ≥ 0 := by omega
    have h3 : s.length - 1 < s.length := by omega
    obtain ⟨_, g3, _, g5, _⟩ := goodWin_iff.1 h
    have hg : goodM (s.getD (s.length - 1) ((0 : Int), (0 : Int))) = true := by
      have hi : f.length - 1 < f.length := by omega
      have := sums_at hi (fun k hk => g3 _ (getD_mem _ (by omega)))
      rw [l2, g5, this]
      exact allM_good _ fun x hx => g3 x (List.mem_of_mem_take (List.mem_reverse.1 hx))
    have e := impl_then_eq hg (goodWin_m h)
    simp only [impl_Window_sum.t, wrap_pred (show 0 < s.length by omega) (show s.length < 9223372036854775807 by omega), dec_t h2, ix_nn, ix_nat, dec_t h3, cond_true, e, Option.bind_some, ← hs]
theorem impl_WindowSum_eq {f s b : List Mp} {m : Mp} (h : goodWin f s b m = true) : impl_WindowSum f s b m.1 m.2 = some ((allM (itemsW f b)).1, (allM (itemsW f b)).2, true) := by
  obtain ⟨l1, l2, l3⟩ := goodWin_len h
  have e := impl_GoodWindow_eq (f := f) (s := s) (b := b) (m := m) (by omega) (by omega) (by omega)
  rw [h] at e
  exact impl_WindowSum.eq _ _ _ _ _ (by simp only [impl_WindowSum.t, e, impl_sum_eq h, Option.bind_some, bang_t, cond_false])
section
variable {f s b : List Mp} {m x : Mp} (hf : f.length ≤ 1048576) (hs : s.length ≤ 1048576) (hb : b.length ≤ 1048576)
include hf hs hb
theorem push_yes (h : goodWin f s b m = true) (hx : goodM x = true) (hl : f.length + b.length < 60) : impl_PushMap f s b m.1 m.2 x.1 x.2 = some (f, s, b ++ [x], (thenP m x).1, (thenP m x).2, true) := by
  have e1 := impl_GoodWindow_eq (f := f) (s := s) (b := b) (m := m) (by omega) (by omega) (by omega)
  rw [h] at e1
  have e2 := impl_GoodMap_eq x.1 x.2
  rw [show goodM (x.1, x.2) = true from hx] at e2
  have hw : IntKind.i64.wrap ((f.length : Int) + (b.length : Int)) = ((f.length + b.length : Nat) : Int) := by rw [wrap_id] <;> omega
  have h0 : (((f.length + b.length : Nat) : Int) == 60) = false := beq_eq_false_iff_ne.2 (by omega)
  have e3 := impl_own_eq (f := f) (s := s) (b := b) (m := m) (by omega) (by omega) (by omega)
  have e4 := impl_push_eq (f := f) (s := s) (b := b) (m := m) (x := x) (by omega) (goodWin_m h) hx
  have e5 := impl_own_eq (f := f) (s := s) (b := b ++ [x]) (m := thenP m x) (by omega) (by omega) (by rw [List.length_append, List.length_singleton]; omega)
  exact impl_PushMap.eq _ _ _ _ _ _ _ (by simp only [impl_PushMap.t, e1, e2, hw, h0, e3, e4, e5, Option.bind_some, bang_t, cond_false])
theorem push_no (h : (goodWin f s b m && (goodM x && decide (f.length + b.length < 60))) = false) : impl_PushMap f s b m.1 m.2 x.1 x.2 = some ([], [], [], 0, 0, false) := by
  have e1 := impl_GoodWindow_eq (f := f) (s := s) (b := b) (m := m) (by omega) (by omega) (by omega)
  have e2 := impl_GoodMap_eq x.1 x.2
  rw [show goodM (x.1, x.2) = goodM x from rfl] at e2
  have hw : IntKind.i64.wrap ((f.length : Int) + (b.length : Int)) = ((f.length + b.length : Nat) : Int) := by rw [wrap_id] <;> omega
  refine impl_PushMap.eq _ _ _ _ _ _ _ ?_
  cases hg : goodWin f s b m with
  | false => simp only [impl_PushMap.t, e1, hg, Option.bind_some, bang_f, cond_true]
  | true =>
    cases hx : goodM x with
    | false => simp only [impl_PushMap.t, e1, e2, hg, hx, Option.bind_some, bang_f, bang_t, cond_true, cond_false]
    | true =>
      have := (goodWin_iff.1 hg).1
      have h0 : (((f.length + b.length : Nat) : Int) == 60) = true := beq_iff_eq.2 (by
        have h9 : ¬ f.length + b.length < 60 := fun h9 => by rw [hg, hx, dec_t h9] at h; cases h
        omega)
      simp only [impl_PushMap.t, e1, e2, hg, hx, hw, h0, Option.bind_some, bang_t, cond_true, cond_false]
theorem impl_PopMap_eq (h : goodWin f s b m = true) (hne : 0 < f.length + b.length) :
    impl_PopMap f s b m.1 m.2 = some ((popF f b).take ((popF f b).length - 1), (popS f s b).take ((popF f b).length - 1), (if f = [] then [] else b), (if f = [] then oneM else m).1, (if f = [] then oneM else m).2, ((popF f b).getD ((popF f b).length - 1) ((0 : Int), (0 : Int))).1, ((popF f b).getD ((popF f b).length - 1) ((0 : Int), (0 : Int))).2, (if f = [] then (b.length : Int) else 0), true) := by
  have e2 := impl_GoodWindow_eq (f := f) (s := s) (b := b) (m := m) (by omega) (by omega) (by omega)
  rw [h] at e2
  obtain ⟨h60, _, hgb, hss, _⟩ := goodWin_iff.1 h
  have hs2 : s.length = f.length := by rw [hss, sumsM_len]
  have hw : IntKind.i64.wrap ((f.length : Int) + (b.length : Int)) = ((f.length + b.length : Nat) : Int) := by rw [wrap_id] <;> omega
  have h0 : (((f.length + b.length : Nat) : Int) == 0) = false := beq_eq_false_iff_ne.2 (by omega)
  have e3 := impl_own_eq (f := f) (s := s) (b := b) (m := m) (by omega) (by omega) (by omega)
  have e5 := impl_pop_eq (m := m) h60 hs2 hgb (by omega)
  obtain ⟨g1, _, _⟩ := pop_good h hne
  obtain ⟨k1, k2, k3⟩ := goodWin_len g1
  have e6 := impl_own_eq (f := (popF f b).take ((popF f b).length - 1)) (s := (popS f s b).take ((popF f b).length - 1)) (b := if f = [] then [] else b) (m := if f = [] then oneM else m) (by omega) (by omega) (by omega)
  exact impl_PopMap.eq _ _ _ _ _ (by simp only [impl_PopMap.t, e2, hw, h0, e3, e5, e6, Option.bind_some, bang_t, cond_false])
theorem impl_ItemsIn_eq : impl_ItemsIn f s b m.1 m.2 = some (bif goodWin f s b m then (itemsW f b, true) else ([], false)) := by
  have e1 := impl_GoodWindow_eq (f := f) (s := s) (b := b) (m := m) (by omega) (by omega) (by omega)
  refine impl_ItemsIn.eq _ _ _ _ _ ?_
  cases hg : goodWin f s b m with
  | false => simp only [impl_ItemsIn.t, e1, hg, Option.bind_some, bang_f, cond_true, cond_false]
  | true =>
    have hl : f.reverse.length + b.length ≤ 4294967296 := by rw [List.length_reverse]; omega
    simp only [impl_ItemsIn.t, e1, hg, slices_Clone_Map_eq f (by omega), slices_Reverse_eq f (by omega), dec_t hl, Option.bind_some, bang_t, cond_true, cond_false]; rfl
theorem spec_ItemsIn_eq : spec_ItemsIn f s b m.1 m.2 = some (bif goodWin f s b m then (itemsW f b, true) else ([], false)) := by
  have e1 := spec_GoodWindow_eq (f := f) (s := s) (b := b) (m := m) (by omega) (by omega) (by omega)
  have hl : f.reverse.length + b.length ≤ 4294967296 := by rw [List.length_reverse]; omega
  have e2 : spec_l17Items f s b m.1 m.2 = some (f.reverse ++ b) := spec_l17Items.eq _ _ _ _ _ (by simp only [spec_l17Items.t, spec_l17Turned_eq f (by omega), dec_t hl, Option.bind_some, cond_true])
  refine spec_ItemsIn.eq _ _ _ _ _ ?_
  cases hg : goodWin f s b m with
  | false => simp only [spec_ItemsIn.t, e1, hg, Option.bind_some, bang_f, cond_true, cond_false]
  | true => simp only [spec_ItemsIn.t, e1, hg, e2, Option.bind_some, bang_t, cond_true, cond_false]; rfl
theorem spush_yes (h : goodWin f s b m = true) (hx : goodM x = true) (hl : f.length + b.length < 60) : spec_PushMap f s b m.1 m.2 x.1 x.2 = some (f, s, b ++ [x], (thenP m x).1, (thenP m x).2, true) := by
  have e1 := spec_GoodWindow_eq (f := f) (s := s) (b := b) (m := m) (by omega) (by omega) (by omega)
  rw [h] at e1
  have e2 := spec_GoodMap_eq x.1 x.2
  rw [show goodM (x.1, x.2) = true from hx] at e2
  have hw : IntKind.i64.wrap ((f.length : Int) + (b.length : Int)) = ((f.length + b.length : Nat) : Int) := by rw [wrap_id] <;> omega
  have h0 : (((f.length + b.length : Nat) : Int) == 60) = false := beq_eq_false_iff_ne.2 (by omega)
  have e3 := spec_own_eq (f := f) (s := s) (b := b) (m := m) (by omega) (by omega) (by omega)
  have h1 : b.length + [(x.1, x.2)].length ≤ 4294967296 := by simp only [List.length_cons, List.length_nil]; omega
  have e4 := spec_l17Then_eq (goodWin_m h) hx
  exact spec_PushMap.eq _ _ _ _ _ _ _ (by simp only [spec_PushMap.t, e1, e2, hw, h0, e3, e4, dec_t h1, Option.bind_some, bang_t, cond_true, cond_false])
theorem spush_no (h : (goodWin f s b m && (goodM x && decide (f.length + b.length < 60))) = false) : spec_PushMap f s b m.1 m.2 x.1 x.2 = some ([], [], [], 0, 0, false) := by
  have e1 := spec_GoodWindow_eq (f := f) (s := s) (b := b) (m := m) (by omega) (by omega) (by omega)
  have e2 := spec_GoodMap_eq x.1 x.2
  rw [show goodM (x.1, x.2) = goodM x from rfl] at e2
  have hw : IntKind.i64.wrap ((f.length : Int) + (b.length : Int)) = ((f.length + b.length : Nat) : Int) := by rw [wrap_id] <;> omega
  refine spec_PushMap.eq _ _ _ _ _ _ _ ?_
  cases hg : goodWin f s b m with
  | false => simp only [spec_PushMap.t, e1, hg, Option.bind_some, bang_f, cond_true]
  | true =>
    cases hx : goodM x with
    | false => simp only [spec_PushMap.t, e1, e2, hg, hx, Option.bind_some, bang_f, bang_t, cond_true, cond_false]
    | true =>
      have := (goodWin_iff.1 hg).1
      have h0 : (((f.length + b.length : Nat) : Int) == 60) = true := beq_iff_eq.2 (by
        have h9 : ¬ f.length + b.length < 60 := fun h9 => by rw [hg, hx, dec_t h9] at h; cases h
        omega)
      simp only [spec_PushMap.t, e1, e2, hg, hx, hw, h0, Option.bind_some, bang_t, cond_true, cond_false]
end
theorem maps_self (a : List Mp) (h : a.length ≤ 1073741824) : laws_sameMaps a a = some true := by
  have key : ∀ (m i : Nat), i + m = a.length → laws_sameMaps.l4 a a (a.length : Int) (i : Int) = some true := by
    intro m
    induction m with
    | zero =>
      intro i hi
      have e : i = a.length := by omega
      subst e
      exact laws_sameMaps.eq4 _ _ _ _ (by simp only [laws_sameMaps.t4, ix_lt, Nat.lt_irrefl, decide_false, cond_false])
    | succ m ih =>
      intro i hi
      have g : i < a.length := by omega
      refine laws_sameMaps.eq4 _ _ _ _ ?_
      simp only [laws_sameMaps.t4, ix_lt, ix_nn, ix_nat, dec_t g, cond_true, cond_false, decide_true, Bool.and_self, bang_t, wrap_succ (show i < 9223372036854775807 by omega)]
      exact ih (i + 1) (by omega)
  refine laws_sameMaps.eq _ _ ?_
  simp only [laws_sameMaps.t, bne_ref, cond_false]
  exact key a.length 0 (by omega)
theorem newWindow_eq : impl_NewWindow = some ([], [], [], oneM.1, oneM.2) := impl_NewWindow.eq (by simp only [impl_NewWindow.t, impl_same_eq, Option.bind_some])
end GoV

/- Drawing: a cursor always answers. -/
namespace GoV
open Go
def Byt (b : List Int) : Prop := ∀ x, x ∈ b → 0 ≤ x ∧ x ≤ 255
theorem u64_id {x : Int} (h1 : 0 ≤ x) (h2 : x ≤ 255) : IntKind.u64.wrap x = x := by
  simp [IntKind.wrap, IntKind.signed, IntKind.bits]
  omega
theorem low_byte (x : BitVec IntKind.u64.bits) : 0 ≤ IntKind.i64.wrap (IntKind.u64.wrap (((x &&& BitVec.ofInt IntKind.u64.bits (255 : Int)).toNat : Nat) : Int)) ∧ IntKind.i64.wrap (IntKind.u64.wrap (((x &&& BitVec.ofInt IntKind.u64.bits (255 : Int)).toNat : Nat) : Int)) ≤ 255 := by
  have h : (x &&& BitVec.ofInt IntKind.u64.bits (255 : Int)).toNat ≤ 255 := by
    rw [BitVec.toNat_and]
    exact Nat.and_le_right
  rw [u64_id (by omega) (by omega), wrap_id (by omega) (by omega)]
  omega
section
variable {b : List Int} (hb : Byt b)
include hb
theorem nextD_ok {a : Int} (s : Int) (h0 : 0 ≤ a) (h1 : a ≤ 1000000) : ∃ x s', xs0c b a s = some (x, b, a + 1, s') ∧ 0 ≤ x ∧ x ≤ 255 := by
  have hw : IntKind.i64.wrap (a + 1) = a + 1 := wrap_id (by omega) (by omega)
  by_cases g : a < (b.length : Int)
  · have g2 : a.toNat < b.length := by omega
    have g3 : a + 1 ≤ (b.length : Int) := by omega
    have hx := hb _ (getD_mem (0 : Int) g2)
    have hwx : IntKind.i64.wrap (b.getD a.toNat 0) = b.getD a.toNat 0 := wrap_id (by omega) (by omega)
    have k : ∃ s', xs0c.t some b a s = some (b.getD a.toNat 0, b, a + 1, s') := by
      simp only [xs0c.t, dec_t g, dec_t h0, dec_t g2, hw, hwx, dec_t g3, cond_true]
      exact ⟨_, rfl⟩
    obtain ⟨s', k⟩ := k
    exact ⟨_, s', xs0c.eq _ _ _ k, hx⟩
  · have g3 : ¬ a + 1 ≤ (b.length : Int) := by omega
    have k : ∃ x s', xs0c.t some b a s = some (x, b, a + 1, s') ∧ 0 ≤ x ∧ x ≤ 255 := by
      simp only [xs0c.t, dec_f g, hw, dec_f g3, cond_false]
      exact ⟨_, _, rfl, low_byte _⟩
    obtain ⟨x, s', k, hx⟩ := k
    exact ⟨x, s', xs0c.eq _ _ _ k, hx⟩
theorem pickD_ok {a : Int} (s k : Int) (h0 : 0 ≤ a) (h1 : a ≤ 1000000) (hk : 2 ≤ k) (hk2 : k ≤ 200) : ∃ x s', xs0d b a s k = some (x, b, a + 1, s') ∧ 0 ≤ x ∧ x < k := by
  obtain ⟨x, s', e, hx⟩ := nextD_ok hb s h0 h1
  have g1 : ¬ k ≤ 1 := by omega
  have g2 : ¬ k > 200 := by omega
  have g3 : k ≠ 0 := by omega
  refine ⟨x.tmod k, s', xs0d.eq _ _ _ _ ?_, Int.tmod_nonneg _ hx.1, Int.tmod_lt_of_pos _ (by omega)⟩
  simp only [xs0d.t, dec_f g1, e, Option.bind_some, dec_f g2, dec_t g3, cond_true, cond_false]
theorem oneD_ok {a : Int} (s k : Int) (h0 : 0 ≤ a) (h1 : a ≤ 1000000) (hk : 2 ≤ k) (hk2 : k ≤ 200) : ∃ x s', spec_l1Cur_one_e61 b a s k = some (x, b, a + 1, s') := by
  obtain ⟨x, s', e, hx⟩ := pickD_ok hb s k h0 h1 hk hk2
  exact ⟨x == 0, s', spec_l1Cur_one_e61.eq _ _ _ _ (by simp only [spec_l1Cur_one_e61.t, e, Option.bind_some])⟩
theorem amongD_ok {a : Int} (s : Int) (l : List Int) (h0 : 0 ≤ a) (h1 : a ≤ 1000000) (hk : 2 ≤ l.length) (hk2 : l.length ≤ 200) : ∃ x s', xs0a b a s l = some (x, b, a + 1, s') := by
  obtain ⟨x, s', e, hx⟩ := pickD_ok hb s (l.length : Int) h0 h1 (by omega) (by omega)
  have g : x.toNat < l.length := by omega
  exact ⟨l.getD x.toNat 0, s', xs0a.eq _ _ _ _ (by simp only [xs0a.t, e, Option.bind_some, dec_t hx.1, dec_t g, cond_true])⟩
end
end GoV

/- Drawing maps. -/
namespace GoV
open Go
section
variable {b : List Int} (hb : Byt b)
include hb
theorem pickB_ok {a : Int} (s k : Int) (h0 : 0 ≤ a) (h1 : a ≤ 900000) (hk : 200 < k) : ∃ x s', xs0d b a s k = some (x, b, a + 1 + 1, s') ∧ 0 ≤ x ∧ x < k := by
  obtain ⟨x, s1, e1, hx⟩ := nextD_ok hb s h0 (by omega)
  obtain ⟨y, s2, e2, hy⟩ := nextD_ok hb (a := a + 1) s1 (by omega) (by omega)
  have g1 : ¬ k ≤ 1 := by omega
  have g2 : k > 200 := by omega
  have g3 : k ≠ 0 := by omega
  have hw : IntKind.i64.wrap (IntKind.i64.wrap (x * 256) + y) = x * 256 + y := by rw [wrap_id (x := x * 256) (by omega) (by omega), wrap_id (by omega) (by omega)]
  refine ⟨(x * 256 + y).tmod k, s2, xs0d.eq _ _ _ _ ?_, Int.tmod_nonneg _ (by omega), Int.tmod_lt_of_pos _ (by omega)⟩
  simp only [xs0d.t, dec_f g1, e1, e2, Option.bind_some, dec_t g2, dec_t g3, hw, cond_true, cond_false]
theorem affine_ok {a : Int} (s : Int) (h0 : 0 ≤ a) (h1 : a ≤ 800000) : ∃ (m : Mp) (a' s' : Int), xs07 b a s = some (m.1, m.2, b, a', s') ∧ a ≤ a' ∧ a' ≤ a + 6 := by
  obtain ⟨x, s1, e1, hx⟩ := pickB_ok hb s 1009 h0 (by omega) (by omega)
  obtain ⟨y, s2, e2, hy⟩ := pickB_ok hb (a := a + 1 + 1) s1 1009 (by omega) (by omega) (by omega)
  obtain ⟨z, s3, e3, hz⟩ := pickD_ok hb (a := a + 1 + 1 + 1 + 1) s2 30 (by omega) (by omega) (by omega) (by omega)
  cases g0 : z == 0 with
  | true =>
    obtain ⟨u, s4, e4⟩ := amongD_ok hb (a := a + 1 + 1 + 1 + 1 + 1) s3 [(-1 : Int), (0 : Int), (1 : Int), (1008 : Int), (1009 : Int)] (by omega) (by omega) (by simp) (by simp)
    exact ⟨(u, y), (a + 1 + 1 + 1 + 1 + 1 + 1), s4, xs07.eq _ _ _ (by simp only [xs07.t, e1, e2, e3, e4, g0, Option.bind_some, cond_true]), by omega, by omega⟩
  | false =>
    cases g1 : z == 1 with
    | true => exact ⟨(1, 0), (a + 1 + 1 + 1 + 1 + 1), s3, xs07.eq _ _ _ (by simp only [xs07.t, e1, e2, e3, g0, g1, Option.bind_some, cond_true, cond_false]), by omega, by omega⟩
    | false => exact ⟨(x, y), (a + 1 + 1 + 1 + 1 + 1), s3, xs07.eq _ _ _ (by simp only [xs07.t, e1, e2, e3, g0, g1, Option.bind_some, cond_true, cond_false]), by omega, by omega⟩
end
end GoV

/- Windows: pushing, popping and telling, both ways alike; the sum of a window maps as its items do, one behind the other. -/
namespace GoV
open Go
abbrev winTy : Ty := .pair (.sl (.pair (.int .i64) (.int .i64))) (.pair (.sl (.pair (.int .i64) (.int .i64))) (.pair (.sl (.pair (.int .i64) (.int .i64))) (.pair (.int .i64) (.int .i64))))
theorem win_sz (a b c : List Mp) (d e : Int) : szT winTy (a, (b, (c, (d, e)))) = a.length + (b.length + c.length) := by
  show szT (.sl (.pair (.int .i64) (.int .i64))) a + (szT (.sl (.pair (.int .i64) (.int .i64))) b + (szT (.sl (.pair (.int .i64) (.int .i64))) c + (0 + 0))) = _
  rw [szT_sl_flat (t := .pair (.int .i64) (.int .i64)) a rfl, szT_sl_flat (t := .pair (.int .i64) (.int .i64)) b rfl, szT_sl_flat (t := .pair (.int .i64) (.int .i64)) c rfl]
  omega
section
variable {f s b : List Mp} {m : Mp} (hf : f.length ≤ 300000) (hs : s.length ≤ 300000) (hb : b.length ≤ 300000)
include hf hs hb
theorem win_sz_le : szT winTy (f, (s, (b, (m.1, m.2)))) ≤ 1048576 := by rw [win_sz]; omega
/-- Popping, both ways. -/
theorem pop_both : ∃ (qf qs qb : List Mp) (qm it : Mp) (mv : Int) (ok : Bool),
    impl_PopMap f s b m.1 m.2 = some (qf, qs, qb, qm.1, qm.2, it.1, it.2, mv, ok) ∧ spec_PopMap f s b m.1 m.2 = some (qf, qs, qb, qm.1, qm.2, it.1, it.2, mv, ok) ∧
    qf.length ≤ 60 ∧ qs.length ≤ 60 ∧ qb.length ≤ 60 ∧ (ok = true → goodWin f s b m = true ∧ goodWin qf qs qb qm = true ∧ itemsW f b = it :: itemsW qf qb) := by
  obtain ⟨a, b', c, d, e, g, h, k, ok, e1, e2, _⟩ := pop_same f s b m.1 m.2 (win_sz_le hf hs hb)
  by_cases hg : goodWin f s b m = true ∧ 0 < f.length + b.length
  · have e3 := impl_PopMap_eq (f := f) (s := s) (b := b) (m := m) (by omega) (by omega) (by omega) hg.1 hg.2
    obtain ⟨g1, g2, g3⟩ := pop_good hg.1 hg.2
    obtain ⟨l1, l2, l3⟩ := goodWin_len g1
    have e4 := e3
    rw [e2] at e4
    rw [e1, e4, e3]
    refine ⟨_, _, _, _, _, _, _, rfl, rfl, l1, by omega, l3, fun _ => ⟨hg.1, g1, ?_⟩⟩
    rw [g2, g3]
    have hl : 0 < (itemsW f b).length := by rw [itemsW_len]; exact hg.2
    cases h9 : itemsW f b with
    | nil => rw [h9] at hl; simp at hl
    | cons x r => rfl
  · have e3 : impl_PopMap f s b m.1 m.2 = some ([], [], [], 0, 0, 0, 0, 0, false) := by
      have e5 := impl_GoodWindow_eq (f := f) (s := s) (b := b) (m := m) (by omega) (by omega) (by omega)
      have hw : IntKind.i64.wrap ((f.length : Int) + (b.length : Int)) = ((f.length + b.length : Nat) : Int) := by rw [wrap_id] <;> omega
      refine impl_PopMap.eq _ _ _ _ _ ?_
      cases hgg : goodWin f s b m with
      | false => simp only [impl_PopMap.t, e5, hgg, Option.bind_some, bang_f, cond_true]
      | true =>
        have h0 : (((f.length + b.length : Nat) : Int) == 0) = true := beq_iff_eq.2 (by
          have : ¬ 0 < f.length + b.length := fun h => hg ⟨hgg, h⟩
          omega)
        simp only [impl_PopMap.t, e5, hgg, hw, h0, Option.bind_some, bang_t, cond_true, cond_false]
    have e4 := e3
    rw [e2] at e4
    rw [e1, e4, e3]
    exact ⟨[], [], [], ((0 : Int), (0 : Int)), ((0 : Int), (0 : Int)), 0, false, rfl, rfl, by simp, by simp, by simp, fun h => by cases h⟩
/-- Pushing, both ways. -/
theorem push_both (x : Mp) : ∃ (qf qs qb : List Mp) (qm : Mp) (ok : Bool),
    impl_PushMap f s b m.1 m.2 x.1 x.2 = some (qf, qs, qb, qm.1, qm.2, ok) ∧ spec_PushMap f s b m.1 m.2 x.1 x.2 = some (qf, qs, qb, qm.1, qm.2, ok) ∧
    qf.length ≤ 60 ∧ qs.length ≤ 60 ∧ qb.length ≤ 60 ∧ (ok = true → goodWin f s b m = true ∧ goodWin qf qs qb qm = true ∧ itemsW qf qb = itemsW f b ++ [x]) := by
  cases h : (goodWin f s b m && (goodM x && decide (f.length + b.length < 60))) with
  | false => exact ⟨[], [], [], ((0 : Int), (0 : Int)), false, push_no (by omega) (by omega) (by omega) h, spush_no (by omega) (by omega) (by omega) h, by simp, by simp, by simp, fun h => by cases h⟩
  | true =>
    simp only [Bool.and_eq_true, decide_eq_true_eq] at h
    obtain ⟨h1, h2, h3⟩ := h
    obtain ⟨g1, g2⟩ := push_good h1 h2 h3
    obtain ⟨l1, l2, l3⟩ := goodWin_len g1
    exact ⟨f, s, b ++ [x], thenP m x, true, push_yes (by omega) (by omega) (by omega) h1 h2 h3, spush_yes (by omega) (by omega) (by omega) h1 h2 h3, l1, by omega, l3, fun _ => ⟨h1, g1, g2⟩⟩
theorem win_self : laws_sameWindows f s b m.1 m.2 f s b m.1 m.2 = some true :=
  laws_sameWindows.eq _ _ _ _ _ _ _ _ _ _ (by simp only [laws_sameWindows.t, maps_self f (by omega), maps_self s (by omega), maps_self b (by omega), Option.bind_some, cond_true, decide_true, Bool.and_self])
end
theorem apply_yes {m : Mp} {x : Int} (h : goodM m = true) (h0 : 0 ≤ x) (h1 : x ≤ 1008) : impl_ApplyMap m.1 m.2 x = some (appM m x, true) := by
  obtain ⟨⟨a0, a1⟩, b0, b1⟩ := goodM_iff.1 h
  have i1 : impl_GoodMap m.1 m.2 = some true := (impl_GoodMap_eq _ _).trans (congrArg some h)
  have i2 : impl_isRest x = some true := impl_isRest.eq x (by simp only [impl_isRest.t, impl_within_eq, Option.bind_some]; exact congrArg some (inB_iff.2 ⟨h0, h1⟩))
  obtain ⟨p0, p1⟩ := prodM (a := m.1) (b := x) (by omega) (by omega)
  have e : (IntKind.i64.wrap (IntKind.i64.wrap (m.1 * x) + m.2)).tmod 1009 = appM m x := by
    rw [wrap_id (x := m.1 * x) (by omega) (by omega), wrap_id (by omega) (by omega), Int.tmod_eq_emod_of_nonneg (by omega), appM]
  exact impl_ApplyMap.eq _ _ _ (by simp only [impl_ApplyMap.t, i1, i2, e, Option.bind_some, bang_t, cond_false])
theorem number_ok {l : List Int} (hl : (l.length : Int) ≤ 9223372036854775807) (hb : Byt l) : ∃ n, laws_numberOf l = some n ∧ 0 ≤ n := by
  have key : ∀ (n i : Nat) (a : Int), i + n = l.length → 0 ≤ a → a ≤ 1000003 → ∃ r, laws_numberOf.l3 a l (l.length : Int) (i : Int) = some r ∧ 0 ≤ r := by
    intro n
    induction n with
    | zero =>
      intro i a hi h0 h1
      have e : i = l.length := by omega
      subst e
      exact ⟨a, laws_numberOf.eq3 _ _ _ _ (by simp only [laws_numberOf.t3, ix_lt, Nat.lt_irrefl, decide_false, cond_false]), h0⟩
    | succ n ih =>
      intro i a hi h0 h1
      have g : i < l.length := by omega
      have hx := hb _ (getD_mem (0 : Int) g)
      have hx1 : 0 ≤ l.getD i (0 : Int) := hx.1
      have hx2 : l.getD i (0 : Int) ≤ 255 := hx.2
      have w1 : IntKind.i64.wrap (l.getD i (0 : Int)) = l.getD i (0 : Int) := wrap_id (by omega) (by omega)
      have w2 : IntKind.i64.wrap (31 * a) = 31 * a := wrap_id (by omega) (by omega)
      have w3 : IntKind.i64.wrap (31 * a + l.getD i (0 : Int)) = 31 * a + l.getD i (0 : Int) := wrap_id (by omega) (by omega)
      have p0 : 0 ≤ (31 * a + l.getD i (0 : Int)).tmod 1000003 := Int.tmod_nonneg _ (by omega)
      have p1 : (31 * a + l.getD i (0 : Int)).tmod 1000003 < 1000003 := Int.tmod_lt_of_pos _ (by omega)
      obtain ⟨r, e, e0⟩ := ih (i + 1) ((31 * a + l.getD i (0 : Int)).tmod 1000003) (by omega) p0 (by omega)
      refine ⟨r, laws_numberOf.eq3 _ _ _ _ ?_, e0⟩
      simp only [laws_numberOf.t3, ix_lt, ix_nn, ix_nat, dec_t g, cond_true, w1, w2, w3, wrap_succ (show i < 9223372036854775807 by omega)]
      exact e
  obtain ⟨r, e, e0⟩ := key l.length 0 0 (by omega) (by omega) (by omega)
  exact ⟨r, laws_numberOf.eq _ (by simp only [laws_numberOf.t]; exact e), e0⟩
section
variable {b : List Int} (hb : Byt b)
include hb
theorem window_loop : ∀ (n : Nat) (a s : Int) (f g c : List Mp) (m : Mp), 0 ≤ a → a + 8 * (n : Int) ≤ 100000 → goodWin f g c m = true →
    ∃ (f' g' c' : List Mp) (m' : Mp) (a' w : Int), xs08.l5 b a s [] [] [] 0 0 f g c m.1 m.2 (n : Int) = some (f', g', c', m'.1, m'.2, b, a', w) ∧ a ≤ a' ∧ a' ≤ a + 8 * (n : Int) + 1 ∧ f'.length ≤ 61 ∧ g'.length ≤ 60 ∧ c'.length ≤ 60
  | 0, a, s, f, g, c, m, h0, h1, h => by
    have k : ¬ ((0 : Nat) : Int) > 0 := by omega
    obtain ⟨x, s1, e, hx⟩ := pickD_ok hb (a := a) s 40 h0 (by omega) (by omega) (by omega)
    obtain ⟨l1, l2, l3⟩ := goodWin_len h
    have hl : f.length + [((1 : Int), (0 : Int))].length ≤ 4294967296 := by simp only [List.length_cons, List.length_nil]; omega
    cases g0 : x == 0 with
    | true => exact ⟨f, g, c, (IntKind.i64.wrap (m.1 + 1), m.2), a + 1, s1, xs08.eq5 _ _ _ _ _ _ _ _ _ _ _ _ _ _ (by simp only [xs08.t5, dec_f k, e, g0, Option.bind_some, cond_true, cond_false]), by omega, by omega, by omega, by omega, by omega⟩
    | false =>
      cases g1 : x == 1 with
      | true => exact ⟨f ++ [((1 : Int), (0 : Int))], g, c, m, a + 1, s1, xs08.eq5 _ _ _ _ _ _ _ _ _ _ _ _ _ _ (by simp only [xs08.t5, dec_f k, e, g0, g1, dec_t hl, Option.bind_some, cond_true, cond_false]), by omega, by omega, by rw [List.length_append, List.length_singleton]; omega, by omega, by omega⟩
      | false => exact ⟨f, g, c, m, a + 1, s1, xs08.eq5 _ _ _ _ _ _ _ _ _ _ _ _ _ _ (by simp only [xs08.t5, dec_f k, e, g0, g1, Option.bind_some, cond_true, cond_false]), by omega, by omega, by omega, by omega, by omega⟩
  | n + 1, a, s, f, g, c, m, h0, h1, h => by
    have k : ((n + 1 : Nat) : Int) > 0 := by omega
    have hw : IntKind.i64.wrap (((n + 1 : Nat) : Int) - 1) = (n : Int) := by rw [wrap_id] <;> omega
    obtain ⟨l1, l2, l3⟩ := goodWin_len h
    obtain ⟨o, s1, e1⟩ := oneD_ok hb (a := a) s 3 h0 (by omega) (by omega) (by omega)
    cases o with
    | true =>
      obtain ⟨qf, qs, qb, qm, it, mv, ok, _, e2, _, _, _, hq⟩ := pop_both (f := f) (s := g) (b := c) (m := m) (by omega) (by omega) (by omega)
      cases ok with
      | true =>
        obtain ⟨f', g', c', m', a', w, e3, k1, k2, k3⟩ := window_loop n (a + 1) s1 qf qs qb qm (by omega) (by omega) (hq rfl).2.1
        refine ⟨f', g', c', m', a', w, xs08.eq5 _ _ _ _ _ _ _ _ _ _ _ _ _ _ ?_, by omega, by omega, k3⟩
        simp only [xs08.t5, dec_t k, e1, e2, hw, Option.bind_some, cond_true]
        exact e3
      | false =>
        obtain ⟨f', g', c', m', a', w, e3, k1, k2, k3⟩ := window_loop n (a + 1) s1 f g c m (by omega) (by omega) h
        refine ⟨f', g', c', m', a', w, xs08.eq5 _ _ _ _ _ _ _ _ _ _ _ _ _ _ ?_, by omega, by omega, k3⟩
        simp only [xs08.t5, dec_t k, e1, e2, hw, Option.bind_some, cond_true, cond_false]
        exact e3
    | false =>
      obtain ⟨x, a1, s2, e2, j1, j2⟩ := affine_ok hb (a := a + 1) s1 (by omega) (by omega)
      obtain ⟨qf, qs, qb, qm, ok, _, e4, _, _, _, hq⟩ := push_both (f := f) (s := g) (b := c) (m := m) (by omega) (by omega) (by omega) x
      cases ok with
      | true =>
        obtain ⟨f', g', c', m', a', w, e3, k1, k2, k3⟩ := window_loop n a1 s2 qf qs qb qm (by omega) (by omega) (hq rfl).2.1
        refine ⟨f', g', c', m', a', w, xs08.eq5 _ _ _ _ _ _ _ _ _ _ _ _ _ _ ?_, by omega, by omega, k3⟩
        simp only [xs08.t5, dec_t k, e1, e2, e4, hw, Option.bind_some, cond_true, cond_false]
        exact e3
      | false =>
        obtain ⟨f', g', c', m', a', w, e3, k1, k2, k3⟩ := window_loop n a1 s2 f g c m (by omega) (by omega) h
        refine ⟨f', g', c', m', a', w, xs08.eq5 _ _ _ _ _ _ _ _ _ _ _ _ _ _ ?_, by omega, by omega, k3⟩
        simp only [xs08.t5, dec_t k, e1, e2, e4, hw, Option.bind_some, cond_true, cond_false]
        exact e3
theorem drawPush_ok : ∃ (f g c : List Mp) (m x : Mp), spec_DrawPushMap b = some (f, g, c, m.1, m.2, x.1, x.2) ∧ f.length ≤ 61 ∧ g.length ≤ 60 ∧ c.length ≤ 60 := by
  have e0 : spec_NewWindow = some ([], [], [], oneM.1, oneM.2) := spec_NewWindow.eq (by simp only [spec_NewWindow.t, spec_one_eq, Option.bind_some])
  obtain ⟨n, s1, e1, hn⟩ := pickD_ok hb (a := 0) 0 16 (by omega) (by omega) (by omega) (by omega)
  obtain ⟨o, s2, e2⟩ := oneD_ok hb (a := 0 + 1) s1 20 (by omega) (by omega) (by omega) (by omega)
  have key : ∀ n : Nat, n ≤ 80 → xs08.l5 b (0 + 1 + 1) s2 [] [] [] 0 0 [] [] [] oneM.1 oneM.2 (n : Int) = xs08 b 0 0 →
      ∃ (f g c : List Mp) (m x : Mp), spec_DrawPushMap b = some (f, g, c, m.1, m.2, x.1, x.2) ∧ f.length ≤ 61 ∧ g.length ≤ 60 ∧ c.length ≤ 60 := by
    intro n hn he
    obtain ⟨f', g', c', m', a', w, e3, k1, k2, k3⟩ := window_loop hb n (0 + 1 + 1) s2 [] [] [] oneM (by omega) (by omega) new_good
    rw [he] at e3
    obtain ⟨x, a1, s3, e4, _, _⟩ := affine_ok hb (a := a') w (by omega) (by omega)
    exact ⟨f', g', c', m', x, spec_DrawPushMap.eq _ (by simp only [spec_DrawPushMap.t, e3, e4, Option.bind_some]), k3⟩
  obtain ⟨f', g', c', m', a', w, z3, _⟩ := window_loop hb 80 (0 + 1 + 1) s2 [] [] [] oneM (by omega) (by omega) new_good
  obtain ⟨f1, g1, c1, m1, a1, w1, z1, _⟩ := window_loop hb n.toNat (0 + 1 + 1) s2 [] [] [] oneM (by omega) (by omega) new_good
  cases o with
  | true =>
    refine key 80 (by omega) ?_
    rw [z3]
    refine (xs08.eq _ _ _ ?_).symm
    simp only [xs08.t, e0, e1, e2, Option.bind_some, cond_true]
    exact z3
  | false =>
    refine key n.toNat (by omega) ?_
    rw [z1]
    refine (xs08.eq _ _ _ ?_).symm
    rw [Int.toNat_of_nonneg hn.1] at z1
    simp only [xs08.t, e0, e1, e2, Option.bind_some, cond_false]
    exact z1
end
theorem win_end : (impl_NewWindow.bind fun r => (impl_GoodWindow r.1 r.2.1 r.2.2.1 r.2.2.2.1 r.2.2.2.2).bind fun o => some o) = some true := by
  have e := impl_GoodWindow_eq (f := []) (s := []) (b := []) (m := oneM) (by simp) (by simp) (by simp)
  rw [new_good] at e
  simp only [newWindow_eq, e, Option.bind_some]
theorem win_fold {l : List Mp} {m : Mp} {x : Int} (hl : l.length ≤ 1000) (hg : ∀ y, y ∈ l → goodM y = true) (hm : goodM m = true) (h0 : 0 ≤ x) (h1 : x ≤ 1008) :
    ∀ (n i : Nat) (y : Int), i + n = l.length → 0 ≤ y → y ≤ 1008 → (l.drop i).foldl (fun y m => appM m y) y = appM m x → laws_FnWindows.l25 l m.1 m.2 true x y (l.length : Int) (i : Int) = some true
  | 0, i, y, hi, y0, y1, hf => by
    have e : i = l.length := by omega
    subst e
    rw [List.drop_length, List.foldl_nil] at hf
    subst hf
    have hne : (appM m x != appM m x) = false := by simp
    refine laws_FnWindows.eq25 _ _ _ _ _ _ _ _ ?_
    simp only [laws_FnWindows.t25, ix_lt, Nat.lt_irrefl, decide_false, cond_false, apply_yes hm h0 h1, Option.bind_some, bang_t, hne]
    exact win_end
  | n + 1, i, y, hi, y0, y1, hf => by
    have g : i < l.length := by omega
    have hx := hg _ (getD_mem ((0 : Int), (0 : Int)) g)
    rw [drop_getD ((0 : Int), (0 : Int)) g, List.foldl_cons] at hf
    obtain ⟨r0, r1⟩ := appM_rest (l.getD i ((0 : Int), (0 : Int))) y
    have ih := win_fold hl hg hm h0 h1 n (i + 1) (appM (l.getD i ((0 : Int), (0 : Int))) y) (by omega) r0 r1 hf
    refine laws_FnWindows.eq25 _ _ _ _ _ _ _ _ ?_
    simp only [laws_FnWindows.t25, ix_lt, ix_nn, ix_nat, dec_t g, cond_true, apply_yes hx y0 y1, Option.bind_some, bang_t, cond_false, wrap_succ (show i < 9223372036854775807 by omega)]
    exact ih
theorem win_three {v : List Int} (hv : Byt v) (hvl : (v.length : Int) ≤ 9223372036854775807) {f s b : List Mp} {m : Mp} (hf : f.length ≤ 300000) (hs : s.length ≤ 300000) (hb : b.length ≤ 300000) :
    laws_FnWindows.l2000020 v f s b m.1 m.2 (bif goodWin f s b m then (itemsW f b, true) else ([], false)).1 (bif goodWin f s b m then (itemsW f b, true) else ([], false)).2 = some true := by
  refine laws_FnWindows.eq2000020 _ _ _ _ _ _ _ _ ?_
  cases hg : goodWin f s b m with
  | false =>
    simp only [laws_FnWindows.t2000020, cond_false]
    exact win_end
  | true =>
    obtain ⟨n, e, e0⟩ := number_ok hvl hv
    have h9 : 0 ≤ n.tmod 1009 := Int.tmod_nonneg _ e0
    have h8 : n.tmod 1009 < 1009 := Int.tmod_lt_of_pos _ (by omega)
    have hi := itemsW_good hg
    have hm : goodM (allM (itemsW f b)) = true := allM_good _ hi
    obtain ⟨l1, l2, l3⟩ := goodWin_len hg
    have k := win_fold (l := itemsW f b) (m := allM (itemsW f b)) (x := n.tmod 1009) (by rw [itemsW_len]; omega) hi hm h9 (by omega) (itemsW f b).length 0 (n.tmod 1009) (by omega) h9 (by omega) (by rw [List.drop_zero]; exact appM_fold _ _ hi h9 (by omega))
    simp only [laws_FnWindows.t2000020, cond_true, impl_WindowSum_eq hg, e, Option.bind_some]
    exact k
theorem FnWindows_true (v0 : List Int) (v1 : List Int) (w0 : WfT (.sl (.int .u8)) v0) (w1 : WfT (.sl (.int .u8)) v1) : laws_FnWindows v0 v1 = some true := by
  refine laws_FnWindows.eq _ _ ?_
  by_cases hc : IntKind.i64.wrap ((v0.length : Int) + (v1.length : Int)) > 1048576
  · simp only [laws_FnWindows.t, dec_t hc, cond_true]
  · have hv : Byt v1 := fun x hx => w1.2 x hx
    have hvl : (v1.length : Int) ≤ 9223372036854775807 := w1.1
    obtain ⟨f, s, b, m, x, e0, h1, h2, h3⟩ := drawPush_ok (b := v0) (fun x hx => w0.2 x hx)
    obtain ⟨pf, ps, pb, pm, pok, p1, p2, p3, p4, p5, hp⟩ := push_both (f := f) (s := s) (b := b) (m := m) (by omega) (by omega) (by omega) x
    obtain ⟨qf, qs, qb, qm, it, mv, qok, q1, q2, q3, q4, q5, hq⟩ := pop_both (f := f) (s := s) (b := b) (m := m) (by omega) (by omega) (by omega)
    have i1 := impl_ItemsIn_eq (f := f) (s := s) (b := b) (m := m) (by omega) (by omega) (by omega)
    have i2 := spec_ItemsIn_eq (f := f) (s := s) (b := b) (m := m) (by omega) (by omega) (by omega)
    have i3 := impl_GoodWindow_eq (f := f) (s := s) (b := b) (m := m) (by omega) (by omega) (by omega)
    have i4 : (bif goodWin f s b m then (itemsW f b, true) else ([], false)).2 = goodWin f s b m := by cases goodWin f s b m <;> rfl
    have i5 := maps_self (bif goodWin f s b m then (itemsW f b, true) else ([], false)).1 (by
      cases goodWin f s b m
      · simp
      · show (itemsW f b).length ≤ _
        rw [itemsW_len]; omega)
    have two : laws_FnWindows.l2000016 v1 f s b m.1 m.2 qf qs qb qm.1 qm.2 it.1 it.2 qok (bif goodWin f s b m then (itemsW f b, true) else ([], false)).1 (bif goodWin f s b m then (itemsW f b, true) else ([], false)).2 = some true := by
      have th := win_three hv hvl (f := f) (s := s) (b := b) (m := m) (by omega) (by omega) (by omega)
      refine laws_FnWindows.eq2000016 _ _ _ _ _ _ _ _ _ _ _ _ _ _ _ _ ?_
      cases qok with
      | false => simp only [laws_FnWindows.t2000016, cond_false]; exact th
      | true =>
        obtain ⟨k1, k2, k3⟩ := hq rfl
        have j1 := impl_ItemsIn_eq (f := qf) (s := qs) (b := qb) (m := qm) (by omega) (by omega) (by omega)
        have j2 := impl_GoodWindow_eq (f := qf) (s := qs) (b := qb) (m := qm) (by omega) (by omega) (by omega)
        have j3 := maps_self (itemsW qf qb) (by rw [itemsW_len]; omega)
        rw [k1] at th ⊢
        rw [k2] at j1 j2
        simp only [cond_true] at th j1 ⊢
        rw [k3] at th ⊢
        have c0 : ((((it :: itemsW qf qb).length : Nat) : Int) == 0) = false := beq_eq_false_iff_ne.2 (by rw [List.length_cons]; omega)
        have c1 : Int.toNat 0 < (it :: itemsW qf qb).length := by rw [List.length_cons, Int.toNat_zero]; omega
        have c2 : (it :: itemsW qf qb).getD (Int.toNat 0) ((0 : Int), (0 : Int)) = it := rfl
        have c3 : (1 : Int) ≤ (((it :: itemsW qf qb).length : Nat) : Int) := by rw [List.length_cons]; omega
        have c4 : List.drop (Int.toNat 1) (it :: itemsW qf qb) = itemsW qf qb := rfl
        simp only [laws_FnWindows.t2000016, cond_true, j1, j2, j3, c0, dec_t c1, c2, Option.getD_some, dec_t c3, c4, Option.bind_some, bang_t, cond_false, decide_true, Bool.and_self]
        exact th
    have one : laws_FnWindows.l2000012 v1 f s b m.1 m.2 x.1 x.2 pf ps pb pm.1 pm.2 pok qf qs qb qm.1 qm.2 it.1 it.2 qok (bif goodWin f s b m then (itemsW f b, true) else ([], false)).1 (bif goodWin f s b m then (itemsW f b, true) else ([], false)).2 = some true := by
      refine laws_FnWindows.eq2000012 _ _ _ _ _ _ _ _ _ _ _ _ _ _ _ _ _ _ _ _ _ _ _ _ ?_
      cases pok with
      | false => simp only [laws_FnWindows.t2000012, cond_false]; exact two
      | true =>
        obtain ⟨k1, k2, k3⟩ := hp rfl
        have j1 := impl_ItemsIn_eq (f := pf) (s := ps) (b := pb) (m := pm) (by omega) (by omega) (by omega)
        have j2 := impl_GoodWindow_eq (f := pf) (s := ps) (b := pb) (m := pm) (by omega) (by omega) (by omega)
        have j3 := maps_self (itemsW f b ++ [x]) (by rw [List.length_append, itemsW_len, List.length_singleton]; omega)
        rw [k1] at two ⊢
        rw [k2, k3] at j1
        rw [k2] at j2
        simp only [cond_true] at two j1 ⊢
        have c1 : ([] : List Int).length + (itemsW f b).length ≤ 4294967296 := by rw [itemsW_len, List.length_nil]; omega
        have c2 : ([] ++ itemsW f b).length + [(x.1, x.2)].length ≤ 4294967296 := by rw [List.nil_append, itemsW_len]; simp only [List.length_cons, List.length_nil]; omega
        have c3 : [] ++ itemsW f b ++ [(x.1, x.2)] = itemsW f b ++ [x] := rfl
        simp only [laws_FnWindows.t2000012, cond_true, j1, j2, dec_t c1, dec_t c2, c3, j3, Option.bind_some, bang_t, cond_false]
        exact two
    simp only [laws_FnWindows.t, dec_f hc, e0, p1, p2, q1, q2, i1, i2, i3, i4, i5, win_self (f := pf) (s := ps) (b := pb) (m := pm) (by omega) (by omega) (by omega), win_self (f := qf) (s := qs) (b := qb) (m := qm) (by omega) (by omega) (by omega), Option.bind_some, beq_ref, bne_ref, bang_t, cond_false, decide_true, Bool.and_self]
    rw [i4] at one
    exact one
end GoV

/- FnWindows: its core is the law. -/
