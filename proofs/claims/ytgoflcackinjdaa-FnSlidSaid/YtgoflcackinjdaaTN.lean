/- A part of the proof of FnSlid: an interpreter of the model over plain data, its soundness, and what it makes of the functions that the statement reaches. Conditions: none beyond what the given statement itself says. -/
import Derived.Test.YtgoflcackinjdaaTM
set_option linter.unusedVariables false
set_option linter.unusedSimpArgs false
set_option linter.unnecessarySimpa false
set_option linter.unusedSectionVars false
/- Windows of maps: alike for the program and its specification. -/
namespace GoV
open Go
theorem spec_GoodMap_eq (a b : Int) : spec_GoodMap a b = some (goodM (a, b)) := by
  refine spec_GoodMap.eq a b ?_
  simp only [spec_GoodMap.t, spec_l1In_eq, Option.bind_some]
  have e : goodM (a, b) = (inB 0 1008 a && inB 0 1008 b) := rfl
  rw [e]
  cases inB 0 1008 a <;> rfl
theorem impl_GoodMap_eq (a b : Int) : impl_GoodMap a b = some (goodM (a, b)) := by
  have h : ∀ n, impl_isRest n = some (inB 0 1008 n) := fun n => impl_isRest.eq n (by simp only [impl_isRest.t, impl_within_eq, Option.bind_some])
  refine impl_GoodMap.eq a b ?_
  simp only [impl_GoodMap.t, h, Option.bind_some]
  have e : goodM (a, b) = (inB 0 1008 a && inB 0 1008 b) := rfl
  rw [e]
  cases inB 0 1008 a <;> rfl
theorem prodM {a b : Int} (ha : 0 ≤ a ∧ a ≤ 1008) (hb : 0 ≤ b ∧ b ≤ 1008) : 0 ≤ a * b ∧ a * b ≤ 1016064 := by
  have := Int.mul_le_mul ha.2 hb.2 hb.1 (by omega)
  exact ⟨Int.mul_nonneg ha.1 hb.1, by omega⟩
theorem then_vals {m n : Mp} (hm : goodM m = true) (hn : goodM n = true) : (IntKind.i64.wrap (n.1 * m.1)).tmod 1009 = (thenP m n).1 ∧ (IntKind.i64.wrap (m.1 * n.1)).tmod 1009 = (thenP m n).1 ∧ (IntKind.i64.wrap (IntKind.i64.wrap (n.1 * m.2) + n.2)).tmod 1009 = (thenP m n).2 := by
  obtain ⟨⟨a1, a2⟩, a3, a4⟩ := goodM_iff.1 hm
  obtain ⟨⟨b1, b2⟩, b3, b4⟩ := goodM_iff.1 hn
  have p1 := prodM ⟨b1, b2⟩ ⟨a1, a2⟩
  have p2 := prodM ⟨b1, b2⟩ ⟨a3, a4⟩
  have e : m.1 * n.1 = n.1 * m.1 := Int.mul_comm _ _
  refine ⟨?_, ?_, ?_⟩
  · rw [wrap_id (by omega) (by omega), Int.tmod_eq_emod_of_nonneg p1.1]; rfl
  · rw [e, wrap_id (by omega) (by omega), Int.tmod_eq_emod_of_nonneg p1.1]; rfl
  · rw [wrap_id (x := n.1 * m.2) (by omega) (by omega), wrap_id (by omega) (by omega), Int.tmod_eq_emod_of_nonneg (by omega)]; rfl
theorem spec_l17Then_eq {m n : Mp} (hm : goodM m = true) (hn : goodM n = true) : spec_l17Then m.1 m.2 n.1 n.2 = some (thenP m n) := by
  obtain ⟨h1, h2, h3⟩ := then_vals hm hn
  refine spec_l17Then.eq _ _ _ _ ?_
  simp only [spec_l17Then.t, h2, h3]
theorem impl_then_eq {m n : Mp} (hm : goodM m = true) (hn : goodM n = true) : impl_Map_then m.1 m.2 n.1 n.2 = some (thenP m n) := by
  obtain ⟨h1, h2, h3⟩ := then_vals hm hn
  refine impl_Map_then.eq _ _ _ _ ?_
  simp only [impl_Map_then.t, h1, h3]
theorem spec_one_eq : spec_l17One = some oneM := spec_l17One.eq rfl
theorem impl_same_eq : impl_same = some oneM := impl_same.eq rfl
theorem spec_l17All_eq {l : List Mp} (hl : l.length ≤ 1073741824) (hg : ∀ m, m ∈ l → goodM m = true) : spec_l17All l = some (allM l) := by
  refine spec_l17All.eq l ?_
  simp only [spec_l17All.t, spec_one_eq, Option.bind_some]
  refine fold_loop l ((0 : Int), (0 : Int)) (fun (s : Mp) i => spec_l17All.l3 0 0 s.1 s.2 l (l.length : Int) (i : Int)) thenP (fun s => goodM s = true) some ?_ (fun s i hi _ => thenP_good _ _) ?_ oneM _ oneM_good rfl
  · intro s b _ hb
    exact spec_l17All.eq3 _ _ _ _ _ _ _ (by simp only [spec_l17All.t3, ix_lt, Nat.lt_irrefl, decide_false, cond_false]; exact hb)
  · intro s i b hi hs hb
    have hm := hg _ (getD_mem ((0 : Int), (0 : Int)) hi)
    refine spec_l17All.eq3 _ _ _ _ _ _ _ ?_
    simp only [spec_l17All.t3, ix_lt, ix_nn, ix_nat, dec_t hi, cond_true, spec_l17Then_eq hs hm, Option.bind_some, wrap_succ (show i < 9223372036854775807 by omega)]
    exact hb
theorem impl_composed_eq {l : List Mp} (hl : l.length ≤ 1073741824) (hg : ∀ m, m ∈ l → goodM m = true) : impl_composed l = some (allM l) := by
  refine impl_composed.eq l ?_
  simp only [impl_composed.t, impl_same_eq, Option.bind_some]
  refine fold_loop l ((0 : Int), (0 : Int)) (fun (s : Mp) i => impl_composed.l3 0 0 s.1 s.2 l (l.length : Int) (i : Int)) thenP (fun s => goodM s = true) some ?_ (fun s i hi _ => thenP_good _ _) ?_ oneM _ oneM_good rfl
  · intro s b _ hb
    exact impl_composed.eq3 _ _ _ _ _ _ _ (by simp only [impl_composed.t3, ix_lt, Nat.lt_irrefl, decide_false, cond_false]; exact hb)
  · intro s i b hi hs hb
    have hm := hg _ (getD_mem ((0 : Int), (0 : Int)) hi)
    refine impl_composed.eq3 _ _ _ _ _ _ _ ?_
    simp only [impl_composed.t3, ix_lt, ix_nn, ix_nat, dec_t hi, cond_true, impl_then_eq hs hm, Option.bind_some, wrap_succ (show i < 9223372036854775807 by omega)]
    exact hb
theorem drop_cons_at {α : Type} {l r : List α} {i : Nat} {x z : α} (h : l.drop i = x :: r) : i < l.length ∧ l.getD i z = x ∧ l.drop (i + 1) = r := by
  have h1 : i < l.length := by
    apply Classical.byContradiction
    intro hn
    rw [List.drop_eq_nil_of_le (by omega)] at h
    cases h
  rw [drop_getD z h1] at h
  injection h with h2 h3
  exact ⟨h1, h2, h3⟩
theorem drop_nil_at {α : Type} {l : List α} {i : Nat} (h : l.drop i = []) (hi : i ≤ l.length) : i = l.length := by
  have := List.drop_eq_nil_iff.1 h
  omega
theorem impl_sumsOf_eq {l : List Mp} (hl : l.length ≤ 1073741824) (hg : ∀ m, m ∈ l → goodM m = true) : impl_sumsOf l = some (sumsM oneM l) := by
  have key : ∀ (r : List Mp) (i : Nat) (acc : List Mp) (s : Mp), i ≤ l.length → l.drop i = r → goodM s = true → acc.length ≤ i → impl_sumsOf.l4 acc s.1 s.2 l (l.length : Int) (i : Int) = some (acc ++ sumsM s r) := by
    intro r
    induction r with
    | nil =>
      intro i acc s hil hd _ _
      have hi := drop_nil_at hd hil
      subst hi
      exact impl_sumsOf.eq4 _ _ _ _ _ _ (by simp only [impl_sumsOf.t4, ix_lt, Nat.lt_irrefl, decide_false, cond_false, sumsM, List.append_nil])
    | cons x r ih =>
      intro i acc s _ hd hs ha
      obtain ⟨hi, hx, hd2⟩ := drop_cons_at (z := ((0 : Int), (0 : Int))) hd
      have hm := hg x (by rw [← hx]; exact getD_mem _ hi)
      have h2 : acc.length + [((thenP x s).1, (thenP x s).2)].length ≤ 4294967296 := by simp only [List.length_cons, List.length_nil]; omega
      refine impl_sumsOf.eq4 _ _ _ _ _ _ ?_
      simp only [impl_sumsOf.t4, ix_lt, ix_nn, ix_nat, dec_t hi, cond_true, hx, impl_then_eq hm hs, Option.bind_some, dec_t h2, wrap_succ (show i < 9223372036854775807 by omega)]
      rw [ih (i + 1) _ (thenP x s) (by omega) hd2 (thenP_good _ _) (by rw [List.length_append, List.length_singleton]; omega), sumsM, List.append_assoc]
      rfl
  refine impl_sumsOf.eq l ?_
  simp only [impl_sumsOf.t, impl_same_eq, Option.bind_some]
  exact key l 0 [] oneM (Nat.zero_le _) rfl oneM_good (Nat.le_refl _)
theorem eqM_dec (a b : Mp) : (decide (a.1 = b.1) && (decide (a.2 = b.2) && true)) = decide (a = b) := by
  refine bool_eq ?_
  simp only [Bool.and_eq_true, decide_eq_true_eq, and_true]
  exact ⟨fun h => Prod.ext h.1 h.2, fun h => by rw [h]; exact ⟨rfl, rfl⟩⟩
theorem slices_Equal_Map_eq (a b : List Mp) (ha : a.length ≤ 1073741824) : xs06 a b = some (decide (a = b)) := by
  refine xs06.eq a b ?_
  simp only [xs06.t, bneI]
  by_cases hl : a.length = b.length
  · have key : ∀ i, i ≤ a.length → xs06.l4 a b (a.length : Int) (i : Int) = some (decide (a.drop i = b.drop i)) := by
      refine upto ?_ ?_
      · have e1 : a.drop a.length = [] := List.drop_length
        have e2 : b.drop a.length = [] := by rw [hl, List.drop_length]
        rw [e1, e2]
        exact xs06.eq4 _ _ _ _ (by simp only [xs06.t4, ix_lt, Nat.lt_irrefl, decide_false, cond_false]; rfl)
      · intro i hi ih
        have hi2 : i < b.length := by omega
        refine xs06.eq4 _ _ _ _ ?_
        simp only [xs06.t4, ix_lt, ix_nn, ix_nat, dec_t hi, dec_t hi2, cond_true, wrap_succ (show i < 9223372036854775807 by omega), eqM_dec]
        rw [drop_getD ((0 : Int), (0 : Int)) hi, drop_getD ((0 : Int), (0 : Int)) hi2]
        by_cases he : a.getD i ((0 : Int), (0 : Int)) = b.getD i ((0 : Int), (0 : Int))
        · simp only [dec_t he, bang_t, cond_false]
          rw [ih, he]
          congr 1
          exact bool_eq (by simp)
        · have hn : ¬ (a.getD i ((0 : Int), (0 : Int)) :: a.drop (i + 1) = b.getD i ((0 : Int), (0 : Int)) :: b.drop (i + 1)) := fun h => he (by injection h)
          simp only [dec_f he, bang_f, cond_true, dec_f hn]
    simp only [dec_t hl, bang_t, cond_false]
    have k := key 0 (Nat.zero_le _)
    rw [List.drop_zero, List.drop_zero] at k
    exact k
  · have hn : ¬ a = b := fun h => hl (by rw [h])
    simp only [dec_f hl, bang_f, cond_true, dec_f hn]
/-! ## Good windows -/
def goodWin (f s b : List Mp) (m : Mp) : Bool := (decide (s.length = f.length) && decide (f.length + b.length ≤ 60)) && (f.all goodM && (b.all goodM && (decide (s = sumsM oneM f) && decide (m = allM b))))
theorem sumsM_take : ∀ (l : List Mp) (s : Mp) (n : Nat), sumsM s (l.take n) = (sumsM s l).take n
  | [], s, n => by simp [sumsM]
  | m :: l, s, 0 => by simp [sumsM]
  | m :: l, s, n + 1 => by rw [List.take_succ_cons, sumsM, sumsM, List.take_succ_cons, sumsM_take l]
theorem sums_at {f : List Mp} {i : Nat} (hi : i < f.length) (hg : ∀ k, k ≤ i → goodM (f.getD k ((0 : Int), (0 : Int))) = true) : (sumsM oneM f).getD i ((0 : Int), (0 : Int)) = allM (f.take (i + 1)).reverse := by
  have hm : ∀ x, x ∈ f.take (i + 1) → goodM x = true := fun x hx => by
    obtain ⟨k, hk, rfl⟩ := List.mem_iff_getElem.1 hx
    rw [List.length_take] at hk
    have := hg k (by omega)
    rw [getD_of_lt (by omega)] at this
    rw [List.getElem_take]
    exact this
  have k := sumsM_at (f.take (i + 1)) [] i (by rw [List.length_take]; omega) (by simpa using hm)
  have e : allM ([] : List Mp).reverse = oneM := rfl
  rw [e, sumsM_take, List.nil_append, List.take_take, Nat.min_self] at k
  rw [← k]
  have hlen := sumsM_len oneM f
  rw [getD_of_lt (by omega), getD_of_lt (by rw [List.length_take]; omega), List.getElem_take]
def winB (f s : List Mp) (i : Nat) : Bool := goodM (f.getD i ((0 : Int), (0 : Int))) && decide (s.getD i ((0 : Int), (0 : Int)) = (sumsM oneM f).getD i ((0 : Int), (0 : Int)))
theorem allR_win {f s : List Mp} (h0 : s.length = f.length) : allR (winB f s) 0 f.length = (f.all goodM && decide (s = sumsM oneM f)) := by
  refine bool_eq ?_
  simp only [allR_iff, winB, Bool.and_eq_true, decide_eq_true_eq, List.all_eq_true]
  constructor
  · intro h
    refine ⟨fun x hx => ?_, ?_⟩
    · obtain ⟨k, hk, rfl⟩ := List.mem_iff_getElem.1 hx
      have := (h k (Nat.zero_le _) hk).1
      rwa [getD_of_lt hk] at this
    · refine List.ext_getElem (by rw [h0, sumsM_len]) fun k h1 h2 => ?_
      have := (h k (Nat.zero_le _) (by omega)).2
      rwa [getD_of_lt h1, getD_of_lt h2] at this
  · rintro ⟨h1, h2⟩ k _ hk
    exact ⟨h1 _ (getD_mem _ hk), by rw [h2]⟩
section
variable {f s b : List Mp} {m : Mp} (hf : f.length ≤ 1073741824) (hs : s.length ≤ 1073741824) (hb : b.length ≤ 1073741824)
include hf hs hb
theorem impl_GoodWindow_eq : impl_GoodWindow f s b m.1 m.2 = some (goodWin f s b m) := by
  have e1 := xi04_ok f goodM (by omega) (fun x _ => impl_GoodMap_eq x.1 x.2)
  have e2 := xi04_ok b goodM (by omega) (fun x _ => impl_GoodMap_eq x.1 x.2)
  have hw : IntKind.i64.wrap ((f.length : Int) + (b.length : Int)) = ((f.length + b.length : Nat) : Int) := by rw [wrap_id] <;> omega
  have hd : decide (((f.length + b.length : Nat) : Int) ≤ 60) = decide (f.length + b.length ≤ 60) := bool_eq (by simp only [decide_eq_true_eq]; omega)
  refine impl_GoodWindow.eq _ _ _ _ _ ?_
  simp only [impl_GoodWindow.t, e1, e2, Option.bind_some, hw, hd]
  unfold goodWin
  cases h1 : f.all goodM
  · simp
  · cases h2 : b.all goodM
    · simp
    · have g1 : ∀ x, x ∈ f → goodM x = true := fun x hx => List.all_eq_true.1 h1 x hx
      have g2 : ∀ x, x ∈ b → goodM x = true := fun x hx => List.all_eq_true.1 h2 x hx
      simp only [cond_true, impl_sumsOf_eq hf g1, slices_Equal_Map_eq s _ hs, impl_composed_eq hb g2, Option.bind_some, eqM_dec, Bool.true_and]
      cases h3 : decide (f.length + b.length ≤ 60)
      · simp
      · by_cases h4 : s = sumsM oneM f
        · have h5 : s.length = f.length := by rw [h4, sumsM_len]
          simp only [dec_t h4, dec_t h5, cond_true, Bool.true_and]
        · simp only [dec_f h4, cond_true, cond_false, Bool.false_and, Bool.and_false]
end
end GoV

/- Windows: what taking the eldest map gives. -/
namespace GoV
open Go
theorem getD_set {α : Type} {l : List α} {i k : Nat} {x z : α} (hk : k < l.length) : (l.set i x).getD k z = if i = k then x else l.getD k z := by
  rw [getD_of_lt (by rw [List.length_set]; exact hk), getD_of_lt hk, List.getElem_set]
theorem rev_loop {N : Nat} (hN : N ≤ 1073741824) : ∀ (n i j : Nat) (d : List Mp), d.length = N → i + j + 1 = N → i ≤ j + 1 → j + 1 - i ≤ n →
    ∃ r, xs02.l1 d (i : Int) (j : Int) = some r ∧ r.length = N ∧ ∀ k, k < N → r.getD k ((0 : Int), (0 : Int)) = if i ≤ k ∧ k ≤ j then d.getD (N - 1 - k) ((0 : Int), (0 : Int)) else d.getD k ((0 : Int), (0 : Int)) := by
  intro n
  induction n with
  | zero =>
    intro i j d hd hs hij hn
    have h1 : ¬ i < j := by omega
    refine ⟨d, xs02.eq1 _ _ _ (by simp only [xs02.t1, ix_lt, dec_f h1, cond_false]), hd, fun k hk => ?_⟩
    rw [if_neg (by omega)]
  | succ n ih =>
    intro i j d hd hs hij hn
    by_cases h1 : i < j
    · have hi : i < d.length := by omega
      have hj : j < d.length := by omega
      obtain ⟨r, g1, g2, g3⟩ := ih (i + 1) (j - 1) ((d.set i ((d.getD j ((0 : Int), (0 : Int))).fst, (d.getD j ((0 : Int), (0 : Int))).snd)).set j ((d.getD i ((0 : Int), (0 : Int))).fst, (d.getD i ((0 : Int), (0 : Int))).snd)) (by simp only [List.length_set]; exact hd) (by omega) (by omega) (by omega)
      refine ⟨r, xs02.eq1 _ _ _ (by simp only [xs02.t1, ix_lt, dec_t h1, ix_nn, ix_nat, dec_t hi, dec_t hj, List.length_set, cond_true, wrap_succ (show i < 9223372036854775807 by omega), wrap_pred (show 0 < j by omega) (by omega)]; exact g1), g2, fun k hk => ?_⟩
      rw [g3 k hk]
      have hset : ∀ q, q < N → ((d.set i ((d.getD j ((0 : Int), (0 : Int))).fst, (d.getD j ((0 : Int), (0 : Int))).snd)).set j ((d.getD i ((0 : Int), (0 : Int))).fst, (d.getD i ((0 : Int), (0 : Int))).snd)).getD q ((0 : Int), (0 : Int)) = if j = q then d.getD i ((0 : Int), (0 : Int)) else if i = q then d.getD j ((0 : Int), (0 : Int)) else d.getD q ((0 : Int), (0 : Int)) := fun q hq => by
        rw [getD_set (by rw [List.length_set]; omega), getD_set (by omega)]
      by_cases h2 : i + 1 ≤ k ∧ k ≤ j - 1
      · rw [if_pos h2, if_pos (by omega), hset _ (by omega), if_neg (by omega), if_neg (by omega)]
      · rw [if_neg h2, hset _ hk]
        by_cases h3 : j = k
        · rw [if_pos h3, if_pos (by omega), show N - 1 - k = i by omega]
        · rw [if_neg h3]
          by_cases h4 : i = k
          · rw [if_pos h4, if_pos (by omega), show N - 1 - k = j by omega]
          · rw [if_neg h4, if_neg (by omega)]
    · refine ⟨d, xs02.eq1 _ _ _ (by simp only [xs02.t1, ix_lt, dec_f h1, cond_false]), hd, fun k hk => ?_⟩
      by_cases h2 : i ≤ k ∧ k ≤ j
      · rw [if_pos h2, show N - 1 - k = k by omega]
      · rw [if_neg h2]
theorem slices_Reverse_eq (l : List Mp) (hl : l.length ≤ 1073741824) : xs02 l = some l.reverse := by
  refine xs02.eq l ?_
  simp only [xs02.t]
  by_cases h0 : l.length = 0
  · have e : l = [] := List.length_eq_zero_iff.1 h0
    subst e
    have e1 : IntKind.i64.wrap (((([] : List Mp).length : Nat) : Int) - 1) = -1 := rfl
    have e2 : ¬ ((0 : Int) < -1) := by omega
    rw [e1]
    exact xs02.eq1 _ _ _ (by simp only [xs02.t1, dec_f e2, cond_false, List.reverse_nil])
  · rw [wrap_pred (by omega) (by omega)]
    obtain ⟨r, g1, g2, g3⟩ := rev_loop (N := l.length) hl (l.length + 1) 0 (l.length - 1) l rfl (by omega) (by omega) (by omega)
    have e : r = l.reverse := by
      refine List.ext_getElem (by rw [g2, List.length_reverse]) fun k h1 h2 => ?_
      have := g3 k (by omega)
      rw [if_pos (by omega), getD_of_lt h1, getD_of_lt (by omega)] at this
      rw [this, List.getElem_reverse]
    rw [← e]
    exact g1
theorem slices_Clone_Map_eq (r : List Mp) (hl : r.length ≤ 1073741824) : xs05 r = some r := by
  refine xs05.eq r ?_
  have : r.length ≤ 4294967296 := by omega
  simp only [xs05.t, dec_t this, cond_true]
section
variable {f s b : List Mp} {m : Mp} (hf : f.length ≤ 1073741824) (hs : s.length ≤ 1073741824) (hb : b.length ≤ 1073741824)
include hf hs hb
theorem impl_own_eq : impl_Window_own f s b m.1 m.2 = some (f, s, b, m.1, m.2) := impl_Window_own.eq _ _ _ _ _ (by simp only [impl_Window_own.t, slices_Clone_Map_eq f hf, slices_Clone_Map_eq s hs, slices_Clone_Map_eq b hb, Option.bind_some])
end
/-- A window behind a map taken: what stood in front, its sums, what stands behind, its sum, how many went over. -/
def popF (f b : List Mp) : List Mp := if f = [] then b.reverse else f
def popS (f s b : List Mp) : List Mp := if f = [] then sumsM oneM b.reverse else s
theorem take_to {n : Nat} {α : Type} (l : List α) : List.take (((n : Nat) : Int) - 0).toNat (List.drop (Int.toNat 0) l) = l.take n := by
  rw [Int.sub_zero, Int.toNat_natCast]; rfl
theorem impl_pop_eq {f s b : List Mp} {m : Mp} (h60 : f.length + b.length ≤ 60) (hs : s.length = f.length) (hb : ∀ x, x ∈ b → goodM x = true) (hne : 0 < f.length + b.length) :
    xi0b f s b m.1 m.2 = some (((popF f b).getD ((popF f b).length - 1) ((0 : Int), (0 : Int))).1, ((popF f b).getD ((popF f b).length - 1) ((0 : Int), (0 : Int))).2, (if f = [] then (b.length : Int) else 0), (popF f b).take ((popF f b).length - 1), (popS f s b).take ((popF f b).length - 1), (if f = [] then [] else b), (if f = [] then oneM else m).1, (if f = [] then oneM else m).2) := by
  refine xi0b.eq _ _ _ _ _ ?_
  by_cases hf : f = []
  · subst hf
    simp only [List.length_nil] at h60 hne
    have hlen : b.reverse.length = b.length := List.length_reverse
    have hr := slices_Reverse_eq b (by omega)
    have hg : ∀ x, x ∈ b.reverse → goodM x = true := fun x hx => hb x (List.mem_reverse.1 hx)
    have hsum := impl_sumsOf_eq (l := b.reverse) (by omega) hg
    have h1 : b.reverse.length - 1 < b.reverse.length := by omega
    have h2 : (0 : Int) ≤ ((b.reverse.length - 1 : Nat) : Int) := by omega
    have h3 : ((b.reverse.length - 1 : Nat) : Int) ≤ (b.reverse.length : Int) := by omega
    have h4 : ((b.reverse.length - 1 : Nat) : Int) ≤ ((sumsM oneM b.reverse).length : Int) := by rw [sumsM_len]; omega
    have h0 : (((([] : List Mp).length : Nat) : Int) == 0) = true := rfl
    simp only [xi0b.t, h0, cond_true, hr, hsum, impl_same_eq, Option.bind_some, wrap_pred (show 0 < b.reverse.length by omega) (show b.reverse.length < 9223372036854775807 by omega), ix_nn, ix_nat, dec_t h1, Option.getD_none, dec_t h2, dec_t h3, dec_t h4, take_to, popF, popS, if_true]
  · have hpos : 0 < f.length := List.length_pos_iff.2 hf
    have h1 : f.length - 1 < f.length := by omega
    have h2 : (0 : Int) ≤ ((f.length - 1 : Nat) : Int) := by omega
    have h3 : ((f.length - 1 : Nat) : Int) ≤ (f.length : Int) := by omega
    have h4 : ((f.length - 1 : Nat) : Int) ≤ (s.length : Int) := by omega
    have h0 : ((f.length : Int) == 0) = false := beq_eq_false_iff_ne.2 (by omega)
    simp only [xi0b.t, h0, cond_true, cond_false, wrap_pred hpos (show f.length < 9223372036854775807 by omega), ix_nn, ix_nat, dec_t h1, Option.getD_none, dec_t h2, dec_t h3, dec_t h4, take_to, popF, popS, if_neg hf]
end GoV
