/- A part of the proof of FnWindows: an interpreter of the model over plain data, its soundness, and what it makes of the functions that the statement reaches. Conditions: none beyond what the given statement itself says. -/
import Derived.Test.YtgoflcackinjdaaTM
set_option linter.unusedVariables false
set_option linter.unusedSimpArgs false
set_option linter.unnecessarySimpa false
set_option linter.unusedSectionVars false
/- Windows of maps: alike for the program and its specification. -/
namespace GoV
open Go
theorem spec_GoodMap_eq (a b : Int) : spec_GoodMap a b = some (goodM (a, b)) := by
  refine spec_GoodMap.eq a b ?_
  simp only [spec_GoodMap.t, spec_l1In_eq, Option.bind_some]
  have e : goodM (a, b) = (inB 0 1008 a && inB 0 1008 b) := rfl
  rw [e]
  cases inB 0 1008 a <;> rfl
theorem impl_GoodMap_eq (a b : Int) : impl_GoodMap a b = some (goodM (a, b)) := by
  have h : ∀ n, impl_isRest n = some (inB 0 1008 n) := fun n => impl_isRest.eq n (by simp only [impl_isRest.t, impl_within_eq, Option.bind_some])
  refine impl_GoodMap.eq a b ?_
  simp only [impl_GoodMap.t, h, Option.bind_some]
  have e : goodM (a, b) = (inB 0 1008 a && inB 0 1008 b) := rfl
  rw [e]
  cases inB 0 1008 a <;> rfl
theorem prodM {a b : Int} (ha : 0 ≤ a ∧ a ≤ 1008) (hb : 0 ≤ b ∧ b ≤ 1008) : 0 ≤ a * b ∧ a * b ≤ 1016064 := by
  have := Int.mul_le_mul ha.2 hb.2 hb.1 (by omega)
  exact ⟨Int.mul_nonneg ha.1 hb.1, by omega⟩
theorem then_vals {m n : Mp} (hm : goodM m = true) (hn : goodM n = true) : (IntKind.i64.wrap (n.1 * m.1)).tmod 1009 = (thenP m n).1 ∧ (IntKind.i64.wrap (m.1 * n.1)).tmod 1009 = (thenP m n).1 ∧ (IntKind.i64.wrap (IntKind.i64.wrap (n.1 * m.2) + n.2)).tmod 1009 = (thenP m n).2 := by
  obtain ⟨⟨a1, a2⟩, a3, a4⟩ := goodM_iff.1 hm
  obtain ⟨⟨b1, b2⟩, b3, b4⟩ := goodM_iff.1 hn
  have p1 := prodM ⟨b1, b2⟩ ⟨a1, a2⟩
  have p2 := prodM ⟨b1, b2⟩ ⟨a3, a4⟩
  have e : m.1 * n.1 = n.1 * m.1 := Int.mul_comm _ _
  refine ⟨?_, ?_, ?_⟩
  · rw [wrap_id (by omega) (by omega), Int.tmod_eq_emod_of_nonneg p1.1]; rfl
  · rw [e, wrap_id (by omega) (by omega), Int.tmod_eq_emod_of_nonneg p1.1]; rfl
  · rw [wrap_id (x := n.1 * m.2) (by omega) (by omega), wrap_id (by omega) (by omega), Int.tmod_eq_emod_of_nonneg (by omega)]; rfl
theorem spec_l17Then_eq {m n : Mp} (hm : goodM m = true) (hn : goodM n = true) : spec_l17Then m.1 m.2 n.1 n.2 = some (thenP m n) := by
  obtain ⟨h1, h2, h3⟩ := then_vals hm hn
  refine spec_l17Then.eq _ _ _ _ ?_
  simp only [spec_l17Then.t, h2, h3]
theorem impl_then_eq {m n : Mp} (hm : goodM m = true) (hn : goodM n = true) : impl_Map_then m.1 m.2 n.1 n.2 = some (thenP m n) := by
  obtain ⟨h1, h2, h3⟩ := then_vals hm hn
  refine impl_Map_then.eq _ _ _ _ ?_
  simp only [impl_Map_then.t, h1, h3]
theorem spec_one_eq : spec_l17One = some oneM := spec_l17One.eq rfl
theorem impl_same_eq : impl_same = some oneM := impl_same.eq rfl
theorem spec_l17All_eq {l : List Mp} (hl : l.length ≤ 1073741824) (hg : ∀ m, m ∈ l → goodM m = true) : spec_l17All l = some (allM l) := by
  refine spec_l17All.eq l ?_
  simp only [spec_l17All.t, spec_one_eq, Option.bind_some]
  refine fold_loop l ((0 : Int), (0 : Int)) (fun (s : Mp) i => spec_l17All.l3 0 0 s.1 s.2 l (l.length : Int) (i : Int)) thenP (fun s => goodM s = true) some ?_ (fun s i hi _ => thenP_good _ _) ?_ oneM _ oneM_good rfl
  · intro s b _ hb
    exact spec_l17All.eq3 _ _ _ _ _ _ _ (by simp only [spec_l17All.t3, ix_lt, Nat.lt_irrefl, decide_false, cond_false]; exact hb)
  · intro s i b hi hs hb
    have hm := hg _ (getD_mem ((0 : Int), (0 : Int)) hi)
    refine spec_l17All.eq3 _ _ _ _ _ _ _ ?_
    simp only [spec_l17All.t3, ix_lt, ix_nn, ix_nat, dec_t hi, cond_true, spec_l17Then_eq hs hm, Option.bind_some, wrap_succ (show i < 9223372036854775807 by omega)]
    exact hb
theorem impl_composed_eq {l : List Mp} (hl : l.length ≤ 1073741824) (hg : ∀ m, m ∈ l → goodM m = true) : impl_composed l = some (allM l) := by
  refine impl_composed.eq l ?_
  simp only [impl_composed.t, impl_same_eq, Option.bind_some]
  refine fold_loop l ((0 : Int), (0 : Int)) (fun (s : Mp) i => impl_composed.l3 0 0 s.1 s.2 l (l.length : Int) (i : Int)) thenP (fun s => goodM s = true) some ?_ (fun s i hi _ => thenP_good _ _) ?_ oneM _ oneM_good rfl
  · intro s b _ hb
    exact impl_composed.eq3 _ _ _ _ _ _ _ (by simp only [impl_composed.t3, ix_lt, Nat.lt_irrefl, decide_false, cond_false]; exact hb)
  · intro s i b hi hs hb
    have hm := hg _ (getD_mem ((0 : Int), (0 : Int)) hi)
    refine impl_composed.eq3 _ _ _ _ _ _ _ ?_
    simp only [impl_composed.t3, ix_lt, ix_nn, ix_nat, dec_t hi, cond_true, impl_then_eq hs hm, Option.bind_some, wrap_succ (show i < 9223372036854775807 by omega)]
    exact hb
theorem spec_l17Turned_eq (l : List Mp) (hl : l.length ≤ 1073741824) : spec_l17Turned l = some l.reverse := by
  have key : ∀ k, k ≤ l.length → ∀ acc : List Mp, acc.length + k ≤ 1073741824 → spec_l17Turned.l3 l acc ((k : Int) - 1) = some (acc ++ (l.take k).reverse) := by
    intro k
    induction k with
    | zero =>
      intro _ acc _
      refine spec_l17Turned.eq3 _ _ _ ?_
      have h0 : ¬ (((0 : Nat) : Int) - 1 ≥ 0) := by omega
      simp only [spec_l17Turned.t3, dec_f h0, cond_false]
      simp
    | succ k ih =>
      intro hk acc ha
      have e : (((k + 1 : Nat) : Int) - 1) = (k : Int) := by omega
      have h0 : (k : Int) ≥ 0 := by omega
      have h1 : k < l.length := by omega
      have h2 : acc.length + [((l.getD k ((0 : Int), (0 : Int))).fst, (l.getD k ((0 : Int), (0 : Int))).snd)].length ≤ 4294967296 := by simp only [List.length_cons, List.length_nil]; omega
      rw [e]
      refine spec_l17Turned.eq3 _ _ _ ?_
      simp only [spec_l17Turned.t3, dec_t h0, ix_nn, ix_nat, dec_t h1, dec_t h2, cond_true]
      rw [wrap_id (by omega) (by omega), ih (by omega) _ (by rw [List.length_append, List.length_singleton]; omega), List.take_succ_eq_append_getElem h1, List.reverse_append, getD_of_lt h1]
      simp
  refine spec_l17Turned.eq l ?_
  simp only [spec_l17Turned.t]
  rw [wrap_id (by omega) (by omega), key l.length (Nat.le_refl _) [] (by simp; omega)]
  simp
theorem drop_cons_at {α : Type} {l r : List α} {i : Nat} {x z : α} (h : l.drop i = x :: r) : i < l.length ∧ l.getD i z = x ∧ l.drop (i + 1) = r := by
  have h1 : i < l.length := by
    apply Classical.byContradiction
    intro hn
    rw [List.drop_eq_nil_of_le (by omega)] at h
    cases h
  rw [drop_getD z h1] at h
  injection h with h2 h3
  exact ⟨h1, h2, h3⟩
theorem drop_nil_at {α : Type} {l : List α} {i : Nat} (h : l.drop i = []) (hi : i ≤ l.length) : i = l.length := by
  have := List.drop_eq_nil_iff.1 h
  omega
theorem impl_sumsOf_eq {l : List Mp} (hl : l.length ≤ 1073741824) (hg : ∀ m, m ∈ l → goodM m = true) : impl_sumsOf l = some (sumsM oneM l) := by
  have key : ∀ (r : List Mp) (i : Nat) (acc : List Mp) (s : Mp), i ≤ l.length → l.drop i = r → goodM s = true → acc.length ≤ i → impl_sumsOf.l4 acc s.1 s.2 l (l.length : Int) (i : Int) = some (acc ++ sumsM s r) := by
    intro r
    induction r with
    | nil =>
      intro i acc s hil hd _ _
      have hi := drop_nil_at hd hil
      subst hi
      exact impl_sumsOf.eq4 _ _ _ _ _ _ (by simp only [impl_sumsOf.t4, ix_lt, Nat.lt_irrefl, decide_false, cond_false, sumsM, List.append_nil])
    | cons x r ih =>
      intro i acc s _ hd hs ha
      obtain ⟨hi, hx, hd2⟩ := drop_cons_at (z := ((0 : Int), (0 : Int))) hd
      have hm := hg x (by rw [← hx]; exact getD_mem _ hi)
      have h2 : acc.length + [((thenP x s).1, (thenP x s).2)].length ≤ 4294967296 := by simp only [List.length_cons, List.length_nil]; omega
      refine impl_sumsOf.eq4 _ _ _ _ _ _ ?_
      simp only [impl_sumsOf.t4, ix_lt, ix_nn, ix_nat, dec_t hi, cond_true, hx, impl_then_eq hm hs, Option.bind_some, dec_t h2, wrap_succ (show i < 9223372036854775807 by omega)]
      rw [ih (i + 1) _ (thenP x s) (by omega) hd2 (thenP_good _ _) (by rw [List.length_append, List.length_singleton]; omega), sumsM, List.append_assoc]
      rfl
  refine impl_sumsOf.eq l ?_
  simp only [impl_sumsOf.t, impl_same_eq, Option.bind_some]
  exact key l 0 [] oneM (Nat.zero_le _) rfl oneM_good (Nat.le_refl _)
theorem eqM_dec (a b : Mp) : (decide (a.1 = b.1) && (decide (a.2 = b.2) && true)) = decide (a = b) := by
  refine bool_eq ?_
  simp only [Bool.and_eq_true, decide_eq_true_eq, and_true]
  exact ⟨fun h => Prod.ext h.1 h.2, fun h => by rw [h]; exact ⟨rfl, rfl⟩⟩
theorem slices_Equal_Map_eq (a b : List Mp) (ha : a.length ≤ 1073741824) : xs06 a b = some (decide (a = b)) := by
  refine xs06.eq a b ?_
  simp only [xs06.t, bneI]
  by_cases hl : a.length = b.length
  · have key : ∀ i, i ≤ a.length → xs06.l4 a b (a.length : Int) (i : Int) = some (decide (a.drop i = b.drop i)) := by
      refine upto ?_ ?_
      · have e1 : a.drop a.length = [] := List.drop_length
        have e2 : b.drop a.length = [] := by rw [hl, List.drop_length]
        rw [e1, e2]
        exact xs06.eq4 _ _ _ _ (by simp only [xs06.t4, ix_lt, Nat.lt_irrefl, decide_false, cond_false]; rfl)
      · intro i hi ih
        have hi2 : i < b.length := by omega
        refine xs06.eq4 _ _ _ _ ?_
        simp only [xs06.t4, ix_lt, ix_nn, ix_nat, dec_t hi, dec_t hi2, cond_true, wrap_succ (show i < 9223372036854775807 by omega), eqM_dec]
        rw [drop_getD ((0 : Int), (0 : Int)) hi, drop_getD ((0 : Int), (0 : Int)) hi2]
        by_cases he : a.getD i ((0 : Int), (0 : Int)) = b.getD i ((0 : Int), (0 : Int))
        · simp only [dec_t he, bang_t, cond_false]
          rw [ih, he]
          congr 1
          exact bool_eq (by simp)
        · have hn : ¬ (a.getD i ((0 : Int), (0 : Int)) :: a.drop (i + 1) = b.getD i ((0 : Int), (0 : Int)) :: b.drop (i + 1)) := fun h => he (by injection h)
          simp only [dec_f he, bang_f, cond_true, dec_f hn]
    simp only [dec_t hl, bang_t, cond_false]
    have k := key 0 (Nat.zero_le _)
    rw [List.drop_zero, List.drop_zero] at k
    exact k
  · have hn : ¬ a = b := fun h => hl (by rw [h])
    simp only [dec_f hl, bang_f, cond_true, dec_f hn]
/-! ## Good windows -/
def goodWin (f s b : List Mp) (m : Mp) : Bool := (decide (s.length = f.length) && decide (f.length + b.length ≤ 60)) && (f.all goodM && (b.all goodM && (decide (s = sumsM oneM f) && decide (m = allM b))))
theorem sumsM_take : ∀ (l : List Mp) (s : Mp) (n : Nat), sumsM s (l.take n) = (sumsM s l).take n
  | [], s, n => by simp [sumsM]
  | m :: l, s, 0 => by simp [sumsM]
  | m :: l, s, n + 1 => by rw [List.take_succ_cons, sumsM, sumsM, List.take_succ_cons, sumsM_take l]
theorem sums_at {f : List Mp} {i : Nat} (hi : i < f.length) (hg : ∀ k, k ≤ i → goodM (f.getD k ((0 : Int), (0 : Int))) = true) : (sumsM oneM f).getD i ((0 : Int), (0 : Int)) = allM (f.take (i + 1)).reverse := by
  have hm : ∀ x, x ∈ f.take (i + 1) → goodM x = true := fun x hx => by
    obtain ⟨k, hk, rfl⟩ := List.mem_iff_getElem.1 hx
    rw [List.length_take] at hk
    have := hg k (by omega)
    rw [getD_of_lt (by omega)] at this
    rw [List.getElem_take]
    exact this
  have k := sumsM_at (f.take (i + 1)) [] i (by rw [List.length_take]; omega) (by simpa using hm)
  have e : allM ([] : List Mp).reverse = oneM := rfl
  rw [e, sumsM_take, List.nil_append, List.take_take, Nat.min_self] at k
  rw [← k]
  have hlen := sumsM_len oneM f
  rw [getD_of_lt (by omega), getD_of_lt (by rw [List.length_take]; omega), List.getElem_take]
def winB (f s : List Mp) (i : Nat) : Bool := goodM (f.getD i ((0 : Int), (0 : Int))) && decide (s.getD i ((0 : Int), (0 : Int)) = (sumsM oneM f).getD i ((0 : Int), (0 : Int)))
theorem allR_win {f s : List Mp} (h0 : s.length = f.length) : allR (winB f s) 0 f.length = (f.all goodM && decide (s = sumsM oneM f)) := by
  refine bool_eq ?_
  simp only [allR_iff, winB, Bool.and_eq_true, decide_eq_true_eq, List.all_eq_true]
  constructor
  · intro h
    refine ⟨fun x hx => ?_, ?_⟩
    · obtain ⟨k, hk, rfl⟩ := List.mem_iff_getElem.1 hx
      have := (h k (Nat.zero_le _) hk).1
      rwa [getD_of_lt hk] at this
    · refine List.ext_getElem (by rw [h0, sumsM_len]) fun k h1 h2 => ?_
      have := (h k (Nat.zero_le _) (by omega)).2
      rwa [getD_of_lt h1, getD_of_lt h2] at this
  · rintro ⟨h1, h2⟩ k _ hk
    exact ⟨h1 _ (getD_mem _ hk), by rw [h2]⟩
section
variable {f s b : List Mp} {m : Mp} (hf : f.length ≤ 1073741824) (hs : s.length ≤ 1073741824) (hb : b.length ≤ 1073741824)
include hf hs hb
theorem impl_GoodWindow_eq : impl_GoodWindow f s b m.1 m.2 = some (goodWin f s b m) := by
  have e1 := xi04_ok f goodM (by omega) (fun x _ => impl_GoodMap_eq x.1 x.2)
  have e2 := xi04_ok b goodM (by omega) (fun x _ => impl_GoodMap_eq x.1 x.2)
  have hw : IntKind.i64.wrap ((f.length : Int) + (b.length : Int)) = ((f.length + b.length : Nat) : Int) := by rw [wrap_id] <;> omega
  have hd : decide (((f.length + b.length : Nat) : Int) ≤ 60) = decide (f.length + b.length ≤ 60) := bool_eq (by simp only [decide_eq_true_eq]; omega)
  refine impl_GoodWindow.eq _ _ _ _ _ ?_
  simp only [impl_GoodWindow.t, e1, e2, Option.bind_some, hw, hd]
  unfold goodWin
  cases h1 : f.all goodM
  · simp
  · cases h2 : b.all goodM
    · simp
    · have g1 : ∀ x, x ∈ f → goodM x = true := fun x hx => List.all_eq_true.1 h1 x hx
      have g2 : ∀ x, x ∈ b → goodM x = true := fun x hx => List.all_eq_true.1 h2 x hx
      simp only [cond_true, impl_sumsOf_eq hf g1, slices_Equal_Map_eq s _ hs, impl_composed_eq hb g2, Option.bind_some, eqM_dec, Bool.true_and]
      cases h3 : decide (f.length + b.length ≤ 60)
      · simp
      · by_cases h4 : s = sumsM oneM f
        · have h5 : s.length = f.length := by rw [h4, sumsM_len]
          simp only [dec_t h4, dec_t h5, cond_true, Bool.true_and]
        · simp only [dec_f h4, cond_true, cond_false, Bool.false_and, Bool.and_false]
theorem spec_GoodWindow_eq : spec_GoodWindow f s b m.1 m.2 = some (goodWin f s b m) := by
  have hw : IntKind.i64.wrap ((f.length : Int) + (b.length : Int)) = ((f.length + b.length : Nat) : Int) := by rw [wrap_id] <;> omega
  refine spec_GoodWindow.eq _ _ _ _ _ ?_
  simp only [spec_GoodWindow.t, hw, bneI]
  by_cases h0 : s.length = f.length
  · by_cases h6 : f.length + b.length ≤ 60
    · have h6' : ¬ (((f.length + b.length : Nat) : Int) > 60) := by omega
      simp only [dec_t h0, dec_f h6', bang_t, cond_false]
      have bad : ∀ i, i < b.length → goodM (b.getD i ((0 : Int), (0 : Int))) = false → spec_GoodWindow.l10 f s b m.1 m.2 b (b.length : Int) (i : Int) = some false := fun i hi hq =>
        spec_GoodWindow.eq10 _ _ _ _ _ _ _ _ (by simp only [spec_GoodWindow.t10, ix_lt, ix_nn, ix_nat, dec_t hi, cond_true, spec_GoodMap_eq, Option.bind_some]; rw [show goodM ((b.getD i ((0 : Int), (0 : Int))).1, (b.getD i ((0 : Int), (0 : Int))).2) = false from hq]; rfl)
      have next : ∀ i c, i < b.length → goodM (b.getD i ((0 : Int), (0 : Int))) = true → spec_GoodWindow.l10 f s b m.1 m.2 b (b.length : Int) ((i + 1 : Nat) : Int) = some c → spec_GoodWindow.l10 f s b m.1 m.2 b (b.length : Int) (i : Int) = some c := fun i c hi hq hc =>
        spec_GoodWindow.eq10 _ _ _ _ _ _ _ _ (by simp only [spec_GoodWindow.t10, ix_lt, ix_nn, ix_nat, dec_t hi, cond_true, spec_GoodMap_eq, Option.bind_some, wrap_succ (show i < 9223372036854775807 by omega)]; rw [show goodM ((b.getD i ((0 : Int), (0 : Int))).1, (b.getD i ((0 : Int), (0 : Int))).2) = true from hq]; exact hc)
      have tail : spec_GoodWindow.l10 f s b m.1 m.2 b (b.length : Int) 0 = some (b.all goodM && decide (m = allM b)) := by
        cases h2 : b.all goodM with
        | false => exact bad_loop (l := b) (z := ((0 : Int), (0 : Int))) (L := fun i => spec_GoodWindow.l10 f s b m.1 m.2 b (b.length : Int) (i : Int)) (p := goodM) bad next h2
        | true =>
          have g2 : ∀ x, x ∈ b → goodM x = true := fun x hx => List.all_eq_true.1 h2 x hx
          refine good_loop (l := b) (z := ((0 : Int), (0 : Int))) (L := fun i => spec_GoodWindow.l10 f s b m.1 m.2 b (b.length : Int) (i : Int)) (p := goodM) next h2 ?_
          refine spec_GoodWindow.eq10 _ _ _ _ _ _ _ _ ?_
          simp only [spec_GoodWindow.t10, ix_lt, Nat.lt_irrefl, decide_false, cond_false, spec_l17All_eq hb g2, Option.bind_some, eqM_dec, Bool.true_and]
      have key : ∀ i, i ≤ f.length → (∀ k, k < i → goodM (f.getD k ((0 : Int), (0 : Int))) = true) → spec_GoodWindow.l4 f s b m.1 m.2 f (f.length : Int) (i : Int) = some (allR (winB f s) i f.length && (b.all goodM && decide (m = allM b))) := by
        refine upto ?_ ?_
        · intro _
          rw [allR_end, Bool.true_and]
          exact spec_GoodWindow.eq4 _ _ _ _ _ _ _ _ (by simp only [spec_GoodWindow.t4, ix_lt, Nat.lt_irrefl, decide_false, cond_false]; exact tail)
        · intro i hi ih hg
          rw [allR_step _ hi]
          have his : i < s.length := by omega
          have hle : (0 : Int) ≤ ((i + 1 : Nat) : Int) := by omega
          have hle2 : ((i + 1 : Nat) : Int) ≤ (f.length : Int) := by omega
          refine spec_GoodWindow.eq4 _ _ _ _ _ _ _ _ ?_
          simp only [spec_GoodWindow.t4, ix_lt, ix_nn, ix_nat, dec_t hi, dec_t his, cond_true, spec_GoodMap_eq, Option.bind_some, wrap_succ (show i < 9223372036854775807 by omega), Option.getD_none, Int.sub_zero, dec_t hle, dec_t hle2, Int.toNat_zero, List.drop_zero]
          cases h1 : goodM (f.getD i ((0 : Int), (0 : Int))) with
          | false =>
            simp only [winB, h1, Bool.false_and]; rfl
          | true =>
            have hg2 : ∀ k, k ≤ i → goodM (f.getD k ((0 : Int), (0 : Int))) = true := fun k hk => by
              by_cases e : k = i
              · rw [e]; exact h1
              · exact hg k (by omega)
            have hrev : ∀ x, x ∈ (f.take (i + 1)).reverse → goodM x = true := fun x hx => by
              rw [List.mem_reverse] at hx
              obtain ⟨k, hk, rfl⟩ := List.mem_iff_getElem.1 hx
              rw [List.length_take] at hk
              have := hg2 k (by omega)
              rw [getD_of_lt (by omega)] at this
              rw [List.getElem_take]
              exact this
            have e1 := spec_l17Turned_eq (f.take (i + 1)) (by rw [List.length_take]; omega)
            have e2 := spec_l17All_eq (l := (f.take (i + 1)).reverse) (by rw [List.length_reverse, List.length_take]; omega) hrev
            simp only [bang_t, cond_false, e1, e2, Option.bind_some, eqM_dec, ← sums_at hi hg2, winB, h1, Bool.true_and]
            cases h3 : decide (s.getD i ((0 : Int), (0 : Int)) = (sumsM oneM f).getD i ((0 : Int), (0 : Int)))
            · rfl
            · simp only [bang_t, cond_false, Bool.true_and]
              exact ih fun k hk => hg2 k (by omega)
      have k := key 0 (Nat.zero_le _) (fun k hk => by omega)
      refine Eq.trans k ?_
      rw [allR_win h0, goodWin, dec_t h0, dec_t h6]
      cases f.all goodM <;> cases decide (s = sumsM oneM f) <;> cases b.all goodM <;> rfl
    · have h6' : ((f.length + b.length : Nat) : Int) > 60 := by omega
      simp only [dec_t h0, dec_t h6', bang_t, cond_false, cond_true, goodWin, dec_f h6, Bool.and_false, Bool.false_and]
  · simp only [dec_f h0, bang_f, cond_true, goodWin, Bool.false_and]
end
end GoV

/- Windows: what taking the eldest map gives. -/
namespace GoV
open Go
theorem getD_set {α : Type} {l : List α} {i k : Nat} {x z : α} (hk : k < l.length) : (l.set i x).getD k z = if i = k then x else l.getD k z := by
  rw [getD_of_lt (by rw [List.length_set]; exact hk), getD_of_lt hk, List.getElem_set]
theorem rev_loop {N : Nat} (hN : N ≤ 1073741824) : ∀ (n i j : Nat) (d : List Mp), d.length = N → i + j + 1 = N → i ≤ j + 1 → j + 1 - i ≤ n →
    ∃ r, xs02.l1 d (i : Int) (j : Int) = some r ∧ r.length = N ∧ ∀ k, k < N → r.getD k ((0 : Int), (0 : Int)) = if i ≤ k ∧ k ≤ j then d.getD (N - 1 - k) ((0 : Int), (0 : Int)) else d.getD k ((0 : Int), (0 : Int)) := by
  intro n
  induction n with
  | zero =>
    intro i j d hd hs hij hn
    have h1 : ¬ i < j := by omega
    refine ⟨d, xs02.eq1 _ _ _ (by simp only [xs02.t1, ix_lt, dec_f h1, cond_false]), hd, fun k hk => ?_⟩
    rw [if_neg (by omega)]
  | succ n ih =>
    intro i j d hd hs hij hn
    by_cases h1 : i < j
    · have hi : i < d.length := by omega
      have hj : j < d.length := by omega
      obtain ⟨r, g1, g2, g3⟩ := ih (i + 1) (j - 1) ((d.set i ((d.getD j ((0 : Int), (0 : Int))).fst, (d.getD j ((0 : Int), (0 : Int))).snd)).set j ((d.getD i ((0 : Int), (0 : Int))).fst, (d.getD i ((0 : Int), (0 : Int))).snd)) (by simp only [List.length_set]; exact hd) (by omega) (by omega) (by omega)
      refine ⟨r, xs02.eq1 _ _ _ (by simp only [xs02.t1, ix_lt, dec_t h1, ix_nn, ix_nat, dec_t hi, dec_t hj, List.length_set, cond_true, wrap_succ (show i < 9223372036854775807 by omega), wrap_pred (show 0 < j by omega) (by omega)]; exact g1), g2, fun k hk => ?_⟩
      rw [g3 k hk]
      have hset : ∀ q, q < N → ((d.set i ((d.getD j ((0 : Int), (0 : Int))).fst, (d.getD j ((0 : Int), (0 : Int))).snd)).set j ((d.getD i ((0 : Int), (0 : Int))).fst, (d.getD i ((0 : Int), (0 : Int))).snd)).getD q ((0 : Int), (0 : Int)) = if j = q then d.getD i ((0 : Int), (0 : Int)) else if i = q then d.getD j ((0 : Int), (0 : Int)) else d.getD q ((0 : Int), (0 : Int)) := fun q hq => by
        rw [getD_set (by rw [List.length_set]; omega), getD_set (by omega)]
      by_cases h2 : i + 1 ≤ k ∧ k ≤ j - 1
      · rw [if_pos h2, if_pos (by omega), hset _ (by omega), if_neg (by omega), if_neg (by omega)]
      · rw [if_neg h2, hset _ hk]
        by_cases h3 : j = k
        · rw [if_pos h3, if_pos (by omega), show N - 1 - k = i by omega]
        · rw [if_neg h3]
          by_cases h4 : i = k
          · rw [if_pos h4, if_pos (by omega), show N - 1 - k = j by omega]
          · rw [if_neg h4, if_neg (by omega)]
    · refine ⟨d, xs02.eq1 _ _ _ (by simp only [xs02.t1, ix_lt, dec_f h1, cond_false]), hd, fun k hk => ?_⟩
      by_cases h2 : i ≤ k ∧ k ≤ j
      · rw [if_pos h2, show N - 1 - k = k by omega]
      · rw [if_neg h2]
theorem slices_Reverse_eq (l : List Mp) (hl : l.length ≤ 1073741824) : xs02 l = some l.reverse := by
  refine xs02.eq l ?_
  simp only [xs02.t]
  by_cases h0 : l.length = 0
  · have e : l = [] := List.length_eq_zero_iff.1 h0
    subst e
    have e1 : IntKind.i64.wrap (((([] : List Mp).length : Nat) : Int) - 1) = -1 := rfl
    have e2 : ¬ ((0 : Int) < -1) := by omega
    rw [e1]
    exact xs02.eq1 _ _ _ (by simp only [xs02.t1, dec_f e2, cond_false, List.reverse_nil])
  · rw [wrap_pred (by omega) (by omega)]
    obtain ⟨r, g1, g2, g3⟩ := rev_loop (N := l.length) hl (l.length + 1) 0 (l.length - 1) l rfl (by omega) (by omega) (by omega)
    have e : r = l.reverse := by
      refine List.ext_getElem (by rw [g2, List.length_reverse]) fun k h1 h2 => ?_
      have := g3 k (by omega)
      rw [if_pos (by omega), getD_of_lt h1, getD_of_lt (by omega)] at this
      rw [this, List.getElem_reverse]
    rw [← e]
    exact g1
theorem slices_Clone_Map_eq (r : List Mp) (hl : r.length ≤ 1073741824) : xs05 r = some r := by
  refine xs05.eq r ?_
  have : r.length ≤ 4294967296 := by omega
  simp only [xs05.t, dec_t this, cond_true]
section
variable {f s b : List Mp} {m : Mp} (hf : f.length ≤ 1073741824) (hs : s.length ≤ 1073741824) (hb : b.length ≤ 1073741824)
include hf hs hb
theorem impl_own_eq : impl_Window_own f s b m.1 m.2 = some (f, s, b, m.1, m.2) := impl_Window_own.eq _ _ _ _ _ (by simp only [impl_Window_own.t, slices_Clone_Map_eq f hf, slices_Clone_Map_eq s hs, slices_Clone_Map_eq b hb, Option.bind_some])
theorem spec_own_eq : spec_l17Own f s b m.1 m.2 = some (f, s, b, m.1, m.2) := by
  have h1 : ([] : List Int).length + f.length ≤ 4294967296 := by simp only [List.length_nil]; omega
  have h2 : ([] : List Int).length + s.length ≤ 4294967296 := by simp only [List.length_nil]; omega
  have h3 : ([] : List Int).length + b.length ≤ 4294967296 := by simp only [List.length_nil]; omega
  exact spec_l17Own.eq _ _ _ _ _ (by simp only [spec_l17Own.t, dec_t h1, dec_t h2, dec_t h3, cond_true, List.nil_append])
end
/-- A window behind a map taken: what stood in front, its sums, what stands behind, its sum, how many went over. -/
def popF (f b : List Mp) : List Mp := if f = [] then b.reverse else f
def popS (f s b : List Mp) : List Mp := if f = [] then sumsM oneM b.reverse else s
theorem take_to {n : Nat} {α : Type} (l : List α) : List.take (((n : Nat) : Int) - 0).toNat (List.drop (Int.toNat 0) l) = l.take n := by
  rw [Int.sub_zero, Int.toNat_natCast]; rfl
theorem spec_turn {b : List Mp} (hb : b.length ≤ 60) (hg : ∀ x, x ∈ b → goodM x = true) {m : Mp} {r : List Mp × List Mp × List Mp × Int × Int × Int × Int × Int × Bool} (h : spec_PopMap.l9 b.reverse (sumsM oneM b.reverse) b m.1 m.2 [] [] [] 0 0 0 0 (b.length : Int) (allM b.reverse.reverse).1 (allM b.reverse.reverse).2 b.reverse (b.reverse.length : Int) (b.reverse.length : Int) = some r) :
    spec_PopMap.l9 [] [] b m.1 m.2 [] [] [] 0 0 0 0 (b.length : Int) oneM.1 oneM.2 b.reverse (b.reverse.length : Int) 0 = some r := by
  have hlen : b.reverse.length = b.length := List.length_reverse
  have key : ∀ (q : List Mp) (i : Nat) (f s : List Mp) (u : Mp), i ≤ b.reverse.length → b.reverse.drop i = q → goodM u = true → f.length ≤ i → s.length ≤ i →
      spec_PopMap.l9 (f ++ q) (s ++ sumsM u q) b m.1 m.2 [] [] [] 0 0 0 0 (b.length : Int) (q.foldl (fun a x => thenP x a) u).1 (q.foldl (fun a x => thenP x a) u).2 b.reverse (b.reverse.length : Int) (b.reverse.length : Int) = some r →
      spec_PopMap.l9 f s b m.1 m.2 [] [] [] 0 0 0 0 (b.length : Int) u.1 u.2 b.reverse (b.reverse.length : Int) (i : Int) = some r := by
    intro q
    induction q with
    | nil =>
      intro i f s u hi hd _ _ _ hr
      have e := drop_nil_at hd hi
      subst e
      simpa [sumsM] using hr
    | cons x q ih =>
      intro i f s u _ hd hu h1 h2 hr
      obtain ⟨hi, hx, hd2⟩ := drop_cons_at (z := ((0 : Int), (0 : Int))) hd
      have hm : goodM x = true := hg x (by rw [← List.mem_reverse, ← hx]; exact getD_mem _ hi)
      have k1 : f.length + [(x.fst, x.snd)].length ≤ 4294967296 := by simp only [List.length_cons, List.length_nil]; omega
      have k2 : s.length + [((thenP x u).fst, (thenP x u).snd)].length ≤ 4294967296 := by simp only [List.length_cons, List.length_nil]; omega
      refine spec_PopMap.eq9 _ _ _ _ _ _ _ _ _ _ _ _ _ _ _ _ _ _ ?_
      simp only [spec_PopMap.t9, ix_lt, ix_nn, ix_nat, dec_t hi, cond_true, hx, spec_l17Then_eq hm hu, Option.bind_some, dec_t k1, dec_t k2, wrap_succ (show i < 9223372036854775807 by omega)]
      refine ih (i + 1) _ _ (thenP x u) (by omega) hd2 (thenP_good _ _) (by rw [List.length_append, List.length_singleton]; omega) (by rw [List.length_append, List.length_singleton]; omega) ?_
      rw [sumsM, List.foldl_cons] at hr
      rw [List.append_assoc, List.append_assoc]
      exact hr
  have e : ∀ (q : List Mp) (u : Mp), (∀ x, x ∈ q → goodM x = true) → goodM u = true → q.foldl (fun a x => thenP x a) u = thenP (allM q.reverse) u := by
    intro q
    induction q with
    | nil => intro u _ hu; exact (thenP_one hu).symm
    | cons x q ih =>
      intro u hq hu
      have hx := hq x (by simp)
      have hqr : ∀ y, y ∈ q.reverse → goodM y = true := fun y hy => hq y (List.mem_cons_of_mem _ (List.mem_reverse.1 hy))
      rw [List.foldl_cons, ih _ (fun y hy => hq y (List.mem_cons_of_mem _ hy)) (thenP_good _ _), List.reverse_cons, ← thenP_assoc]
      congr 1
      rw [allM, allM, List.foldl_append]
      rfl
  have hgr : ∀ x, x ∈ b.reverse → goodM x = true := fun x hx => hg x (List.mem_reverse.1 hx)
  refine key b.reverse 0 [] [] oneM (Nat.zero_le _) rfl oneM_good (Nat.le_refl _) (Nat.le_refl _) ?_
  rw [e _ _ hgr oneM_good, one_thenP (allM_good _ (fun x hx => hgr x (List.mem_reverse.1 hx)))]
  exact h
theorem impl_pop_eq {f s b : List Mp} {m : Mp} (h60 : f.length + b.length ≤ 60) (hs : s.length = f.length) (hb : ∀ x, x ∈ b → goodM x = true) (hne : 0 < f.length + b.length) :
    xi0b f s b m.1 m.2 = some (((popF f b).getD ((popF f b).length - 1) ((0 : Int), (0 : Int))).1, ((popF f b).getD ((popF f b).length - 1) ((0 : Int), (0 : Int))).2, (if f = [] then (b.length : Int) else 0), (popF f b).take ((popF f b).length - 1), (popS f s b).take ((popF f b).length - 1), (if f = [] then [] else b), (if f = [] then oneM else m).1, (if f = [] then oneM else m).2) := by
  refine xi0b.eq _ _ _ _ _ ?_
  by_cases hf : f = []
  · subst hf
    simp only [List.length_nil] at h60 hne
    have hlen : b.reverse.length = b.length := List.length_reverse
    have hr := slices_Reverse_eq b (by omega)
    have hg : ∀ x, x ∈ b.reverse → goodM x = true := fun x hx => hb x (List.mem_reverse.1 hx)
    have hsum := impl_sumsOf_eq (l := b.reverse) (by omega) hg
    have h1 : b.reverse.length - 1 < b.reverse.length := by omega
    have h2 : (0 : Int) ≤ ((b.reverse.length - 1 : Nat) : Int) := by omega
    have h3 : ((b.reverse.length - 1 : Nat) : Int) ≤ (b.reverse.length : Int) := by omega
    have h4 : ((b.reverse.length - 1 : Nat) : Int) ≤ ((sumsM oneM b.reverse).length : Int) := by rw [sumsM_len]; omega
    have h0 : (((([] : List Mp).length : Nat) : Int) == 0) = true := rfl
    simp only [xi0b.t, h0, cond_true, hr, hsum, impl_same_eq, Option.bind_some, wrap_pred (show 0 < b.reverse.length by omega) (show b.reverse.length < 9223372036854775807 by omega), ix_nn, ix_nat, dec_t h1, Option.getD_none, dec_t h2, dec_t h3, dec_t h4, take_to, popF, popS, if_true]
  · have hpos : 0 < f.length := List.length_pos_iff.2 hf
    have h1 : f.length - 1 < f.length := by omega
    have h2 : (0 : Int) ≤ ((f.length - 1 : Nat) : Int) := by omega
    have h3 : ((f.length - 1 : Nat) : Int) ≤ (f.length : Int) := by omega
    have h4 : ((f.length - 1 : Nat) : Int) ≤ (s.length : Int) := by omega
    have h0 : ((f.length : Int) == 0) = false := beq_eq_false_iff_ne.2 (by omega)
    simp only [xi0b.t, h0, cond_true, cond_false, wrap_pred hpos (show f.length < 9223372036854775807 by omega), ix_nn, ix_nat, dec_t h1, Option.getD_none, dec_t h2, dec_t h3, dec_t h4, take_to, popF, popS, if_neg hf]
theorem pop_same (v0 : List (Int × Int)) (v1 : List (Int × Int)) (v2 : List (Int × Int)) (v3 : Int) (v4 : Int)
    (hz0 : szT (.pair (.sl (.pair (.int .i64) (.int .i64))) (.pair (.sl (.pair (.int .i64) (.int .i64))) (.pair (.sl (.pair (.int .i64) (.int .i64))) (.pair (.int .i64) (.int .i64))))) (v0, (v1, (v2, (v3, v4)))) ≤ 1048576) :
    ∃ (a b c : List (Int × Int)) (d e g h k : Int) (ok : Bool), spec_PopMap v0 v1 v2 v3 v4 = some (a, b, c, d, e, g, h, k, ok) ∧ impl_PopMap v0 v1 v2 v3 v4 = some (a, b, c, d, e, g, h, k, ok) ∧
      szT (.pair (.sl (.pair (.int .i64) (.int .i64))) (.pair (.sl (.pair (.int .i64) (.int .i64))) (.pair (.sl (.pair (.int .i64) (.int .i64))) (.pair (.int .i64) (.int .i64))))) (a, (b, (c, (d, e)))) ≤ 1073741824 := by
  have hsz : ∀ (a b c : List Mp) (d e : Int), szT (.pair (.sl (.pair (.int .i64) (.int .i64))) (.pair (.sl (.pair (.int .i64) (.int .i64))) (.pair (.sl (.pair (.int .i64) (.int .i64))) (.pair (.int .i64) (.int .i64))))) (a, (b, (c, (d, e)))) = a.length + (b.length + c.length) := fun a b c d e => by
    show szT (.sl (.pair (.int .i64) (.int .i64))) a + (szT (.sl (.pair (.int .i64) (.int .i64))) b + (szT (.sl (.pair (.int .i64) (.int .i64))) c + (0 + 0))) = _
    rw [szT_sl_flat (t := .pair (.int .i64) (.int .i64)) a rfl, szT_sl_flat (t := .pair (.int .i64) (.int .i64)) b rfl, szT_sl_flat (t := .pair (.int .i64) (.int .i64)) c rfl]
    omega
  rw [hsz] at hz0
  have e1 := spec_GoodWindow_eq (f := v0) (s := v1) (b := v2) (m := (v3, v4)) (by omega) (by omega) (by omega)
  have e2 := impl_GoodWindow_eq (f := v0) (s := v1) (b := v2) (m := (v3, v4)) (by omega) (by omega) (by omega)
  have hnone : szT (.pair (.sl (.pair (.int .i64) (.int .i64))) (.pair (.sl (.pair (.int .i64) (.int .i64))) (.pair (.sl (.pair (.int .i64) (.int .i64))) (.pair (.int .i64) (.int .i64))))) (([] : List Mp), (([] : List Mp), (([] : List Mp), ((0 : Int), (0 : Int))))) ≤ 1073741824 := by rw [hsz]; simp
  cases hg : goodWin v0 v1 v2 (v3, v4) with
  | false => exact ⟨[], [], [], 0, 0, 0, 0, 0, false, spec_PopMap.eq _ _ _ _ _ (by simp only [spec_PopMap.t, e1, hg, Option.bind_some, bang_f, cond_true]), impl_PopMap.eq _ _ _ _ _ (by simp only [impl_PopMap.t, e2, hg, Option.bind_some, bang_f, cond_true]), hnone⟩
  | true =>
    have hgg := hg
    simp only [goodWin, Bool.and_eq_true, decide_eq_true_eq, List.all_eq_true] at hgg
    obtain ⟨⟨hs, h60⟩, hf, hb, hss, _⟩ := hgg
    have hw : IntKind.i64.wrap ((v0.length : Int) + (v2.length : Int)) = ((v0.length + v2.length : Nat) : Int) := by rw [wrap_id] <;> omega
    by_cases hz : v0.length + v2.length = 0
    · have h0 : (((v0.length + v2.length : Nat) : Int) == 0) = true := beq_iff_eq.2 (by omega)
      exact ⟨[], [], [], 0, 0, 0, 0, 0, false, spec_PopMap.eq _ _ _ _ _ (by simp only [spec_PopMap.t, e1, hg, hw, h0, Option.bind_some, bang_t, cond_false, cond_true]), impl_PopMap.eq _ _ _ _ _ (by simp only [impl_PopMap.t, e2, hg, hw, h0, Option.bind_some, bang_t, cond_false, cond_true]), hnone⟩
    · have h0 : (((v0.length + v2.length : Nat) : Int) == 0) = false := beq_eq_false_iff_ne.2 (by omega)
      have e3 := impl_own_eq (f := v0) (s := v1) (b := v2) (m := (v3, v4)) (by omega) (by omega) (by omega)
      have e4 := spec_own_eq (f := v0) (s := v1) (b := v2) (m := (v3, v4)) (by omega) (by omega) (by omega)
      have e5 := impl_pop_eq (m := (v3, v4)) h60 hs hb (by omega)
      have hFl : (popF v0 v2).length ≤ 60 := by
        unfold popF
        split
        · rw [List.length_reverse]; omega
        · omega
      have hSl : (popS v0 v1 v2).length = (popF v0 v2).length := by
        unfold popF popS
        split
        · rw [sumsM_len]
        · exact hs
      have hBl : (if v0 = [] then ([] : List Mp) else v2).length ≤ 60 := by
        split
        · simp
        · omega
      have e6 := impl_own_eq (f := (popF v0 v2).take ((popF v0 v2).length - 1)) (s := (popS v0 v1 v2).take ((popF v0 v2).length - 1)) (b := if v0 = [] then [] else v2) (m := if v0 = [] then oneM else (v3, v4)) (by rw [List.length_take]; omega) (by rw [List.length_take]; omega) (by omega)
      have e7 := spec_own_eq (f := (popF v0 v2).take ((popF v0 v2).length - 1)) (s := (popS v0 v1 v2).take ((popF v0 v2).length - 1)) (b := if v0 = [] then [] else v2) (m := if v0 = [] then oneM else (v3, v4)) (by rw [List.length_take]; omega) (by rw [List.length_take]; omega) (by omega)
      refine ⟨_, _, _, _, _, _, _, _, true, ?_, impl_PopMap.eq _ _ _ _ _ (by simp only [impl_PopMap.t, e2, hg, hw, h0, e3, e5, e6, Option.bind_some, bang_t, cond_false]; rfl), ?_⟩
      · refine spec_PopMap.eq _ _ _ _ _ ?_
        simp only [spec_PopMap.t, e1, hg, hw, h0, e4, Option.bind_some, bang_t, cond_false]
        by_cases hf0 : v0 = []
        · subst hf0
          simp only [List.length_nil] at h60 hz
          have hlen : v2.reverse.length = v2.length := List.length_reverse
          have h1 : v2.reverse.length - 1 < v2.reverse.length := by omega
          have h2 : (0 : Int) ≤ ((v2.reverse.length - 1 : Nat) : Int) := by omega
          have h3 : ((v2.reverse.length - 1 : Nat) : Int) ≤ (v2.reverse.length : Int) := by omega
          have h4 : ((v2.reverse.length - 1 : Nat) : Int) ≤ ((sumsM oneM v2.reverse).length : Int) := by rw [sumsM_len]; omega
          have h00 : (((([] : List Mp).length : Nat) : Int) == 0) = true := rfl
          have hv1 : v1 = [] := List.length_eq_zero_iff.1 hs
          subst hv1
          have et := spec_l17Turned_eq v2 (by omega)
          simp only [h00, cond_true, spec_one_eq, et, Option.bind_some]
          refine spec_turn (by omega) hb (m := (v3, v4)) ?_
          refine spec_PopMap.eq9 _ _ _ _ _ _ _ _ _ _ _ _ _ _ _ _ _ _ ?_
          simp only [popF, popS, if_true] at e7
          simp only [spec_PopMap.t9, ix_lt, Nat.lt_irrefl, decide_false, cond_false, spec_one_eq, Option.bind_some, wrap_pred (show 0 < v2.reverse.length by omega) (show v2.reverse.length < 9223372036854775807 by omega), ix_nn, ix_nat, dec_t h1, Option.getD_none, dec_t h2, dec_t h3, dec_t h4, take_to, cond_true, e7, popF, popS, if_true]
        · have hpos : 0 < v0.length := List.length_pos_iff.2 hf0
          have h1 : v0.length - 1 < v0.length := by omega
          have h2 : (0 : Int) ≤ ((v0.length - 1 : Nat) : Int) := by omega
          have h3 : ((v0.length - 1 : Nat) : Int) ≤ (v0.length : Int) := by omega
          have h4 : ((v0.length - 1 : Nat) : Int) ≤ (v1.length : Int) := by omega
          have h00 : ((v0.length : Int) == 0) = false := beq_eq_false_iff_ne.2 (by omega)
          simp only [popF, popS, if_neg hf0] at e7
          simp only [h00, cond_false, wrap_pred hpos (show v0.length < 9223372036854775807 by omega), ix_nn, ix_nat, dec_t h1, Option.getD_none, dec_t h2, dec_t h3, dec_t h4, take_to, cond_true, e7, Option.bind_some, popF, popS, if_neg hf0]
      · rw [hsz, List.length_take, List.length_take]
        omega
end GoV
