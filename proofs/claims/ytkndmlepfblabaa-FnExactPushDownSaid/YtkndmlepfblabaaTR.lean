/- A part of the proof of FnExactPushDown: an interpreter of the model over plain data, its soundness, and what it makes of the functions that the statement reaches. Conditions: none beyond what the given statement itself says. -/
import Derived.Test.YtkndmlepfblabaaTQ
set_option linter.unusedVariables false
set_option linter.unusedSimpArgs false
set_option linter.unnecessarySimpa false
set_option linter.unusedSectionVars false
/- The library's stable sort of rows with weights. -/
namespace GoV
open Go
def Rows (d : List WRow) : Prop := ∀ w, w ∈ d → w.1.length ≤ 1073741824
theorem Rows.perm {d d' : List WRow} (h : Rows d) (hp : d'.Perm d) : Rows d' := fun w hw => h w (hp.mem_iff.1 hw)
open Classical in
/-- An answer that counts where the rows are no longer than they were. -/
noncomputable def gd {β : Type} (d : List WRow) (x : Option β) : Option β := if Rows d then x else none
theorem gd_some {β : Type} {d : List WRow} {x : Option β} {r : β} : gd d x = some r ↔ Rows d ∧ x = some r := by
  unfold gd
  split
  · rename_i h; exact ⟨fun e => ⟨h, e⟩, fun e => e.2⟩
  · rename_i h; exact ⟨fun e => (by cases e), fun e => absurd e.1 h⟩
theorem gd_swap {d : List WRow} {i j : Nat} (hi : i < d.length) (hj : j < d.length) (h : Rows (swapL ([], 0) d i j)) : Rows d := h.perm (swapL_perm hi hj).symm
theorem gt_dec (i j : Nat) : decide ((i : Int) > (j : Int)) = decide (j < i) := ix_lt j i
theorem w_add {i j : Nat} (h : i + j < 4611686018427387904) : IntKind.i64.wrap ((i : Int) + (j : Int)) = ((i + j : Nat) : Int) := by rw [wrap_id] <;> omega
theorem w_sub {i j : Nat} (h : j ≤ i) (h2 : i < 4611686018427387904) : IntKind.i64.wrap ((i : Int) - (j : Int)) = ((i - j : Nat) : Int) := by rw [wrap_id] <;> omega
end GoV

/- The weight of a row: by binary search, and one by one. -/
namespace GoV
open Go
def weightP (l : List WRow) (r : List Int) : Int := match l.find? (fun w => cmpL w.1 r == 0) with | some w => w.2 | none => 0
/-- The middle of two numbers, as Go reckons it. -/
theorem mid_nat (i j : Nat) (h : i + j < 4611686018427387904) : IntKind.i64.wrap ((IntKind.u64.wrap (IntKind.i64.wrap ((i : Int) + (j : Int)))).fdiv ((2 : Int) ^ Min.min (Int.toNat (1 : Int)) IntKind.u64.bits)) = (((i + j) / 2 : Nat) : Int) := by
  have e1 : IntKind.i64.wrap ((i : Int) + (j : Int)) = ((i + j : Nat) : Int) := by rw [wrap_id] <;> omega
  have e2 : IntKind.u64.wrap ((i + j : Nat) : Int) = ((i + j : Nat) : Int) := by
    have : IntKind.u64.wrap ((i + j : Nat) : Int) = ((i + j : Nat) : Int) % 18446744073709551616 := by simp [IntKind.wrap, IntKind.bits, IntKind.signed]
    rw [this]
    omega
  have e3 : Min.min (Int.toNat (1 : Int)) IntKind.u64.bits = 1 := rfl
  rw [e1, e2, e3, Int.pow_one, Int.fdiv_eq_ediv_of_nonneg _ (by omega)]
  rw [wrap_id] <;> omega
section
variable {l : List WRow} {r : List Int} (hl : l.length ≤ 1073741824) (hr : ∀ w, w ∈ l → w.1.length ≤ 1073741824) (hx : r.length ≤ 1073741824) (hs : sortedW l)
include hl hr hx hs
end
end GoV

/- The library's stable sort of rows with weights: merging in place, and all of it. -/
namespace GoV
open Go
theorem RotF.none {f : Nat → WRow} {s m t : Nat} (h : s = m ∨ t = m) (h1 : s ≤ m) (h2 : m ≤ t) : RotF f f s m t := by
  intro k
  by_cases c1 : s ≤ k ∧ k < s + (t - m)
  · rw [if_pos c1]; congr 1; omega
  · rw [if_neg c1]
    by_cases c2 : s + (t - m) ≤ k ∧ k < t
    · rw [if_pos c2]; congr 1; omega
    · rw [if_neg c2]
theorem one_eq (i j : Nat) (h : j ≤ i) (h2 : i < 4611686018427387904) : (IntKind.i64.wrap ((i : Int) - (j : Int)) == (1 : Int)) = decide (i - j = 1) := by
  rw [w_sub h h2]
  by_cases e : i - j = 1
  · rw [e]; rfl
  · rw [dec_f e]
    exact beq_eq_false_iff_ne.2 (by omega)
abbrev zW : WRow := ([], 0)
end GoV

/- The library's stable sort of rows with weights: merging in place. -/
namespace GoV
open Go
end GoV

/- The library's stable sort of rows with weights: blocks sorted, then merged. -/
namespace GoV
open Go
/-- The first A blocks of s are sorted, each in itself. -/
def LoB (d : List WRow) (s A n : Nat) : Prop := ∀ q, q < A → q * s < n → SortS zW ltW d (q * s) (min (q * s + s) n)
/-- The blocks from the A-th on. -/
def HiB (d : List WRow) (s A n : Nat) : Prop := ∀ q, A ≤ q → q * s < n → SortS zW ltW d (q * s) (min (q * s + s) n)
theorem mul_le_of_lt {q A s : Nat} (h : q < A) : q * s + s ≤ A * s := by
  have := Nat.mul_le_mul_right s (show q + 1 ≤ A by omega)
  rwa [Nat.succ_mul] at this
theorem LoB.keep {d d' : List WRow} {s A n a b : Nat} (h : LoB d s A n) (hm : Mv zW d d' a b) (ha : A * s ≤ a) : LoB d' s A n := fun q h1 h2 =>
  (h q h1 h2).congr fun k _ g2 => hm.out k (.inl (by have := mul_le_of_lt (s := s) h1; omega))
theorem HiB.keep {d d' : List WRow} {s A n a b : Nat} (h : HiB d s A n) (hm : Mv zW d d' a b) (hb : b ≤ A * s) : HiB d' s A n := fun q h1 h2 =>
  (h q h1 h2).congr fun k g1 _ => hm.out k (.inr (by have := Nat.mul_le_mul_right s h1; omega))
theorem twice (A s : Nat) : 2 * A * s = A * (2 * s) := by rw [Nat.mul_comm 2 A, Nat.mul_assoc]
theorem twice1 (A s : Nat) : (2 * A + 1) * s = A * (2 * s) + s := by rw [Nat.succ_mul, twice]
theorem twice2 (A s : Nat) : 2 * (A + 1) * s = A * (2 * s) + 2 * s := by rw [twice, Nat.succ_mul]
end GoV

/- The library's stable sort of rows with weights. -/
namespace GoV
open Go
end GoV

/- A table handed on if it is good. -/
namespace GoV
open Go
end GoV

/- Lists of rows summed: what the program's 'summed' gives. -/
namespace GoV
open Go
end GoV

/- Tables that are good, with as many columns. -/
namespace GoV
open Go
def alikeB (c : Int) (a : List WRow) (d : Int) (b : List WRow) : Bool := goodT c a && (goodT d b && (c == d))
end GoV

/- Some cells of a row; numbers of columns. -/
namespace GoV
open Go
def pickR (r cs : List Int) : List Int := cs.map fun k => r.getD k.toNat 0
def pickG (r : List Int) (k : Int) : List Int := [r.getD k.toNat 0]
theorem pickG_map (r : List Int) : ∀ cs : List Int, cs.flatMap (pickG r) = pickR r cs
  | [] => rfl
  | k :: cs => by rw [List.flatMap_cons, pickG_map r cs]; rfl
theorem pickR_len (r cs : List Int) : (pickR r cs).length = cs.length := by simp [pickR]
def plB (n k : Int) : Bool := decide (0 ≤ k) && decide (k < n)
theorem plB_iff {n k : Int} : plB n k = true ↔ 0 ≤ k ∧ k < n := by simp [plB]
def colsB (n : Int) (cs : List Int) : Bool := cs.all (plB n) && decide (cs.length ≤ 6)
theorem impl_isPlace_eq' (x c : Int) : impl_isPlace x c = some (plB c x) := by
  refine impl_isPlace.eq x c ?_
  simp only [impl_isPlace.t, plB]
  by_cases h : 0 ≤ x
  · have h' : x ≥ 0 := h
    simp only [dec_t h, dec_t h', cond_true, Bool.true_and]
  · have h' : ¬ x ≥ 0 := h
    simp only [dec_f h, dec_f h', cond_false, Bool.false_and]
theorem lenDec (n k : Nat) : decide ((n : Int) ≤ (k : Int)) = decide (n ≤ k) := by
  by_cases h : n ≤ k
  · rw [dec_t h, dec_t (by omega)]
  · rw [dec_f h, dec_f (by omega)]
theorem spec_l1Columns_eq (cs : List Int) (n : Int) (hl : cs.length ≤ 1073741824) : spec_l1Columns cs n = some (colsB n cs) := by
  refine spec_l1Columns.eq cs n ?_
  simp only [spec_l1Columns.t]
  have := all_loop cs 0 (fun i => spec_l1Columns.l2 cs n cs (cs.length : Int) (i : Int)) (plB n) false (decide (cs.length ≤ 6)) ?_ ?_ ?_
  · refine Eq.trans this ?_
    simp only [colsB]
    cases cs.all (plB n) <;> rfl
  · exact spec_l1Columns.eq2 _ _ _ _ _ (by simp only [spec_l1Columns.t2, ix_lt, Nat.lt_irrefl, decide_false, cond_false]; exact congrArg some (lenDec cs.length 6))
  · intro i hi hb
    refine spec_l1Columns.eq2 _ _ _ _ _ ?_
    simp only [spec_l1Columns.t2, ix_lt, ix_nn, ix_nat, dec_t hi, cond_true]
    by_cases h1 : cs.getD i 0 < 0
    · simp only [dec_t h1, cond_true]
    · have h2 : cs.getD i 0 ≥ n := by
        apply Classical.byContradiction
        intro h2
        rw [plB_iff.2 ⟨by omega, by omega⟩] at hb
        cases hb
      simp only [dec_f h1, dec_t h2, cond_true, cond_false]
  · intro i c hi hb hc
    refine spec_l1Columns.eq2 _ _ _ _ _ ?_
    obtain ⟨h1, h2⟩ := plB_iff.1 hb
    have h3 : ¬ cs.getD i 0 < 0 := by omega
    have h4 : ¬ cs.getD i 0 ≥ n := by omega
    simp only [spec_l1Columns.t2, ix_lt, ix_nn, ix_nat, dec_t hi, cond_true, dec_f h3, dec_f h4, cond_false, wrap_succ (show i < 9223372036854775807 by omega)]
    exact hc
theorem impl_areColumns_eq (cs : List Int) (n : Int) (hl : cs.length ≤ 1073741824) : impl_areColumns cs n = some (colsB n cs) := by
  refine impl_areColumns.eq cs n ?_
  have e := xi0e_ok cs n (plB n) (by omega) (fun x _ => impl_areColumns_1.eq _ _ (by simp only [impl_areColumns_1.t, impl_isPlace_eq', Option.bind_some]))
  have e2 : decide ((cs.length : Int) ≤ 6) = decide (cs.length ≤ 6) := lenDec cs.length 6
  simp only [impl_areColumns.t, e, e2, Option.bind_some, colsB]
  by_cases h : cs.length ≤ 6
  · simp only [dec_t h, cond_true, Bool.and_true]
  · simp only [dec_f h, cond_false, Bool.and_false]
/-- A row that is put in counts with a bound for all. -/
theorem puts_all_loop {α β : Type} (l : List α) (z : α) (p : α → Bool) (row : α → List Int) (wt : α → Int) (L : List WRow → Nat → Option β) (res : List WRow → Option β) (bad : β) {M m : Int} {N : Nat} (hM : 0 ≤ M) (hm : 0 ≤ m)
    (hp : ∀ x, x ∈ l → p x = true → (row x).length ≤ 1073741824 ∧ (-m ≤ wt x ∧ wt x ≤ m))
    (he : ∀ acc b, PutOK (M + m * l.length) (N + l.length) acc → res acc = some b → L acc l.length = some b)
    (hf : ∀ acc i, i < l.length → p (l.getD i z) = false → L acc i = some bad)
    (hs : ∀ acc i b, i < l.length → p (l.getD i z) = true → PutOK (M + m * i) (N + i) acc → L (putL acc (row (l.getD i z)) (wt (l.getD i z))) (i + 1) = some b → L acc i = some b) :
    ∀ acc b, PutOK M N acc → (bif l.all p then res (l.foldl (fun acc x => putL acc (row x) (wt x)) acc) else some bad) = some b → L acc 0 = some b := by
  have key : ∀ i, i ≤ l.length → ∀ acc b, PutOK (M + m * i) (N + i) acc → (bif (l.drop i).all p then res ((l.drop i).foldl (fun acc x => putL acc (row x) (wt x)) acc) else some bad) = some b → L acc i = some b := by
    refine upto ?_ ?_
    · intro acc b ha hb
      rw [List.drop_length] at hb
      exact he acc b ha hb
    · intro i hi ih acc b ha hb
      rw [drop_getD z hi, List.foldl_cons, List.all_cons] at hb
      cases hq : p (l.getD i z) with
      | false =>
        rw [hq, Bool.false_and, cond_false] at hb
        rw [← hb]
        exact hf acc i hi hq
      | true =>
        rw [hq, Bool.true_and] at hb
        refine hs acc i b hi hq ha (ih _ b ?_ hb)
        obtain ⟨k1, k2⟩ := hp _ (getD_mem z hi) hq
        have h0 : 0 ≤ m * (i : Int) := Int.mul_nonneg hm (by omega)
        have := ha.put k1 k2 (by omega) hm
        have e : M + m * ((i + 1 : Nat) : Int) = M + m * (i : Int) + m := by
          rw [Int.natCast_succ, Int.mul_add, Int.mul_one]; omega
        rw [e]
        exact this
  intro acc b ha hb
  refine key 0 (Nat.zero_le _) acc b ?_ (by rw [List.drop_zero]; exact hb)
  simpa using ha
theorem PutOK.nil : PutOK 0 0 [] := ⟨Nat.le_refl _, fun _ h => (by cases h), fun _ h => (by cases h)⟩
theorem putsL_rows {c : Nat} {b : List WRow} (h : ∀ w, w ∈ b → w.1.length ≤ c) : (putsL [] b).length ≤ b.length ∧ ∀ w, w ∈ putsL [] b → w.1.length ≤ c := by
  obtain ⟨_, _, _, h1, h2⟩ := putsL_ok b (l := []) .nil (fun _ h => (by cases h))
  refine ⟨by simpa using h2, fun w hw => ?_⟩
  rcases h1 w hw with h3 | ⟨u, hu, e⟩
  · cases h3
  · rw [e]; exact h u hu
end GoV

/- Tests of rows: alike for the program and its specification. -/
namespace GoV
open Go
abbrev Tst := Int × Int × Int
def testB (c : Int) (x : Tst) : Bool := (decide (0 ≤ x.2.1) && decide (x.2.1 < c)) && (inB 1 4 x.1 && ((bif x.1 == 4 then decide (0 ≤ x.2.2) && decide (x.2.2 < c) else true) && inB (-100000) 100000 x.2.2))
def testsB (c : Int) (l : List Tst) : Bool := l.all (testB c) && decide (l.length ≤ 8)
def trueB (r : List Int) (x : Tst) : Bool := bif x.1 == 1 then r.getD x.2.1.toNat 0 == x.2.2 else bif x.1 == 2 then decide (r.getD x.2.1.toNat 0 < x.2.2) else bif x.1 == 3 then decide (r.getD x.2.1.toNat 0 > x.2.2) else r.getD x.2.1.toNat 0 == r.getD x.2.2.toNat 0
theorem not_lt_dec (x y : Int) : decide (x < y) = !decide (y ≤ x) := by
  by_cases h : x < y
  · rw [dec_t h, dec_f (by omega)]; rfl
  · rw [dec_f h, dec_t (by omega)]; rfl
theorem not_ge_dec (x y : Int) : decide (x ≥ y) = !decide (x < y) := by
  by_cases h : x < y
  · rw [dec_t h, dec_f (by omega)]; rfl
  · rw [dec_f h, dec_t (by omega)]; rfl
theorem spec_GoodTests_eq (l : List Tst) (c : Int) (hl : l.length ≤ 1073741824) : spec_GoodTests l c = some (testsB c l) := by
  refine spec_GoodTests.eq l c ?_
  simp only [spec_GoodTests.t]
  have := all_loop l (0, 0, 0) (fun i => spec_GoodTests.l2 l c l (l.length : Int) (i : Int)) (testB c) false (decide (l.length ≤ 8)) ?_ ?_ ?_
  · refine Eq.trans this ?_
    simp only [testsB]
    cases l.all (testB c) <;> rfl
  · have e : decide ((l.length : Int) ≤ 8) = decide (l.length ≤ 8) := by
      by_cases h : l.length ≤ 8
      · rw [dec_t h, dec_t (by omega)]
      · rw [dec_f h, dec_f (by omega)]
    exact spec_GoodTests.eq2 _ _ _ _ _ (by simp only [spec_GoodTests.t2, ix_lt, Nat.lt_irrefl, decide_false, cond_false, e])
  · intro i hi hb
    refine spec_GoodTests.eq2 _ _ _ _ _ ?_
    simp only [testB] at hb
    simp only [spec_GoodTests.t2, ix_lt, ix_nn, ix_nat, dec_t hi, cond_true, spec_l1In_eq, Option.bind_some, not_lt_dec (l.getD i (0, 0, 0)).2.1 0, not_lt_dec (l.getD i (0, 0, 0)).2.2 0, not_ge_dec (l.getD i (0, 0, 0)).2.1 c, not_ge_dec (l.getD i (0, 0, 0)).2.2 c]
    cases h1 : decide (0 ≤ (l.getD i (0, 0, 0)).2.1)
    · rfl
    · cases h2 : decide ((l.getD i (0, 0, 0)).2.1 < c)
      · rfl
      · cases h3 : inB 1 4 (l.getD i (0, 0, 0)).1
        · rfl
        · cases h4 : (l.getD i (0, 0, 0)).1 == 4
          · simp only [h1, h2, h3, h4, cond_false, Bool.true_and] at hb
            simp only [hb, bang_t, bang_f, cond_true, cond_false]
          · cases h5 : decide (0 ≤ (l.getD i (0, 0, 0)).2.2)
            · rfl
            · cases h6 : decide ((l.getD i (0, 0, 0)).2.2 < c)
              · rfl
              · simp only [h1, h2, h3, h4, h5, h6, cond_true, Bool.true_and] at hb
                simp only [hb, bang_t, bang_f, cond_true, cond_false]
  · intro i b hi hb hc
    refine spec_GoodTests.eq2 _ _ _ _ _ ?_
    simp only [testB, Bool.and_eq_true] at hb
    obtain ⟨⟨h1, h2⟩, h3, h4, h5⟩ := hb
    simp only [spec_GoodTests.t2, ix_lt, ix_nn, ix_nat, dec_t hi, cond_true, cond_false, spec_l1In_eq, Option.bind_some, not_lt_dec (l.getD i (0, 0, 0)).2.1 0, not_lt_dec (l.getD i (0, 0, 0)).2.2 0, not_ge_dec (l.getD i (0, 0, 0)).2.1 c, not_ge_dec (l.getD i (0, 0, 0)).2.2 c, h1, h2, h3, h5, bang_t, wrap_succ (show i < 9223372036854775807 by omega)]
    cases h6 : (l.getD i (0, 0, 0)).1 == 4
    · simp only [cond_false]; exact hc
    · rw [h6, cond_true, Bool.and_eq_true] at h4
      simp only [cond_true, cond_false, h4.1, h4.2, bang_t]; exact hc
theorem impl_isPlace_eq (x c : Int) : impl_isPlace x c = some (decide (0 ≤ x) && decide (x < c)) := by
  refine impl_isPlace.eq x c ?_
  simp only [impl_isPlace.t]
  by_cases h : 0 ≤ x
  · have h' : x ≥ 0 := h
    simp only [dec_t h, dec_t h', cond_true, Bool.true_and]
  · have h' : ¬ x ≥ 0 := h
    simp only [dec_f h, dec_f h', cond_false, Bool.false_and]
theorem impl_GoodTests_1_eq (x : Tst) (c : Int) (hc : c ≤ 6) : impl_GoodTests_1 x.1 x.2.1 x.2.2 c = some (testB c x) := by
  obtain ⟨k, p, n⟩ := x
  refine impl_GoodTests_1.eq _ _ _ _ ?_
  simp only [impl_GoodTests_1.t, impl_isPlace_eq, impl_within_eq, impl_isCell_eq, Option.bind_some, testB]
  cases decide (0 ≤ p) && decide (p < c)
  · rfl
  · simp only [bang_t, cond_false, Bool.true_and]
    by_cases h : k = 4
    · subst h
      have h1 : ((4 : Int) == 4) = true := rfl
      have h2 : inB 1 4 4 = true := rfl
      simp only [h1, h2, cond_true, Bool.true_and]
      by_cases h3 : 0 ≤ n
      · by_cases h4 : n < c
        · have h5 : inB (-100000) 100000 n = true := inB_iff.2 ⟨by omega, by omega⟩
          simp only [dec_t h3, dec_t h4, h5, Bool.and_true]
        · simp only [dec_f h4, Bool.and_false, Bool.false_and]
      · simp only [dec_f h3, Bool.false_and]
    · have h1 : (k == 4) = false := beq_eq_false_iff_ne.2 h
      have h2 : inB 1 3 k = inB 1 4 k := bool_eq (by rw [inB_iff, inB_iff]; omega)
      simp only [h1, h2, cond_false, Bool.true_and]
      cases inB 1 4 k <;> simp
theorem impl_GoodTests_eq (l : List Tst) (c : Int) (hl : l.length ≤ 1073741824) (hc : c ≤ 6) : impl_GoodTests l c = some (testsB c l) := by
  refine impl_GoodTests.eq l c ?_
  simp only [impl_GoodTests.t, xi0b_ok l c (testB c) (by omega) (fun x _ => impl_GoodTests_1_eq x c hc), Option.bind_some, testsB]
  by_cases h : l.length ≤ 8
  · have h' : (l.length : Int) ≤ 8 := by omega
    simp only [dec_t h, dec_t h', cond_true, Bool.and_true]
  · have h' : ¬ (l.length : Int) ≤ 8 := by omega
    simp only [dec_f h, dec_f h', cond_false, Bool.and_false]
theorem testB_fit {c : Int} {x : Tst} (h : testB c x = true) : (0 ≤ x.2.1 ∧ x.2.1 < c) ∧ (x.1 = 1 ∨ x.1 = 2 ∨ x.1 = 3 ∨ (x.1 = 4 ∧ 0 ≤ x.2.2 ∧ x.2.2 < c)) := by
  simp only [testB, Bool.and_eq_true, decide_eq_true_eq, inB_iff] at h
  obtain ⟨⟨h1, h2⟩, ⟨h3, h4⟩, h5, _⟩ := h
  refine ⟨⟨h1, h2⟩, ?_⟩
  by_cases h6 : x.1 = 4
  · have h7 : (x.1 == 4) = true := beq_iff_eq.2 h6
    rw [h7, cond_true, Bool.and_eq_true, decide_eq_true_eq, decide_eq_true_eq] at h5
    exact .inr (.inr (.inr ⟨h6, h5.1, h5.2⟩))
  · omega
end GoV

/- Pairs of columns; rows joined: alike for the program and its specification. -/
namespace GoV
open Go
theorem toNat0 : Int.toNat (0 : Int) = 0 := rfl
theorem toNat1 : Int.toNat (1 : Int) = 1 := rfl
def pairB (a b : Int) (p : List Int) : Bool := ((p.length : Int) == 2) && (plB a (p.getD 0 0) && plB b (p.getD 1 0))
def pairsB (a b : Int) (ps : List (List Int)) : Bool := ps.all (pairB a b) && decide (ps.length ≤ 6)
theorem pairB_iff {a b : Int} {p : List Int} : pairB a b p = true ↔ p.length = 2 ∧ (0 ≤ p.getD 0 0 ∧ p.getD 0 0 < a) ∧ 0 ≤ p.getD 1 0 ∧ p.getD 1 0 < b := by
  simp only [pairB, Bool.and_eq_true, plB_iff, beq_iff_eq]
  constructor
  · intro h; exact ⟨by omega, h.2⟩
  · intro h; exact ⟨by omega, h.2⟩
theorem spec_l1Pairs_eq (ps : List (List Int)) (a b : Int) (hl : ps.length ≤ 1073741824) : spec_l1Pairs ps a b = some (pairsB a b ps) := by
  refine spec_l1Pairs.eq ps a b ?_
  simp only [spec_l1Pairs.t]
  have := all_loop ps [] (fun i => spec_l1Pairs.l2 ps a b ps (ps.length : Int) (i : Int)) (pairB a b) false (decide (ps.length ≤ 6)) ?_ ?_ ?_
  · refine Eq.trans this ?_
    simp only [pairsB]
    cases ps.all (pairB a b) <;> rfl
  · exact spec_l1Pairs.eq2 _ _ _ _ _ _ (by simp only [spec_l1Pairs.t2, ix_lt, Nat.lt_irrefl, decide_false, cond_false]; exact congrArg some (lenDec ps.length 6))
  · intro i hi hb
    refine spec_l1Pairs.eq2 _ _ _ _ _ _ ?_
    simp only [spec_l1Pairs.t2, ix_lt, ix_nn, ix_nat, dec_t hi, cond_true, toNat0, toNat1, bne]
    cases h0 : ((ps.getD i []).length : Int) == 2
    · rfl
    · have h1 := beq_iff_eq.1 h0
      have h2 : 0 < (ps.getD i []).length := by omega
      have h3 : 1 < (ps.getD i []).length := by omega
      simp only [pairB, h0, Bool.true_and] at hb
      simp only [bang_t, cond_false, dec_t h2, dec_t h3, cond_true]
      by_cases g1 : (ps.getD i []).getD 0 0 < 0
      · simp only [dec_t g1, cond_true]
      · by_cases g2 : (ps.getD i []).getD 0 0 ≥ a
        · simp only [dec_f g1, dec_t g2, cond_true, cond_false]
        · have g0 : plB a ((ps.getD i []).getD 0 0) = true := plB_iff.2 ⟨by omega, by omega⟩
          rw [g0, Bool.true_and] at hb
          by_cases g3 : (ps.getD i []).getD 1 0 < 0
          · simp only [dec_f g1, dec_f g2, dec_t g3, cond_true, cond_false]
          · have g4 : (ps.getD i []).getD 1 0 ≥ b := by
              apply Classical.byContradiction
              intro g4
              have g5 : plB b ((ps.getD i []).getD 1 0) = true := plB_iff.2 ⟨by omega, by omega⟩
              rw [g5] at hb
              cases hb
            simp only [dec_f g1, dec_f g2, dec_f g3, dec_t g4, cond_true, cond_false]
  · intro i c hi hb hc
    refine spec_l1Pairs.eq2 _ _ _ _ _ _ ?_
    obtain ⟨h0, ⟨g1, g2⟩, g3, g4⟩ := pairB_iff.1 hb
    have h1 : (((ps.getD i []).length : Int) == 2) = true := beq_iff_eq.2 (by omega)
    have h2 : 0 < (ps.getD i []).length := by omega
    have h3 : 1 < (ps.getD i []).length := by omega
    have k1 : ¬ (ps.getD i []).getD 0 0 < 0 := by omega
    have k2 : ¬ (ps.getD i []).getD 0 0 ≥ a := by omega
    have k3 : ¬ (ps.getD i []).getD 1 0 < 0 := by omega
    have k4 : ¬ (ps.getD i []).getD 1 0 ≥ b := by omega
    simp only [spec_l1Pairs.t2, ix_lt, ix_nn, ix_nat, dec_t hi, cond_true, toNat0, toNat1, bne, h1, bang_t, cond_false, dec_t h2, dec_t h3, dec_f k1, dec_f k2, dec_f k3, dec_f k4, wrap_succ (show i < 9223372036854775807 by omega)]
    exact hc
theorem impl_arePairs_1_eq (p : List Int) (a b : Int) : impl_arePairs_1 p a b = some (pairB a b p) := by
  refine impl_arePairs_1.eq _ _ _ ?_
  simp only [impl_arePairs_1.t, toNat0, toNat1, impl_isPlace_eq', Option.bind_some, pairB]
  cases h0 : (p.length : Int) == 2
  · rfl
  · have h1 := beq_iff_eq.1 h0
    have h2 : 0 < p.length := by omega
    have h3 : 1 < p.length := by omega
    simp only [dec_t h2, dec_t h3, cond_true, Bool.true_and]
    cases plB a (p.getD 0 0) <;> rfl
theorem impl_arePairs_eq (ps : List (List Int)) (a b : Int) (hl : ps.length ≤ 1073741824) : impl_arePairs ps a b = some (pairsB a b ps) := by
  refine impl_arePairs.eq ps a b ?_
  have e := xi0h_ok ps a b (pairB a b) (by omega) (fun x _ => impl_arePairs_1_eq x a b)
  have e2 : decide ((ps.length : Int) ≤ 6) = decide (ps.length ≤ 6) := lenDec ps.length 6
  simp only [impl_arePairs.t, e, e2, Option.bind_some, pairsB]
  by_cases h : ps.length ≤ 6
  · simp only [dec_t h, cond_true, Bool.and_true]
  · simp only [dec_f h, cond_false, Bool.and_false]
/-! ## Columns that are in no pair -/
def isP (k : Int) (p : List Int) : Bool := p.getD 1 0 == k
def unpG (ps : List (List Int)) (k : Nat) : List Int := bif ps.any (isP (k : Int)) then [] else [(k : Int)]
def unpL (n : Nat) (ps : List (List Int)) : List Int := (List.range n).flatMap (unpG ps)
theorem unpG_len (ps : List (List Int)) (k : Nat) : (unpG ps k).length ≤ 1 := by
  unfold unpG
  cases ps.any (isP (k : Int)) <;> simp
theorem unpL_len (n : Nat) (ps : List (List Int)) : (unpL n ps).length ≤ n := by
  have := flatMap_len (unpG_len ps) (List.range n)
  rwa [List.length_range] at this
theorem unpL_mem {n : Nat} {ps : List (List Int)} {k : Int} (h : k ∈ unpL n ps) : 0 ≤ k ∧ k.toNat < n := by
  obtain ⟨j, hj, hk⟩ := List.mem_flatMap.1 h
  rw [List.mem_range] at hj
  simp only [unpG] at hk
  cases ha : ps.any (isP (j : Int)) with
  | true => rw [ha] at hk; cases hk
  | false =>
    rw [ha, cond_false, List.mem_singleton] at hk
    omega
theorem range_getD {n i : Nat} (h : i < n) : (List.range n).getD i 0 = i := by rw [getD_of_lt (by simpa using h)]; simp
def flagF (k : Int) (s : Bool) (p : List Int) : Bool := bif s then true else isP k p
theorem flag_any (k : Int) : ∀ (ps : List (List Int)) (s : Bool), ps.foldl (flagF k) s = (s || ps.any (isP k))
  | [], s => by simp
  | p :: ps, s => by
    rw [List.foldl_cons, flag_any k ps, List.any_cons, flagF]
    cases s <;> simp
section
variable {ps : List (List Int)} (hl : ps.length ≤ 1073741824) (hp : ∀ p, p ∈ ps → 1 < p.length)
include hl hp
theorem impl_unpaired_eq (n : Nat) (hn : n ≤ 1073741824) : impl_unpaired (n : Int) ps = some (unpL n ps) := by
  refine impl_unpaired.eq _ _ ?_
  simp only [impl_unpaired.t]
  have hc : ∀ k : Int, xs08 ps k = some (ps.any (isP k)) := fun k => xs08_ok ps k (isP k) (by omega) (fun p h => impl_unpaired_1.eq _ _ (by simp only [impl_unpaired_1.t, toNat1, dec_t (hp p h), cond_true]; rfl))
  refine push_loop (List.range n) 0 (fun acc i => impl_unpaired.l3 ps acc (n : Int) (i : Int)) (unpG ps) (unpG_len ps) some ?_ ?_ _ rfl
  · intro acc b _ hb
    rw [List.length_range]
    exact impl_unpaired.eq3 _ _ _ _ (by simp only [impl_unpaired.t3, ix_lt, Nat.lt_irrefl, decide_false, cond_false]; exact hb)
  · intro acc i b hi ha hb
    rw [List.length_range] at hi
    rw [range_getD hi] at hb
    refine impl_unpaired.eq3 _ _ _ _ ?_
    simp only [impl_unpaired.t3, ix_lt, dec_t hi, cond_true, hc, Option.bind_some, wrap_succ (show i < 9223372036854775807 by omega)]
    simp only [unpG] at hb
    cases h : ps.any (isP (i : Int)) with
    | true =>
      rw [h, cond_true, List.append_nil] at hb
      exact hb
    | false =>
      rw [h, cond_false] at hb
      have h2 : acc.length + [(i : Int)].length ≤ 4294967296 := by simp only [List.length_cons, List.length_nil]; omega
      simp only [bang_f, cond_true, dec_t h2]
      exact hb
theorem spec_l3Left_eq (n : Nat) (hn : n ≤ 1073741824) : spec_l3Left ps (n : Int) = some ((unpL n ps).length : Int) := by
  have inner : ∀ (cnt k : Int) (b : Int), (bif !(ps.any (isP k)) then spec_l3Left.l3 ps (n : Int) (IntKind.i64.wrap (cnt + 1)) (IntKind.i64.wrap (k + 1)) else spec_l3Left.l3 ps (n : Int) cnt (IntKind.i64.wrap (k + 1))) = some b → spec_l3Left.l7 ps (n : Int) cnt k false ps (ps.length : Int) 0 = some b := by
    intro cnt k b hb
    refine fold_loop ps [] (fun s i => spec_l3Left.l7 ps (n : Int) cnt k s ps (ps.length : Int) (i : Int)) (flagF k) (fun _ => True) (fun s => bif !s then spec_l3Left.l3 ps (n : Int) (IntKind.i64.wrap (cnt + 1)) (IntKind.i64.wrap (k + 1)) else spec_l3Left.l3 ps (n : Int) cnt (IntKind.i64.wrap (k + 1))) ?_ ?_ ?_ false b trivial ?_
    · intro s c _ hc
      exact spec_l3Left.eq7 _ _ _ _ _ _ _ _ (by simp only [spec_l3Left.t7, ix_lt, Nat.lt_irrefl, decide_false, cond_false]; exact hc)
    · intros; trivial
    · intro s i c hi _ hc
      have h1 := hp _ (getD_mem [] hi)
      refine spec_l3Left.eq7 _ _ _ _ _ _ _ _ ?_
      simp only [spec_l3Left.t7, ix_lt, ix_nn, ix_nat, dec_t hi, cond_true, toNat1, dec_t h1, wrap_succ (show i < 9223372036854775807 by omega)]
      cases s
      · exact hc
      · exact hc
    · rw [flag_any, Bool.false_or]; exact hb
  refine spec_l3Left.eq _ _ ?_
  simp only [spec_l3Left.t]
  refine push_loop (List.range n) 0 (fun acc i => spec_l3Left.l3 ps (n : Int) (acc.length : Int) (i : Int)) (unpG ps) (unpG_len ps) (fun acc => some (acc.length : Int)) ?_ ?_ _ rfl
  · intro acc b _ hb
    rw [List.length_range]
    exact spec_l3Left.eq3 _ _ _ _ (by simp only [spec_l3Left.t3, ix_lt, Nat.lt_irrefl, decide_false, cond_false]; exact hb)
  · intro acc i b hi ha hb
    rw [List.length_range] at hi
    rw [range_getD hi] at hb
    refine spec_l3Left.eq3 _ _ _ _ ?_
    simp only [spec_l3Left.t3, ix_lt, dec_t hi, cond_true]
    refine inner _ _ _ ?_
    simp only [unpG] at hb
    cases h : ps.any (isP (i : Int)) with
    | true =>
      rw [h, cond_true, List.append_nil] at hb
      simp only [bang_t, cond_false, wrap_succ (show i < 9223372036854775807 by omega)]
      exact hb
    | false =>
      rw [h, cond_false, List.length_append, List.length_singleton] at hb
      simp only [bang_f, cond_true, wrap_succ (show i < 9223372036854775807 by omega), wrap_succ (show acc.length < 9223372036854775807 by omega)]
      exact hb
end
/-! ## Rows joined -/
def eqP (a b : List Int) (p : List Int) : Bool := a.getD (p.getD 0 0).toNat 0 == b.getD (p.getD 1 0).toNat 0
def joinR (a b : List Int) (ps : List (List Int)) : List Int := a ++ pickR b (unpL b.length ps)
def joinG (b : List Int) (ps : List (List Int)) (k : Nat) : List Int := bif ps.any (isP (k : Int)) then [] else [b.getD k 0]
theorem joinG_len (b : List Int) (ps : List (List Int)) (k : Nat) : (joinG b ps k).length ≤ 1 := by
  unfold joinG
  cases ps.any (isP (k : Int)) <;> simp
theorem joinG_map (b : List Int) (ps : List (List Int)) (n : Nat) : (List.range n).flatMap (joinG b ps) = pickR b (unpL n ps) := by
  rw [pickR, unpL, List.map_flatMap]
  congr 1
  funext k
  simp only [joinG, unpG]
  cases ps.any (isP (k : Int)) <;> rfl
theorem joinR_len (a b : List Int) (ps : List (List Int)) : (joinR a b ps).length = a.length + (unpL b.length ps).length := by rw [joinR, List.length_append, pickR_len]
section
variable {a b : List Int} {ps : List (List Int)} (hl : ps.length ≤ 1073741824) (hal : a.length ≤ 536870912) (hbl : b.length ≤ 536870912)
  (hp : ∀ p, p ∈ ps → p.length = 2 ∧ (0 ≤ p.getD 0 0 ∧ (p.getD 0 0).toNat < a.length) ∧ 0 ≤ p.getD 1 0 ∧ (p.getD 1 0).toNat < b.length)
include hl hal hbl hp
end
end GoV

/- Views: what is checked of one is alike for the program and its specification. -/
namespace GoV
open Go
abbrev Prt := Int × Int × Int × List (Int × Int × Int) × List Int × List (List Int)
abbrev zP : Prt := ((0 : Int), (0 : Int), (0 : Int), [], [], [])
def binK (k : Int) : Bool := bif k == 4 then true else bif k == 5 then true else k == 6
def usesB (k rt : Int) (ts : List Tst) (cs : List Int) (ps : List (List Int)) : Bool :=
  (k == 2 || !decide ((ts.length : Int) > 0)) && ((k == 3 || !decide ((cs.length : Int) > 0)) && ((k == 4 || !decide ((ps.length : Int) > 0)) && (binK k || rt == 0)))
def colV (k a b : Int) (ts : List Tst) (cs : List Int) (ps : List (List Int)) : Int × Bool :=
  bif k == 2 then (a, testsB a ts) else bif k == 3 then ((cs.length : Int), colsB a cs) else
  bif k == 4 then (bif pairsB a b ps then (a + ((unpL b.toNat ps).length : Int), decide (a + ((unpL b.toNat ps).length : Int) ≤ 6)) else (0, false)) else
  bif k == 5 then (a, a == b) else bif k == 6 then (a, a == b) else (a, k == 7)
def partC (bs cols : List Int) (p : Prt) : Option Int :=
  bif usesB p.1 p.2.2.1 p.2.2.2.1 p.2.2.2.2.1 p.2.2.2.2.2 then
    bif p.1 == 1 then (bif decide (0 ≤ p.2.1) && decide (p.2.1 < (bs.length : Int)) then some (bs.getD p.2.1.toNat 0) else none) else
    bif (decide (0 ≤ p.2.1) && decide (p.2.1 < (cols.length : Int))) && (decide (0 ≤ p.2.2.1) && decide (p.2.2.1 < (cols.length : Int))) then
      bif (colV p.1 (cols.getD p.2.1.toNat 0) (cols.getD p.2.2.1.toNat 0) p.2.2.2.1 p.2.2.2.2.1 p.2.2.2.2.2).2 then some (colV p.1 (cols.getD p.2.1.toNat 0) (cols.getD p.2.2.1.toNat 0) p.2.2.2.1 p.2.2.2.2.1 p.2.2.2.2.2).1 else none
    else none
  else none
def chkF (bs : List Int) : List Prt → List Int → Option (List Int)
  | [], cols => some cols
  | p :: r, cols => match partC bs cols p with | some c => chkF bs r (cols ++ [c]) | none => none
def outC (o : Option (List Int)) : List Int × Bool := match o with | some l => (l, true) | none => ([], false)
def prtOK (p : Prt) : Prop := p.2.2.2.1.length ≤ 1073741824 ∧ p.2.2.2.2.1.length ≤ 1073741824 ∧ p.2.2.2.2.2.length ≤ 1073741824
def colOK (cols : List Int) : Prop := ∀ x, x ∈ cols → 0 ≤ x ∧ x ≤ 6
theorem colOK_getD {cols : List Int} (h : colOK cols) (i : Nat) : 0 ≤ cols.getD i 0 ∧ cols.getD i 0 ≤ 6 := by
  by_cases hi : i < cols.length
  · exact h _ (getD_mem 0 hi)
  · rw [List.getD_eq_getElem?_getD, List.getElem?_eq_none (by omega)]; simp
theorem pairsB_two {a b : Int} {ps : List (List Int)} (h : pairsB a b ps = true) : ∀ p, p ∈ ps → 1 < p.length := by
  intro p hp
  simp only [pairsB, Bool.and_eq_true, List.all_eq_true] at h
  have := (pairB_iff.1 (h.1 p hp)).1
  omega
theorem unp_at {a b : Int} {ps : List (List Int)} (hb : 0 ≤ b ∧ b ≤ 6) (h : pairsB a b ps = true) : spec_l3Left ps b = some ((unpL b.toNat ps).length : Int) ∧ impl_unpaired b ps = some (unpL b.toNat ps) := by
  have e : b = ((b.toNat : Nat) : Int) := by omega
  have hl : ps.length ≤ 1073741824 := by
    simp only [pairsB, Bool.and_eq_true, decide_eq_true_eq] at h
    omega
  have k1 := spec_l3Left_eq (ps := ps) hl (pairsB_two h) b.toNat (by omega)
  have k2 := impl_unpaired_eq (ps := ps) hl (pairsB_two h) b.toNat (by omega)
  rw [← e] at k1 k2
  exact ⟨k1, k2⟩
theorem pos_len {α : Type} (l : List α) : ((l.length : Int) == 0) = !decide ((l.length : Int) > 0) := by
  cases l with
  | nil => rfl
  | cons x r => rw [dec_t (by rw [List.length_cons]; omega)]; exact beq_eq_false_iff_ne.2 (by rw [List.length_cons]; omega)
theorem colV_ok {k a b : Int} {ts : List Tst} {cs : List Int} {ps : List (List Int)} (ha : 0 ≤ a ∧ a ≤ 6) (h : (colV k a b ts cs ps).2 = true) : 0 ≤ (colV k a b ts cs ps).1 ∧ (colV k a b ts cs ps).1 ≤ 6 := by
  revert h
  unfold colV
  cases k == 2
  · cases k == 3
    · cases k == 4
      · cases k == 5
        · cases k == 6 <;> (intro _; exact ha)
        · intro _; exact ha
      · cases pairsB a b ps
        · intro h; cases h
        · intro h
          have h2 := of_decide_eq_true h
          simp only [cond_true, cond_false]
          omega
    · intro h
      simp only [cond_true, cond_false, colsB, Bool.and_eq_true, decide_eq_true_eq] at h ⊢
      omega
  · intro _; exact ha
theorem partC_ok {bs cols : List Int} {p : Prt} {c : Int} (hb : colOK bs) (hc : colOK cols) (h : partC bs cols p = some c) : 0 ≤ c ∧ c ≤ 6 := by
  revert h
  unfold partC
  cases usesB p.1 p.2.2.1 p.2.2.2.1 p.2.2.2.2.1 p.2.2.2.2.2
  · intro h; cases h
  · cases p.1 == 1
    · cases (decide (0 ≤ p.2.1) && decide (p.2.1 < (cols.length : Int))) && (decide (0 ≤ p.2.2.1) && decide (p.2.2.1 < (cols.length : Int)))
      · intro h; cases h
      · simp only [cond_true, cond_false]
        cases e : (colV p.1 (cols.getD p.2.1.toNat 0) (cols.getD p.2.2.1.toNat 0) p.2.2.2.1 p.2.2.2.2.1 p.2.2.2.2.2).2
        · intro h; cases h
        · intro h
          rw [← Option.some.inj h]
          exact colV_ok (colOK_getD hc _) e
    · simp only [cond_true]
      cases decide (0 ≤ p.2.1) && decide (p.2.1 < (bs.length : Int))
      · intro h; cases h
      · intro h
        rw [← Option.some.inj h]
        exact colOK_getD hb _
/-! ## The specification -/
theorem spec_cols_eq {k lf rt : Int} {ts : List Tst} {cs : List Int} {ps : List (List Int)} {cols : List Int} (ht : ts.length ≤ 1073741824) (hcs : cs.length ≤ 1073741824) (hps : ps.length ≤ 1073741824)
    (hc : colOK cols) (h1 : 0 ≤ lf) (h2 : lf.toNat < cols.length) (h3 : binK k = true → 0 ≤ rt ∧ rt.toNat < cols.length) :
    spec_l6Columns k lf rt ts cs ps cols = some (colV k (cols.getD lf.toNat 0) (cols.getD rt.toNat 0) ts cs ps) := by
  have ca := colOK_getD hc lf.toNat
  have cb := colOK_getD hc rt.toNat
  have e1 := spec_GoodTests_eq ts (cols.getD lf.toNat 0) ht
  have e2 := spec_l1Columns_eq cs (cols.getD lf.toNat 0) hcs
  have e3 := spec_l1Pairs_eq ps (cols.getD lf.toNat 0) (cols.getD rt.toNat 0) hps
  refine spec_l6Columns.eq _ _ _ _ _ _ _ ?_
  simp only [spec_l6Columns.t, dec_t h1, dec_t h2, cond_true, e1, e2, e3, Option.bind_some, colV]
  cases k2 : k == 2
  · cases k3 : k == 3
    · cases k4 : k == 4
      · cases k5 : k == 5
        · cases k6 : k == 6
          · rfl
          · obtain ⟨g1, g2⟩ := h3 (by simp only [binK, k4, k5, k6, cond_false])
            simp only [cond_true, cond_false, dec_t g1, dec_t g2]
        · obtain ⟨g1, g2⟩ := h3 (by simp only [binK, k4, k5, cond_false, cond_true])
          simp only [cond_true, cond_false, dec_t g1, dec_t g2]
      · obtain ⟨g1, g2⟩ := h3 (by simp only [binK, k4, cond_true])
        simp only [cond_true, cond_false, dec_t g1, dec_t g2]
        cases hp : pairsB (cols.getD lf.toNat 0) (cols.getD rt.toNat 0) ps
        · rfl
        · obtain ⟨e4, _⟩ := unp_at cb hp
          have hu := unpL_len (cols.getD rt.toNat 0).toNat ps
          simp only [bang_t, cond_true, cond_false, e4, Option.bind_some]
          rw [wrap_id (by omega) (by omega)]
    · rfl
  · rfl
section
variable {bs : List Int} {parts : List Prt}
theorem spec_st14 {cols : List Int} {i k lf rt n j : Int} {ts : List Tst} {cs : List Int} {ps : List (List Int)} {b : List Int × Bool}
    (h : (bif usesB k rt ts cs ps then spec_l6Check.l2000016 bs parts cols i k lf rt ts cs ps (binK k) parts n j else some ([], false)) = some b) :
    spec_l6Check.l2000014 bs parts cols i k lf rt ts cs ps (binK k) parts n j = some b := by
  refine spec_l6Check.eq2000014 _ _ _ _ _ _ _ _ _ _ _ _ _ _ ?_
  revert h
  simp only [spec_l6Check.t2000014, usesB, bne]
  cases k == 2 <;> cases k == 3 <;> cases k == 4 <;> cases binK k <;> cases rt == 0 <;> cases decide ((ts.length : Int) > 0) <;> cases decide ((cs.length : Int) > 0) <;> cases decide ((ps.length : Int) > 0) <;> exact id
theorem binK_one {k : Int} (h : binK k = true) : (k == 1) = false := by
  cases e : k == 1
  · rfl
  · rw [beq_iff_eq.1 e] at h; cases h
theorem spec_step {cols : List Int} {i : Nat} {b : List Int × Bool} (hi : i < parts.length) (hc : cols.length = i) (hco : colOK cols) (hp : prtOK (parts.getD i zP)) (hl : i ≤ 100000)
    (h : (match partC bs cols (parts.getD i zP) with | some c => spec_l6Check.l11 bs parts (cols ++ [c]) parts (parts.length : Int) ((i + 1 : Nat) : Int) | none => some ([], false)) = some b) :
    spec_l6Check.l11 bs parts cols parts (parts.length : Int) (i : Int) = some b := by
  refine spec_l6Check.eq11 _ _ _ _ _ _ ?_
  simp only [spec_l6Check.t11, ix_lt, ix_nn, ix_nat, dec_t hi, cond_true]
  obtain ⟨p1, p2, p3⟩ := hp
  generalize parts.getD i zP = p at h p1 p2 p3 ⊢
  obtain ⟨k, lf, rt, ts, cs, ps⟩ := p
  simp only at p1 p2 p3 ⊢
  have key : spec_l6Check.l2000014 bs parts cols (i : Int) k lf rt ts cs ps (binK k) parts (parts.length : Int) (i : Int) = some b := by
    refine spec_st14 ?_
    simp only [partC] at h
    cases hu : usesB k rt ts cs ps with
    | false => rw [hu] at h; exact h
    | true =>
      rw [hu] at h
      simp only [cond_true] at h ⊢
      have l26 : ∀ c : Int, spec_l6Check.l11 bs parts (cols ++ [c]) parts (parts.length : Int) ((i + 1 : Nat) : Int) = some b → spec_l6Check.l2000026 bs parts (cols ++ [c]) parts (parts.length : Int) (i : Int) = some b := fun c hh =>
        spec_l6Check.eq2000026 _ _ _ _ _ _ (by simp only [spec_l6Check.t2000026, wrap_succ (show i < 9223372036854775807 by omega)]; exact hh)
      have hs : ∀ c : Int, cols.length + [c].length ≤ 4294967296 := fun c => by simp only [List.length_cons, List.length_nil]; omega
      refine spec_l6Check.eq2000016 _ _ _ _ _ _ _ _ _ _ _ _ _ _ ?_
      simp only [spec_l6Check.t2000016]
      cases k1 : k == 1 with
      | true =>
        rw [k1] at h
        simp only [cond_true] at h ⊢
        by_cases g1 : lf < 0
        · simp only [dec_f (show ¬ 0 ≤ lf by omega), Bool.false_and, cond_false] at h
          simp only [dec_t g1, cond_true]; exact h
        · by_cases g2 : lf ≥ (bs.length : Int)
          · simp only [dec_f (show ¬ lf < (bs.length : Int) by omega), Bool.and_false, cond_false] at h
            simp only [dec_f g1, dec_t g2, cond_true, cond_false]; exact h
          · have g3 : 0 ≤ lf := by omega
            have g4 : lf < (bs.length : Int) := by omega
            have g5 : lf.toNat < bs.length := by omega
            simp only [dec_t g3, dec_t g4, Bool.and_self, cond_true] at h
            simp only [dec_f g1, dec_f g2, cond_false]
            refine spec_l6Check.eq2000019 _ _ _ _ _ _ _ _ _ _ _ _ ?_
            simp only [spec_l6Check.t2000019, dec_t g3, dec_t g5, cond_true, dec_t (hs (bs.getD lf.toNat 0))]
            exact l26 _ h
      | false =>
        rw [k1] at h
        simp only [cond_false] at h ⊢
        by_cases g1 : lf < 0
        · simp only [dec_f (show ¬ 0 ≤ lf by omega), Bool.false_and, cond_false] at h
          simp only [dec_t g1, cond_true]; exact h
        · by_cases g2 : lf ≥ (i : Int)
          · simp only [dec_f (show ¬ lf < (cols.length : Int) by omega), Bool.and_false, Bool.false_and, cond_false] at h
            simp only [dec_f g1, dec_t g2, cond_true, cond_false]; exact h
          · have g3 : 0 ≤ lf := by omega
            have g4 : lf < (cols.length : Int) := by omega
            have g5 : lf.toNat < cols.length := by omega
            simp only [dec_t g3, dec_t g4, Bool.and_self, Bool.true_and] at h
            simp only [dec_f g1, dec_f g2, cond_false]
            have fin : 0 ≤ rt → rt < (cols.length : Int) → spec_l6Check.l2000022 bs parts cols k lf rt ts cs ps parts (parts.length : Int) (i : Int) = some b := by
              intro r1 r2
              simp only [dec_t r1, dec_t r2, Bool.and_self, cond_true] at h
              have e := spec_cols_eq (k := k) (lf := lf) (rt := rt) p1 p2 p3 hco g3 g5 (fun _ => ⟨r1, by omega⟩)
              refine spec_l6Check.eq2000022 _ _ _ _ _ _ _ _ _ _ _ _ ?_
              simp only [spec_l6Check.t2000022, e, Option.bind_some]
              cases hv : (colV k (cols.getD lf.toNat 0) (cols.getD rt.toNat 0) ts cs ps).2 with
              | false => rw [hv] at h; simp only [bang_f, cond_true, cond_false] at h ⊢; exact h
              | true =>
                rw [hv] at h
                simp only [bang_t, cond_true, cond_false, dec_t (hs _)] at h ⊢
                exact l26 _ h
            cases hk : binK k with
            | true =>
              by_cases r1 : rt < 0
              · simp only [dec_f (show ¬ 0 ≤ rt by omega), Bool.false_and, cond_false] at h
                simp only [dec_t r1, cond_true]; exact h
              · by_cases r2 : rt ≥ (i : Int)
                · simp only [dec_f (show ¬ rt < (cols.length : Int) by omega), Bool.and_false, cond_false] at h
                  simp only [dec_f r1, dec_t r2, cond_true, cond_false]; exact h
                · simp only [dec_f r1, dec_f r2, cond_true, cond_false]
                  exact fin (by omega) (by omega)
            | false =>
              simp only [cond_false]
              have r0 : rt = 0 := by
                simp only [usesB, hk, Bool.false_or, Bool.and_eq_true, beq_iff_eq] at hu
                exact hu.2.2.2
              exact fin (by omega) (by omega)
  simp only [binK] at key
  cases k4 : k == 4 <;> cases k5 : k == 5 <;> simp only [k4, k5, cond_true, cond_false] at key ⊢ <;> exact key
theorem chk_inv {c : Int} {cols : List Int} (hco : colOK cols) (h : 0 ≤ c ∧ c ≤ 6) : colOK (cols ++ [c]) := fun x hx => by
  rcases List.mem_append.1 hx with hx | hx
  · exact hco x hx
  · rw [List.mem_singleton.1 hx]; exact h
theorem spec_chk_loop (hbs : colOK bs) (hl : parts.length ≤ 12) (hp : ∀ p, p ∈ parts → prtOK p) : ∀ (n i : Nat) (cols : List Int), i + n = parts.length → cols.length = i → colOK cols →
    spec_l6Check.l11 bs parts cols parts (parts.length : Int) (i : Int) = some (outC (chkF bs (parts.drop i) cols))
  | 0, i, cols, hi, _, _ => by
    have e : i = parts.length := by omega
    subst e
    rw [List.drop_length]
    exact spec_l6Check.eq11 _ _ _ _ _ _ (by simp only [spec_l6Check.t11, ix_lt, Nat.lt_irrefl, decide_false, cond_false, chkF, outC])
  | n + 1, i, cols, hi, hc, hco => by
    have g : i < parts.length := by omega
    refine spec_step g hc hco (hp _ (getD_mem zP g)) (by omega) ?_
    rw [drop_getD zP g, chkF]
    cases e : partC bs cols (parts.getD i zP) with
    | none => rfl
    | some c => exact spec_chk_loop hbs hl hp n (i + 1) (cols ++ [c]) (by omega) (by rw [List.length_append, List.length_singleton]; omega) (chk_inv hco (partC_ok hbs hco e))
/-- What a check of a view answers. -/
def checkV (bs : List Int) (parts : List Prt) : Option (List Int) :=
  bif (bs.all (inB 0 6) && (inB 1 4 (bs.length : Int) && inB 1 12 (parts.length : Int))) then chkF bs parts [] else none
theorem all_col {l : List Int} (h : l.all (inB 0 6) = true) : colOK l := fun x hx => inB_iff.1 (List.all_eq_true.1 h x hx)
theorem spec_base_loop (hb : bs.length ≤ 2000000) (hp : ∀ p, p ∈ parts → prtOK p) : ∀ (n i : Nat), i + n = bs.length → (bs.take i).all (inB 0 6) = true →
    spec_l6Check.l2 bs parts bs (bs.length : Int) (i : Int) = some (outC (bif (bs.drop i).all (inB 0 6) && (inB 1 4 (bs.length : Int) && inB 1 12 (parts.length : Int)) then chkF bs parts [] else none))
  | 0, i, hi, hg => by
    have e : i = bs.length := by omega
    subst e
    rw [List.take_length] at hg
    refine spec_l6Check.eq2 _ _ _ _ _ ?_
    simp only [spec_l6Check.t2, ix_lt, Nat.lt_irrefl, decide_false, cond_false, spec_l1In_eq, Option.bind_some, List.drop_length, List.all_nil, Bool.true_and]
    cases inB 1 4 (bs.length : Int) with
    | false => rfl
    | true =>
      cases h12 : inB 1 12 (parts.length : Int) with
      | false => rfl
      | true =>
        have h := inB_iff.1 h12
        simp only [bang_t, cond_true, cond_false, Bool.and_self]
        refine spec_l6Check.eq2000009 _ _ ?_
        simp only [spec_l6Check.t2000009]
        have k := spec_chk_loop (all_col hg) (by omega) hp parts.length 0 [] (by omega) rfl (fun x hx => by cases hx)
        rw [List.drop_zero] at k
        exact k
  | n + 1, i, hi, hg => by
    have g : i < bs.length := by omega
    refine spec_l6Check.eq2 _ _ _ _ _ ?_
    simp only [spec_l6Check.t2, ix_lt, ix_nn, ix_nat, dec_t g, cond_true, spec_l1In_eq, Option.bind_some]
    rw [drop_getD (0 : Int) g, List.all_cons]
    cases hq : inB 0 6 (bs.getD i 0) with
    | false => rfl
    | true =>
      simp only [bang_t, cond_false, Bool.true_and, wrap_succ (show i < 9223372036854775807 by omega)]
      refine spec_base_loop hb hp n (i + 1) (by omega) ?_
      rw [List.take_succ_eq_append_getElem g, List.all_append, hg, List.all_cons, ← getD_of_lt (z := (0 : Int)) g, hq]
      rfl
theorem spec_check_eq (hb : bs.length ≤ 2000000) (hp : ∀ p, p ∈ parts → prtOK p) : spec_l6Check bs parts = some (outC (checkV bs parts)) := by
  refine spec_l6Check.eq _ _ ?_
  simp only [spec_l6Check.t]
  have k := spec_base_loop (bs := bs) hb hp bs.length 0 (by omega) rfl
  rw [List.drop_zero] at k
  exact k
/-! ## The program -/
theorem impl_uses_eq (k lf rt : Int) (ts : List Tst) (cs : List Int) (ps : List (List Int)) : impl_Part_uses k lf rt ts cs ps = some (usesB k rt ts cs ps) := by
  refine impl_Part_uses.eq _ _ _ _ _ _ ?_
  simp only [impl_Part_uses.t, usesB, binK, pos_len]
  cases k == 2 <;> cases k == 3 <;> cases k == 4 <;> cases k == 5 <;> cases k == 6 <;> cases rt == 0 <;> cases decide ((ts.length : Int) > 0) <;> cases decide ((cs.length : Int) > 0) <;> cases decide ((ps.length : Int) > 0) <;> rfl
/-- What the program tells of a part's columns, its use apart. -/
def colsP (bs cols : List Int) (k lf rt : Int) (ts : List Tst) (cs : List Int) (ps : List (List Int)) : Int × Bool :=
  bif k == 1 then (bif decide (0 ≤ lf) && decide (lf < (bs.length : Int)) then (bs.getD lf.toNat 0, true) else (0, false)) else
  bif (decide (0 ≤ lf) && decide (lf < (cols.length : Int))) && (decide (0 ≤ rt) && decide (rt < (cols.length : Int))) then colV k (cols.getD lf.toNat 0) (cols.getD rt.toNat 0) ts cs ps else (0, false)
theorem within_len {x : Int} {n : Nat} (hn : n ≤ 2000000) : inB 0 (IntKind.i64.wrap ((n : Int) - 1)) x = (decide (0 ≤ x) && decide (x < (n : Int))) := by
  rw [wrap_id (by omega) (by omega)]
  refine bool_eq ?_
  rw [inB_iff, Bool.and_eq_true, decide_eq_true_eq, decide_eq_true_eq]
  omega
theorem impl_cols_eq {k lf rt : Int} {ts : List Tst} {cs : List Int} {ps : List (List Int)} {cols : List Int} (ht : ts.length ≤ 1073741824) (hcs : cs.length ≤ 1073741824) (hps : ps.length ≤ 1073741824)
    (hb : bs.length ≤ 2000000) (hl : cols.length ≤ 2000000) (hc : colOK cols) : ∃ c, xi0l bs parts k lf rt ts cs ps cols = some (c, (colsP bs cols k lf rt ts cs ps).2) ∧ ((colsP bs cols k lf rt ts cs ps).2 = true → c = (colsP bs cols k lf rt ts cs ps).1) := by
  have ca := colOK_getD hc lf.toNat
  have cb := colOK_getD hc rt.toNat
  have e1 := impl_GoodTests_eq ts (cols.getD lf.toNat 0) ht ca.2
  have e2 := impl_areColumns_eq cs (cols.getD lf.toNat 0) hcs
  have e3 := impl_arePairs_eq ps (cols.getD lf.toNat 0) (cols.getD rt.toNat 0) hps
  cases k1 : k == 1 with
  | true =>
    cases h1 : decide (0 ≤ lf) && decide (lf < (bs.length : Int)) with
    | false =>
      simp only [colsP, k1, h1, cond_true, cond_false]
      exact ⟨0, xi0l.eq _ _ _ _ _ _ _ _ _ (by simp only [xi0l.t, k1, impl_within_eq, within_len hb, h1, Option.bind_some, bang_f, cond_true]), fun h => by cases h⟩
    | true =>
      simp only [colsP, k1, h1, cond_true]
      simp only [Bool.and_eq_true, decide_eq_true_eq] at h1
      have g : lf.toNat < bs.length := by omega
      exact ⟨bs.getD lf.toNat 0, xi0l.eq _ _ _ _ _ _ _ _ _ (by simp only [xi0l.t, k1, impl_within_eq, within_len hb, dec_t h1.1, dec_t h1.2, dec_t g, Bool.and_self, Option.bind_some, bang_t, cond_true, cond_false]), fun _ => rfl⟩
  | false =>
    simp only [colsP, k1, cond_false]
    cases h1 : decide (0 ≤ lf) && decide (lf < (cols.length : Int)) with
    | false =>
      simp only [Bool.false_and, cond_false]
      exact ⟨0, xi0l.eq _ _ _ _ _ _ _ _ _ (by simp only [xi0l.t, k1, impl_within_eq, within_len hl, h1, Option.bind_some, bang_f, cond_true, cond_false]), fun h => by cases h⟩
    | true =>
      cases h2 : decide (0 ≤ rt) && decide (rt < (cols.length : Int)) with
      | false =>
        simp only [Bool.and_false, cond_false]
        exact ⟨0, xi0l.eq _ _ _ _ _ _ _ _ _ (by simp only [xi0l.t, k1, impl_within_eq, within_len hl, h1, h2, Option.bind_some, bang_f, bang_t, cond_true, cond_false]), fun h => by cases h⟩
      | true =>
        simp only [Bool.and_self, cond_true]
        have h1' := h1
        have h2' := h2
        simp only [Bool.and_eq_true, decide_eq_true_eq] at h1' h2'
        have g1 : lf.toNat < cols.length := by omega
        have g2 : rt.toNat < cols.length := by omega
        cases hp : (k == 4 && !(pairsB (cols.getD lf.toNat 0) (cols.getD rt.toNat 0) ps)) with
        | true =>
          rw [Bool.and_eq_true, Bool.not_eq_true', beq_iff_eq] at hp
          obtain ⟨rfl, hp⟩ := hp
          refine ⟨0, xi0l.eq _ _ _ _ _ _ _ _ _ ?_, ?_⟩
          · simp only [xi0l.t, k1, impl_within_eq, within_len hl, dec_t h1'.1, dec_t h1'.2, dec_t h2'.1, dec_t h2'.2, Bool.and_self, dec_t g1, dec_t g2, e3, hp, Option.bind_some, bang_t, bang_f, cond_true, cond_false, colV]
            rfl
          · simp only [colV, hp]
            intro h; cases h
        | false =>
          refine ⟨_, xi0l.eq _ _ _ _ _ _ _ _ _ ?_, fun _ => rfl⟩
          simp only [xi0l.t, k1, impl_within_eq, within_len hl, dec_t h1'.1, dec_t h1'.2, dec_t h2'.1, dec_t h2'.2, Bool.and_self, dec_t g1, dec_t g2, e1, e2, e3, Option.bind_some, bang_t, cond_true, cond_false, colV]
          cases k2 : k == 2
          · cases k3 : k == 3
            · cases k4 : k == 4
              · cases k5 : k == 5
                · cases k6 : k == 6 <;> rfl
                · rfl
              · rw [k4, Bool.true_and, Bool.not_eq_false'] at hp
                obtain ⟨_, e4⟩ := unp_at cb hp
                have hu := unpL_len (cols.getD rt.toNat 0).toNat ps
                have e5 := impl_joinedColumns.eq (cols.getD lf.toNat 0) (cols.getD rt.toNat 0) ps (b := cols.getD lf.toNat 0 + ((unpL (cols.getD rt.toNat 0).toNat ps).length : Int)) (by simp only [impl_joinedColumns.t, e4, Option.bind_some]; rw [wrap_id (by omega) (by omega)])
                have e6 : inB 0 6 (cols.getD lf.toNat 0 + ((unpL (cols.getD rt.toNat 0).toNat ps).length : Int)) = decide (cols.getD lf.toNat 0 + ((unpL (cols.getD rt.toNat 0).toNat ps).length : Int) ≤ 6) := bool_eq (by rw [inB_iff, decide_eq_true_eq]; omega)
                simp only [hp, bang_t, cond_true, cond_false, e5, impl_isColumns_eq, e6, Option.bind_some]
            · rfl
          · rfl
theorem impl_step {cols : List Int} {i : Nat} {b : List Int × Bool} (hb : bs.length ≤ 2000000) (hi : i < parts.length) (hc : cols.length = i) (hco : colOK cols) (hp : prtOK (parts.getD i zP)) (hl : i ≤ 100000)
    (h : (match partC bs cols (parts.getD i zP) with | some c => impl_CheckView.l5 bs parts (cols ++ [c]) parts (parts.length : Int) ((i + 1 : Nat) : Int) | none => some ([], false)) = some b) :
    impl_CheckView.l5 bs parts cols parts (parts.length : Int) (i : Int) = some b := by
  refine impl_CheckView.eq5 _ _ _ _ _ _ ?_
  simp only [impl_CheckView.t5, ix_lt, ix_nn, ix_nat, dec_t hi, cond_true]
  obtain ⟨p1, p2, p3⟩ := hp
  generalize parts.getD i zP = p at h p1 p2 p3 ⊢
  obtain ⟨k, lf, rt, ts, cs, ps⟩ := p
  simp only at p1 p2 p3 ⊢
  obtain ⟨c, e1, e2⟩ := impl_cols_eq (bs := bs) (parts := parts) (k := k) (lf := lf) (rt := rt) p1 p2 p3 hb (by omega) hco
  have hpc : partC bs cols (k, lf, rt, ts, cs, ps) = bif usesB k rt ts cs ps && (colsP bs cols k lf rt ts cs ps).2 then some (colsP bs cols k lf rt ts cs ps).1 else none := by
    simp only [partC, colsP]
    cases usesB k rt ts cs ps
    · rfl
    · cases k == 1
      · cases (decide (0 ≤ lf) && decide (lf < (cols.length : Int))) && (decide (0 ≤ rt) && decide (rt < (cols.length : Int))) <;> rfl
      · cases decide (0 ≤ lf) && decide (lf < (bs.length : Int)) <;> rfl
  rw [hpc] at h
  simp only [e1, impl_uses_eq, Option.bind_some]
  have hs : cols.length + [c].length ≤ 4294967296 := by simp only [List.length_cons, List.length_nil]; omega
  cases h1 : (colsP bs cols k lf rt ts cs ps).2 with
  | false => rw [h1, Bool.and_false] at h; exact h
  | true =>
    cases h2 : usesB k rt ts cs ps with
    | false => rw [h2] at h; exact h
    | true =>
      rw [h1, h2, ← e2 h1] at h
      simp only [bang_t, cond_false, dec_t hs, cond_true, wrap_succ (show i < 9223372036854775807 by omega)]
      exact h
theorem impl_chk_loop (hb : bs.length ≤ 2000000) (hbs : colOK bs) (hl : parts.length ≤ 12) (hp : ∀ p, p ∈ parts → prtOK p) : ∀ (n i : Nat) (cols : List Int), i + n = parts.length → cols.length = i → colOK cols →
    impl_CheckView.l5 bs parts cols parts (parts.length : Int) (i : Int) = some (outC (chkF bs (parts.drop i) cols))
  | 0, i, cols, hi, _, _ => by
    have e : i = parts.length := by omega
    subst e
    rw [List.drop_length]
    exact impl_CheckView.eq5 _ _ _ _ _ _ (by simp only [impl_CheckView.t5, ix_lt, Nat.lt_irrefl, decide_false, cond_false, chkF, outC])
  | n + 1, i, cols, hi, hc, hco => by
    have g : i < parts.length := by omega
    refine impl_step hb g hc hco (hp _ (getD_mem zP g)) (by omega) ?_
    rw [drop_getD zP g, chkF]
    cases e : partC bs cols (parts.getD i zP) with
    | none => rfl
    | some c => exact impl_chk_loop hb hbs hl hp n (i + 1) (cols ++ [c]) (by omega) (by rw [List.length_append, List.length_singleton]; omega) (chk_inv hco (partC_ok hbs hco e))
theorem impl_check_eq (hb : bs.length ≤ 2000000) (hp : ∀ p, p ∈ parts → prtOK p) : impl_CheckView bs parts = some (outC (checkV bs parts)) := by
  refine impl_CheckView.eq _ _ ?_
  have ea := xi0i_ok bs (inB 0 6) (by omega) (fun x _ => impl_isColumns_eq x)
  simp only [impl_CheckView.t, impl_within_eq, ea, Option.bind_some, checkV]
  cases h4 : inB 1 4 (bs.length : Int) with
  | false => cases bs.all (inB 0 6) <;> rfl
  | true =>
    cases ha : bs.all (inB 0 6) with
    | false => rfl
    | true =>
      cases h12 : inB 1 12 (parts.length : Int) with
      | false => rfl
      | true =>
        have h := inB_iff.1 h12
        simp only [bang_t, cond_false, Bool.and_self, cond_true]
        have k := impl_chk_loop hb (all_col ha) (by omega) hp parts.length 0 [] (by omega) rfl (fun x hx => by cases hx)
        rw [List.drop_zero] at k
        exact k
end
end GoV

/- Copies of views; what a check says of each part. -/
namespace GoV
open Go
def bndP (p : Prt) : Prop := p.2.2.2.1.length ≤ 1073741824 ∧ p.2.2.2.2.1.length ≤ 1073741824 ∧ p.2.2.2.2.2.length ≤ 1073741824 ∧ ∀ x, x ∈ p.2.2.2.2.2 → x.length ≤ 1073741824
theorem spec_ownPart_eq {k lf rt : Int} {ts : List Tst} {cs : List Int} {ps : List (List Int)} (h : bndP (k, lf, rt, ts, cs, ps)) : spec_l6OwnPart k lf rt ts cs ps = some (k, lf, rt, ts, cs, ps) := by
  obtain ⟨h1, h2, h3, h4⟩ := h
  simp only at h1 h2 h3 h4
  have key : ∀ (r a : List (List Int)), a ++ r = ps → spec_l6OwnPart.l5 k lf rt ts cs ps 0 0 0 [] [] [] a ps (ps.length : Int) (a.length : Int) = some (k, lf, rt, ts, cs, ps) := by
    intro r
    induction r with
    | nil =>
      intro a ha
      rw [List.append_nil] at ha
      subst ha
      exact spec_l6OwnPart.eq5 _ _ _ _ _ _ _ _ _ _ _ _ _ _ _ _ (by simp only [spec_l6OwnPart.t5, ix_lt, Nat.lt_irrefl, decide_false, cond_false])
    | cons x r ih =>
      intro a ha
      have g : a.length < ps.length := by rw [← ha, List.length_append, List.length_cons]; omega
      have hx : ps.getD a.length [] = x := by rw [← ha]; simp
      have hxl := h4 x (by rw [← ha]; simp)
      have g1 : ([] : List Int).length + x.length ≤ 4294967296 := by rw [List.length_nil]; omega
      have g2 : a.length + [x].length ≤ 4294967296 := by simp only [List.length_cons, List.length_nil]; omega
      have k := ih (a ++ [x]) (by rw [List.append_assoc]; exact ha)
      rw [List.length_append, List.length_singleton] at k
      refine spec_l6OwnPart.eq5 _ _ _ _ _ _ _ _ _ _ _ _ _ _ _ _ ?_
      simp only [spec_l6OwnPart.t5, ix_lt, ix_nn, ix_nat, dec_t g, cond_true, hx, dec_t g1, dec_t g2, List.nil_append, wrap_succ (show a.length < 9223372036854775807 by omega)]
      exact k
  have g1 : ([] : List Int).length + ts.length ≤ 4294967296 := by rw [List.length_nil]; omega
  have g2 : ([] : List Int).length + cs.length ≤ 4294967296 := by rw [List.length_nil]; omega
  refine spec_l6OwnPart.eq _ _ _ _ _ _ ?_
  simp only [spec_l6OwnPart.t, dec_t g1, dec_t g2, cond_true, List.nil_append]
  exact key ps [] rfl
theorem slices_Clone_Test_eq (l : List Tst) (hl : l.length ≤ 1073741824) : xs0g l = some l := by
  refine xs0g.eq l ?_
  have : l.length ≤ 4294967296 := by omega
  simp only [xs0g.t, dec_t this, cond_true]
theorem impl_ownPart_eq {k lf rt : Int} {ts : List Tst} {cs : List Int} {ps : List (List Int)} (h : bndP (k, lf, rt, ts, cs, ps)) : impl_Part_own k lf rt ts cs ps = some (k, lf, rt, ts, cs, ps) := by
  obtain ⟨h1, h2, h3, h4⟩ := h
  simp only at h1 h2 h3 h4
  have key : ∀ (r a : List (List Int)), a ++ r = ps → impl_Part_own.l4 k lf rt ts cs ps 0 0 0 [] [] [] a ps (ps.length : Int) (a.length : Int) = some (k, lf, rt, ts, cs, ps) := by
    intro r
    induction r with
    | nil =>
      intro a ha
      rw [List.append_nil] at ha
      subst ha
      exact impl_Part_own.eq4 _ _ _ _ _ _ _ _ _ _ _ _ _ _ _ _ (by simp only [impl_Part_own.t4, ix_lt, Nat.lt_irrefl, decide_false, cond_false])
    | cons x r ih =>
      intro a ha
      have g : a.length < ps.length := by rw [← ha, List.length_append, List.length_cons]; omega
      have hx : ps.getD a.length [] = x := by rw [← ha]; simp
      have hxl := h4 x (by rw [← ha]; simp)
      have g2 : a.length + [x].length ≤ 4294967296 := by simp only [List.length_cons, List.length_nil]; omega
      have k := ih (a ++ [x]) (by rw [List.append_assoc]; exact ha)
      rw [List.length_append, List.length_singleton] at k
      refine impl_Part_own.eq4 _ _ _ _ _ _ _ _ _ _ _ _ _ _ _ _ ?_
      simp only [impl_Part_own.t4, ix_lt, ix_nn, ix_nat, dec_t g, cond_true, hx, xs0k_eq x hxl, Option.bind_some, dec_t g2, wrap_succ (show a.length < 9223372036854775807 by omega)]
      exact k
  refine impl_Part_own.eq _ _ _ _ _ _ ?_
  simp only [impl_Part_own.t, slices_Clone_Test_eq ts h1, xs0k_eq cs h2, Option.bind_some]
  exact key ps [] rfl
section
variable {bs : List Int} {parts : List Prt} (hb : bs.length ≤ 1073741824) (hl : parts.length ≤ 1073741824) (hp : ∀ p, p ∈ parts → bndP p)
include hb hl hp
theorem spec_own_view : spec_l6Own bs parts = some (bs, parts) := by
  have key : ∀ (r a : List Prt), a ++ r = parts → spec_l6Own.l3 [] [] bs a parts (parts.length : Int) (a.length : Int) = some (bs, parts) := by
    intro r
    induction r with
    | nil =>
      intro a ha
      rw [List.append_nil] at ha
      subst ha
      exact spec_l6Own.eq3 _ _ _ _ _ _ _ (by simp only [spec_l6Own.t3, ix_lt, Nat.lt_irrefl, decide_false, cond_false])
    | cons x r ih =>
      intro a ha
      have g : a.length < parts.length := by rw [← ha, List.length_append, List.length_cons]; omega
      have hx : parts.getD a.length ((0 : Int), (0 : Int), (0 : Int), [], [], []) = x := by rw [← ha]; simp
      have e := spec_ownPart_eq (hp x (by rw [← ha]; simp))
      have g2 : a.length + [x].length ≤ 4294967296 := by simp only [List.length_cons, List.length_nil]; omega
      have k := ih (a ++ [x]) (by rw [List.append_assoc]; exact ha)
      rw [List.length_append, List.length_singleton] at k
      refine spec_l6Own.eq3 _ _ _ _ _ _ _ ?_
      simp only [spec_l6Own.t3, ix_lt, ix_nn, ix_nat, dec_t g, cond_true, hx, e, Option.bind_some, wrap_succ (show a.length < 9223372036854775807 by omega)]
      rw [dec_t (show a.length + [(x.1, x.2.1, x.2.2.1, x.2.2.2.1, x.2.2.2.2.1, x.2.2.2.2.2)].length ≤ 4294967296 from g2), cond_true]
      exact k
  have g1 : ([] : List Int).length + bs.length ≤ 4294967296 := by rw [List.length_nil]; omega
  refine spec_l6Own.eq _ _ ?_
  simp only [spec_l6Own.t, dec_t g1, cond_true, List.nil_append]
  exact key parts [] rfl
theorem impl_own_view : impl_View_own bs parts = some (bs, parts) := by
  have key : ∀ (r a : List Prt), a ++ r = parts → impl_View_own.l3 [] [] bs a parts (parts.length : Int) (a.length : Int) = some (bs, parts) := by
    intro r
    induction r with
    | nil =>
      intro a ha
      rw [List.append_nil] at ha
      subst ha
      exact impl_View_own.eq3 _ _ _ _ _ _ _ (by simp only [impl_View_own.t3, ix_lt, Nat.lt_irrefl, decide_false, cond_false])
    | cons x r ih =>
      intro a ha
      have g : a.length < parts.length := by rw [← ha, List.length_append, List.length_cons]; omega
      have hx : parts.getD a.length ((0 : Int), (0 : Int), (0 : Int), [], [], []) = x := by rw [← ha]; simp
      have e := impl_ownPart_eq (hp x (by rw [← ha]; simp))
      have g2 : a.length + [x].length ≤ 4294967296 := by simp only [List.length_cons, List.length_nil]; omega
      have k := ih (a ++ [x]) (by rw [List.append_assoc]; exact ha)
      rw [List.length_append, List.length_singleton] at k
      refine impl_View_own.eq3 _ _ _ _ _ _ _ ?_
      simp only [impl_View_own.t3, ix_lt, ix_nn, ix_nat, dec_t g, cond_true, hx, e, Option.bind_some, wrap_succ (show a.length < 9223372036854775807 by omega)]
      rw [dec_t (show a.length + [(x.1, x.2.1, x.2.2.1, x.2.2.2.1, x.2.2.2.2.1, x.2.2.2.2.2)].length ≤ 4294967296 from g2), cond_true]
      exact k
  refine impl_View_own.eq _ _ ?_
  simp only [impl_View_own.t, xs0k_eq bs hb, Option.bind_some]
  exact key parts [] rfl
end
/-- What a check that goes through says of each part. -/
theorem chkF_at {bs : List Int} : ∀ (l : List Prt) (acc c : List Int), chkF bs l acc = some c → c.length = acc.length + l.length ∧ c.take acc.length = acc ∧
    ∀ i, i < l.length → partC bs (c.take (acc.length + i)) (l.getD i zP) = some (c.getD (acc.length + i) 0)
  | [], acc, c, h => by
    rw [chkF] at h
    obtain rfl := Option.some.inj h
    exact ⟨rfl, List.take_length, fun i hi => absurd hi (by simp)⟩
  | p :: r, acc, c, h => by
    rw [chkF] at h
    cases e : partC bs acc p with
    | none => rw [e] at h; cases h
    | some x =>
      rw [e] at h
      obtain ⟨h1, h2, h3⟩ := chkF_at r (acc ++ [x]) c h
      rw [List.length_append, List.length_singleton] at h1 h2 h3
      have h4 : c.take acc.length = acc := by
        have := congrArg (List.take acc.length) h2
        rw [List.take_take, Nat.min_eq_left (by omega), List.take_left] at this
        exact this
      refine ⟨by rw [h1, List.length_cons]; omega, h4, fun i hi => ?_⟩
      cases i with
      | zero =>
        rw [Nat.add_zero, h4, List.getD_cons_zero, e]
        have : (c.take (acc.length + 1)).getD acc.length 0 = x := by rw [h2]; simp
        rw [← this, getD_of_lt (by rw [List.length_take]; omega), getD_of_lt (by omega), List.getElem_take]
      | succ i =>
        rw [List.getD_cons_succ, show acc.length + (i + 1) = acc.length + 1 + i by omega]
        exact h3 i (by simpa using hi)
theorem partC_left {bs cols : List Int} {p : Prt} {c : Int} (h : partC bs cols p = some c) (h1 : (p.1 == 1) = false) : (0 ≤ p.2.1 ∧ p.2.1 < (cols.length : Int)) ∧ 0 ≤ p.2.2.1 ∧ p.2.2.1 < (cols.length : Int) := by
  simp only [partC, h1, cond_false] at h
  cases hu : usesB p.1 p.2.2.1 p.2.2.2.1 p.2.2.2.2.1 p.2.2.2.2.2 with
  | false => rw [hu] at h; cases h
  | true =>
    rw [hu, cond_true] at h
    cases hr : (decide (0 ≤ p.2.1) && decide (p.2.1 < (cols.length : Int))) && (decide (0 ≤ p.2.2.1) && decide (p.2.2.1 < (cols.length : Int))) with
    | false => rw [hr] at h; cases h
    | true =>
      simp only [Bool.and_eq_true, decide_eq_true_eq] at hr
      exact hr
theorem checkV_some {bs cols : List Int} {parts : List Prt} (h : checkV bs parts = some cols) : (colOK bs ∧ (1 ≤ (bs.length : Int) ∧ (bs.length : Int) ≤ 4) ∧ 1 ≤ (parts.length : Int) ∧ (parts.length : Int) ≤ 12) ∧ chkF bs parts [] = some cols := by
  unfold checkV at h
  cases e : (bs.all (inB 0 6) && (inB 1 4 (bs.length : Int) && inB 1 12 (parts.length : Int))) with
  | false => rw [e] at h; cases h
  | true =>
    rw [e, cond_true] at h
    simp only [Bool.and_eq_true] at e
    exact ⟨⟨all_col e.1, inB_iff.1 e.2.1, inB_iff.1 e.2.2⟩, h⟩
abbrev prtTy : Ty := .pair (.int .i64) (.pair (.int .i64) (.pair (.int .i64) (.pair (.sl (.pair (.int .i64) (.pair (.int .i64) (.int .i64)))) (.pair (.sl (.int .i64)) (.sl (.sl (.int .i64)))))))
theorem prt_sz (p : Prt) : szT prtTy p = p.2.2.2.1.length + (p.2.2.2.2.1.length + szT (.sl (.sl (.int .i64))) p.2.2.2.2.2) := by
  show 0 + (0 + (0 + (szT (.sl (.pair (.int .i64) (.pair (.int .i64) (.int .i64)))) p.2.2.2.1 + (szT (.sl (.int .i64)) p.2.2.2.2.1 + szT (.sl (.sl (.int .i64))) p.2.2.2.2.2)))) = _
  rw [szT_sl_flat (t := .pair (.int .i64) (.pair (.int .i64) (.int .i64))) p.2.2.2.1 rfl, szT_sl_flat (t := .int .i64) p.2.2.2.2.1 rfl]
  omega
theorem prt_bnd {p : Prt} {B : Nat} (h : szT prtTy p ≤ B) (hB : B ≤ 1073741824) : bndP p := by
  rw [prt_sz] at h
  have h2 := szT_len (t := .sl (.int .i64)) (l := p.2.2.2.2.2)
  refine ⟨by omega, by omega, by omega, fun x hx => ?_⟩
  have h3 := szT_mem (t := .sl (.int .i64)) hx
  have h4 := szT_len (t := .int .i64) (l := x)
  omega
theorem sz_all {t : Ty} {B : Nat} : ∀ (l : List t.C), (∀ x, x ∈ l → szT t x ≤ B) → szT (.sl t) l ≤ l.length * (B + 1)
  | [], _ => by simp [szT]
  | x :: r, h => by
    have h1 := sz_all r fun y hy => h y (List.mem_cons_of_mem _ hy)
    have h2 := h x (by simp)
    simp only [szT, List.length_cons, List.map_cons, List.sum_cons] at h1 ⊢
    rw [Nat.succ_mul]
    omega
end GoV

/- PushDown: the program's answer is the specification's. -/
namespace GoV
open Go
abbrev viewTy : Ty := .pair (.sl (.int .i64)) (.sl prtTy)
theorem view_small {bs : List Int} {parts : List Prt} (hb : szT (.sl (.int .i64)) bs ≤ 1048576) (hl : parts.length ≤ 15) (h : ∀ p, p ∈ parts → szT prtTy p ≤ 1048576) : szT viewTy (bs, parts) ≤ 1073741824 := by
  show szT (.sl (.int .i64)) bs + szT (.sl prtTy) parts ≤ _
  have h1 := sz_all (t := prtTy) parts h
  have h2 : parts.length * (1048576 + 1) ≤ 15 * (1048576 + 1) := Nat.mul_le_mul_right _ hl
  omega
theorem FnExactPushDown_same (v0 : List Int) (v1 : List (Int × Int × Int × List (Int × Int × Int) × List Int × List (List Int))) (w0 : WfT (.pair (.sl (.int .i64)) (.sl (.pair (.int .i64) (.pair (.int .i64) (.pair (.int .i64) (.pair (.sl (.pair (.int .i64) (.pair (.int .i64) (.int .i64)))) (.pair (.sl (.int .i64)) (.sl (.sl (.int .i64)))))))))) (v0, v1))
    (hz0 : szT (.pair (.sl (.int .i64)) (.sl (.pair (.int .i64) (.pair (.int .i64) (.pair (.int .i64) (.pair (.sl (.pair (.int .i64) (.pair (.int .i64) (.int .i64)))) (.pair (.sl (.int .i64)) (.sl (.sl (.int .i64)))))))))) (v0, v1) ≤ 1048576) :
    ∃ (a : List Int) (b : List (Int × Int × Int × List (Int × Int × Int) × List Int × List (List Int))) (ok : Bool), spec_PushDown v0 v1 = some (a, b, ok) ∧ impl_PushDown v0 v1 = some (a, b, ok) ∧ szT (.pair (.sl (.int .i64)) (.sl (.pair (.int .i64) (.pair (.int .i64) (.pair (.int .i64) (.pair (.sl (.pair (.int .i64) (.pair (.int .i64) (.int .i64)))) (.pair (.sl (.int .i64)) (.sl (.sl (.int .i64)))))))))) (a, b) ≤ 1073741824 := by
  have hz : szT (.sl (.int .i64)) v0 + szT (.sl prtTy) v1 ≤ 1048576 := hz0
  have z1 := szT_len (t := .int .i64) (l := v0)
  have z2 := szT_len (t := prtTy) (l := v1)
  have z3 : ∀ p, p ∈ v1 → szT prtTy p ≤ 1048576 := fun p h => by have := szT_mem (t := prtTy) h; omega
  have z4 : ∀ p, p ∈ v1 → bndP p := fun p h => prt_bnd (z3 p h) (by omega)
  have z5 : ∀ p, p ∈ v1 → prtOK p := fun p h => ⟨(z4 p h).1, (z4 p h).2.1, (z4 p h).2.2.1⟩
  have hlen : v0.length ≤ 2000000 := by omega
  · have e1 := spec_check_eq hlen z5
    have e2 := impl_check_eq hlen z5
    have e3 := spec_own_view (bs := v0) (parts := v1) (by omega) (by omega) z4
    have e4 := impl_own_view (bs := v0) (parts := v1) (by omega) (by omega) z4
    cases hc : checkV v0 v1 with
    | none =>
      rw [hc] at e1 e2
      exact ⟨[], [], false, spec_PushDown.eq _ _ (by simp only [spec_PushDown.t, e1, outC, Option.bind_some, bang_f, cond_true]), impl_PushDown.eq _ _ (by simp only [impl_PushDown.t, e2, outC, Option.bind_some, bang_f, cond_true]), view_small (by simp [szT]) (by simp) (by simp)⟩
    | some cols =>
      rw [hc] at e1 e2
      obtain ⟨⟨hbs, _, hn1, hn2⟩, hch⟩ := checkV_some hc
      obtain ⟨c1, _, c3⟩ := chkF_at v1 [] cols hch
      simp only [List.length_nil, Nat.zero_add] at c1 c3
      have hw : IntKind.i64.wrap ((v1.length : Int) - 1) = ((v1.length - 1 : Nat) : Int) := by rw [wrap_id (by omega) (by omega)]; omega
      have hw2 : IntKind.i64.wrap ((v1.length : Int) + 2) = (v1.length : Int) + 2 := wrap_id (by omega) (by omega)
      have g0 : v1.length - 1 < v1.length := by omega
      have hsame : szT viewTy (v0, v1) ≤ 1073741824 := by
        show szT (.sl (.int .i64)) v0 + szT (.sl prtTy) v1 ≤ _
        omega
      have hlast : szT prtTy (v1.getD (v1.length - 1) zP) ≤ 1048576 := z3 _ (getD_mem zP g0)
      have hbl := z4 _ (getD_mem zP g0)
      have c4 := c3 (v1.length - 1) g0
      have nv : ∀ k : Nat, k < v1.length → v1.getD k ((0 : Int), (0 : Int), (0 : Int), [], [], []) = v1.getD k zP := fun _ _ => rfl
      generalize hL : v1.getD (v1.length - 1) zP = L at hlast hbl c4
      have hL' : v1.getD (v1.length - 1) ((0 : Int), (0 : Int), (0 : Int), [], [], []) = L := hL
      obtain ⟨k, lf, rt, ts, cs, ps⟩ := L
      cases h2 : k == 2 with
      | false =>
        have h2' : (k != 2) = true := by simp only [bne, h2, Bool.not_false]
        exact ⟨v0, v1, true, spec_PushDown.eq _ _ (by simp only [spec_PushDown.t, e1, e3, outC, hw, ix_nn, ix_nat, dec_t g0, hL', h2', Option.bind_some, bang_t, cond_true, cond_false]), impl_PushDown.eq _ _ (by simp only [impl_PushDown.t, e2, e4, outC, hw, ix_nn, ix_nat, dec_t g0, hL', h2', Option.bind_some, bang_t, cond_true, cond_false]), hsame⟩
      | true =>
        have h2' : (k != 2) = false := by simp only [bne, h2, Bool.not_true]
        have hk : k = 2 := beq_iff_eq.1 h2
        have h1' : (k == 1) = false := by rw [hk]; rfl
        obtain ⟨⟨q1, q2⟩, _⟩ := partC_left c4 h1'
        have q1 : 0 ≤ lf := q1
        have q2 : lf < ((List.take (v1.length - 1) cols).length : Int) := q2
        rw [List.length_take] at q2
        have q3 : lf.toNat < v1.length := by omega
        have hzq := z3 _ (getD_mem zP q3)
        generalize hQ : v1.getD lf.toNat zP = Q at hzq
        have hQ' : v1.getD lf.toNat ((0 : Int), (0 : Int), (0 : Int), [], [], []) = Q := hQ
        obtain ⟨qk, ql, qr, qt, qc, qp⟩ := Q
        cases h5 : qk == 5 with
        | false =>
          have h5' : (qk != 5) = true := by simp only [bne, h5, Bool.not_false]
          exact ⟨v0, v1, true, spec_PushDown.eq _ _ (by simp only [spec_PushDown.t, e1, e3, outC, hw, ix_nn, ix_nat, dec_t g0, hL', h2', dec_t q1, dec_t q3, hQ', h5', Option.bind_some, bang_t, cond_true, cond_false]), impl_PushDown.eq _ _ (by simp only [impl_PushDown.t, e2, e4, outC, hw, ix_nn, ix_nat, dec_t g0, hL', h2', dec_t q1, dec_t q3, hQ', h5', Option.bind_some, bang_t, cond_true, cond_false]), hsame⟩
        | true =>
          have h5' : (qk != 5) = false := by simp only [bne, h5, Bool.not_true]
          by_cases h12 : (v1.length : Int) + 2 > 12
          · exact ⟨v0, v1, true, spec_PushDown.eq _ _ (by simp only [spec_PushDown.t, e1, e3, outC, hw, hw2, ix_nn, ix_nat, dec_t g0, hL', h2', dec_t q1, dec_t q3, hQ', h5', dec_t h12, Option.bind_some, bang_t, cond_true, cond_false]), impl_PushDown.eq _ _ (by simp only [impl_PushDown.t, e2, e4, outC, hw, hw2, ix_nn, ix_nat, dec_t g0, hL', h2', dec_t q1, dec_t q3, hQ', h5', dec_t h12, Option.bind_some, bang_t, cond_true, cond_false]), hsame⟩
          · have o1 := spec_ownPart_eq hbl
            have o2 := impl_ownPart_eq hbl
            have t0 : (Option.none : Option Int).getD 0 ≤ ((v1.length - 1 : Nat) : Int) := by show (0 : Int) ≤ _; omega
            have t1 : ((v1.length - 1 : Nat) : Int) ≤ (v1.length : Int) := by omega
            have t2 : List.take (((v1.length - 1 : Nat) : Int) - (Option.none : Option Int).getD 0).toNat (List.drop ((Option.none : Option Int).getD 0).toNat v1) = v1.take (v1.length - 1) := by
              show List.take (((v1.length - 1 : Nat) : Int) - 0).toNat (List.drop 0 v1) = _
              rw [List.drop_zero]
              congr 1
            have t3 : ∀ a b c : Prt, (v1.take (v1.length - 1)).length + [a, b, c].length ≤ 4294967296 := fun a b c => by
              rw [List.length_take]; simp only [List.length_cons, List.length_nil]; omega
            refine ⟨v0, v1.take (v1.length - 1) ++ [(k, ql, rt, ts, cs, ps), (k, qr, rt, ts, cs, ps), (5, ((v1.length - 1 : Nat) : Int), IntKind.i64.wrap (((v1.length - 1 : Nat) : Int) + 1), [], [], [])], true, ?_, ?_, view_small (by omega) ?_ ?_⟩
            · refine spec_PushDown.eq _ _ ?_
              simp only [spec_PushDown.t, e1, e3, outC, hw, hw2, ix_nn, ix_nat, dec_t g0, hL', h2', dec_t q1, dec_t q3, hQ', h5', dec_f h12, o1, dec_t t0, dec_t t1, t2, dec_t (t3 _ _ _), Option.bind_some, bang_t, cond_true, cond_false]
            · refine impl_PushDown.eq _ _ ?_
              simp only [impl_PushDown.t, e2, e4, outC, hw, hw2, ix_nn, ix_nat, dec_t g0, hL', h2', dec_t q1, dec_t q3, hQ', h5', dec_f h12, o2, dec_t t0, dec_t t1, t2, dec_t (t3 _ _ _), Option.bind_some, bang_t, cond_true, cond_false]
            · rw [List.length_append, List.length_take]; simp only [List.length_cons, List.length_nil]; omega
            · intro p hp
              rcases List.mem_append.1 hp with hp | hp
              · exact z3 p (List.mem_of_mem_take hp)
              · rw [prt_sz] at hlast
                simp only [List.mem_cons, List.not_mem_nil, or_false] at hp
                rcases hp with rfl | rfl | rfl
                · rw [prt_sz]; exact hlast
                · rw [prt_sz]; exact hlast
                · rw [prt_sz]; simp [szT]
end GoV

/- FnExactPushDown: the law out of its core. -/
namespace GoV
open Go
theorem FnExactPushDown_true (v0 : List Int) (v1 : List (Int × Int × Int × List (Int × Int × Int) × List Int × List (List Int))) (w0 : WfT (.pair (.sl (.int .i64)) (.sl (.pair (.int .i64) (.pair (.int .i64) (.pair (.int .i64) (.pair (.sl (.pair (.int .i64) (.pair (.int .i64) (.int .i64)))) (.pair (.sl (.int .i64)) (.sl (.sl (.int .i64)))))))))) (v0, v1)) : xl0j v0 v1 = some true := by
  obtain ⟨left1, e1, a1, b1z⟩ := laws_szView_ok (v0) (v1) ((1048576 : Int)) w0 (by omega) (by omega)
  by_cases n1 : left1 < 0
  · exact xl0j.eq v0 v1 (by simp only [xl0j.t, e1, dec_t n1, cond_true, cond_false, Option.bind_some])
  have z1a := b1z (by omega)
  have hz0 : szT (.pair (.sl (.int .i64)) (.sl (.pair (.int .i64) (.pair (.int .i64) (.pair (.int .i64) (.pair (.sl (.pair (.int .i64) (.pair (.int .i64) (.int .i64)))) (.pair (.sl (.int .i64)) (.sl (.sl (.int .i64)))))))))) (v0, v1) ≤ 1048576 := by omega
  obtain ⟨ga, gb, gc, hspec, himpl, hsm⟩ := FnExactPushDown_same v0 v1 w0 hz0
  -- the answer is small
  have e2 := laws_toView_id (v0) (v1) (by omega)
  have e4 := laws_toView_id (v0) (v1) (by omega)
  have e6 := laws_eqView_rf (ga) (gb) (by first | omega | (simp only [szT] at *; omega))
  have e7 := laws_toView_id (v0) (v1) (by omega)
  have e8 := laws_eqView_rf (v0) (v1) (by first | omega | (simp only [szT] at *; omega))
  have q9 := cntT_le (T := (.pair (.sl (.int .i64)) (.sl (.pair (.int .i64) (.pair (.int .i64) (.pair (.int .i64) (.pair (.sl (.pair (.int .i64) (.pair (.int .i64) (.int .i64)))) (.pair (.sl (.int .i64)) (.sl (.sl (.int .i64))))))))))) (v0, v1) rfl
  simp only [Ty.size] at q9
  have e9 := laws_markView_311_ok (v0) (v1) ((1 : Int)) (by omega) (by omega) (by omega)
  have p9 := mrT_cnt (.pair (.sl (.int .i64)) (.sl (.pair (.int .i64) (.pair (.int .i64) (.pair (.int .i64) (.pair (.sl (.pair (.int .i64) (.pair (.int .i64) (.int .i64)))) (.pair (.sl (.int .i64)) (.sl (.sl (.int .i64)))))))))) (v0, v1) (1 : Int)
  have g9 : ¬ (mrT (.pair (.sl (.int .i64)) (.sl (.pair (.int .i64) (.pair (.int .i64) (.pair (.int .i64) (.pair (.sl (.pair (.int .i64) (.pair (.int .i64) (.int .i64)))) (.pair (.sl (.int .i64)) (.sl (.sl (.int .i64)))))))))) (v0, v1) (1 : Int)).2 < 0 := by omega
  have e10 := laws_eqView_rf (ga) (gb) (by first | omega | (simp only [szT] at *; omega))
  have q11 := cntT_le (T := (.pair (.sl (.int .i64)) (.sl (.pair (.int .i64) (.pair (.int .i64) (.pair (.int .i64) (.pair (.sl (.pair (.int .i64) (.pair (.int .i64) (.int .i64)))) (.pair (.sl (.int .i64)) (.sl (.sl (.int .i64))))))))))) (ga, gb) rfl
  simp only [Ty.size] at q11
  have e11 := laws_markView_311_ok (ga) (gb) ((1 : Int)) (by omega) (by omega) (by omega)
  have p11 := mrT_cnt (.pair (.sl (.int .i64)) (.sl (.pair (.int .i64) (.pair (.int .i64) (.pair (.int .i64) (.pair (.sl (.pair (.int .i64) (.pair (.int .i64) (.int .i64)))) (.pair (.sl (.int .i64)) (.sl (.sl (.int .i64)))))))))) (ga, gb) (1 : Int)
  have g11 : ¬ (mrT (.pair (.sl (.int .i64)) (.sl (.pair (.int .i64) (.pair (.int .i64) (.pair (.int .i64) (.pair (.sl (.pair (.int .i64) (.pair (.int .i64) (.int .i64)))) (.pair (.sl (.int .i64)) (.sl (.sl (.int .i64)))))))))) (ga, gb) (1 : Int)).2 < 0 := by omega
  have e12 : laws_heldView ((mrT (.pair (.sl (.int .i64)) (.sl (.pair (.int .i64) (.pair (.int .i64) (.pair (.int .i64) (.pair (.sl (.pair (.int .i64) (.pair (.int .i64) (.int .i64)))) (.pair (.sl (.int .i64)) (.sl (.sl (.int .i64)))))))))) (ga, gb) (1 : Int)).1.1) ((mrT (.pair (.sl (.int .i64)) (.sl (.pair (.int .i64) (.pair (.int .i64) (.pair (.int .i64) (.pair (.sl (.pair (.int .i64) (.pair (.int .i64) (.int .i64)))) (.pair (.sl (.int .i64)) (.sl (.sl (.int .i64)))))))))) (ga, gb) (1 : Int)).1.2) ((1 : Int)) = some (mrT (.pair (.sl (.int .i64)) (.sl (.pair (.int .i64) (.pair (.int .i64) (.pair (.int .i64) (.pair (.sl (.pair (.int .i64) (.pair (.int .i64) (.int .i64)))) (.pair (.sl (.int .i64)) (.sl (.sl (.int .i64)))))))))) (ga, gb) (1 : Int)).2 := laws_heldView_ok (ga) (gb) (1 : Int) (by omega) (by omega) (by omega)
  have e13 := laws_toView_id (v0) (v1) (by omega)
  have e15 := laws_eqView_rf (ga) (gb) (by first | omega | (simp only [szT] at *; omega))
  have e16 : laws_heldView ((mrT (.pair (.sl (.int .i64)) (.sl (.pair (.int .i64) (.pair (.int .i64) (.pair (.int .i64) (.pair (.sl (.pair (.int .i64) (.pair (.int .i64) (.int .i64)))) (.pair (.sl (.int .i64)) (.sl (.sl (.int .i64)))))))))) (ga, gb) (1 : Int)).1.1) ((mrT (.pair (.sl (.int .i64)) (.sl (.pair (.int .i64) (.pair (.int .i64) (.pair (.int .i64) (.pair (.sl (.pair (.int .i64) (.pair (.int .i64) (.int .i64)))) (.pair (.sl (.int .i64)) (.sl (.sl (.int .i64)))))))))) (ga, gb) (1 : Int)).1.2) ((1 : Int)) = some (mrT (.pair (.sl (.int .i64)) (.sl (.pair (.int .i64) (.pair (.int .i64) (.pair (.int .i64) (.pair (.sl (.pair (.int .i64) (.pair (.int .i64) (.int .i64)))) (.pair (.sl (.int .i64)) (.sl (.sl (.int .i64)))))))))) (ga, gb) (1 : Int)).2 := laws_heldView_ok (ga) (gb) (1 : Int) (by omega) (by omega) (by omega)
  refine xl0j.eq v0 v1 ?_
  simp only [xl0j.t, e1, dec_f n1, e2, e4, e6, e7, e8, e9, dec_f g9, e10, e11, dec_f g11, e12, e13, e15, e16, hspec, himpl, cond_true, cond_false, Option.bind_some, bne_ref, beq_ref, bang_t]
end GoV
