/- A part of the proof of FnExactSemiJoin: an interpreter of the model over plain data, its soundness, and what it makes of the functions that the statement reaches. Conditions: none beyond what the given statement itself says. -/
import Derived.Test.YtnobhelpmkmofaaTP
set_option linter.unusedVariables false
set_option linter.unusedSimpArgs false
set_option linter.unnecessarySimpa false
set_option linter.unusedSectionVars false
/- The library's stable sort of rows with weights. -/
namespace GoV
open Go
def Rows (d : List WRow) : Prop := ∀ w, w ∈ d → w.1.length ≤ 1073741824
theorem Rows.perm {d d' : List WRow} (h : Rows d) (hp : d'.Perm d) : Rows d' := fun w hw => h w (hp.mem_iff.1 hw)
open Classical in
/-- An answer that counts where the rows are no longer than they were. -/
noncomputable def gd {β : Type} (d : List WRow) (x : Option β) : Option β := if Rows d then x else none
theorem gd_some {β : Type} {d : List WRow} {x : Option β} {r : β} : gd d x = some r ↔ Rows d ∧ x = some r := by
  unfold gd
  split
  · rename_i h; exact ⟨fun e => ⟨h, e⟩, fun e => e.2⟩
  · rename_i h; exact ⟨fun e => (by cases e), fun e => absurd e.1 h⟩
theorem gd_swap {d : List WRow} {i j : Nat} (hi : i < d.length) (hj : j < d.length) (h : Rows (swapL ([], 0) d i j)) : Rows d := h.perm (swapL_perm hi hj).symm
theorem gt_dec (i j : Nat) : decide ((i : Int) > (j : Int)) = decide (j < i) := ix_lt j i
theorem w_add {i j : Nat} (h : i + j < 4611686018427387904) : IntKind.i64.wrap ((i : Int) + (j : Int)) = ((i + j : Nat) : Int) := by rw [wrap_id] <;> omega
theorem w_sub {i j : Nat} (h : j ≤ i) (h2 : i < 4611686018427387904) : IntKind.i64.wrap ((i : Int) - (j : Int)) = ((i - j : Nat) : Int) := by rw [wrap_id] <;> omega
end GoV

/- The weight of a row: by binary search, and one by one. -/
namespace GoV
open Go
def weightP (l : List WRow) (r : List Int) : Int := match l.find? (fun w => cmpL w.1 r == 0) with | some w => w.2 | none => 0
/-- The middle of two numbers, as Go reckons it. -/
theorem mid_nat (i j : Nat) (h : i + j < 4611686018427387904) : IntKind.i64.wrap ((IntKind.u64.wrap (IntKind.i64.wrap ((i : Int) + (j : Int)))).fdiv ((2 : Int) ^ Min.min (Int.toNat (1 : Int)) IntKind.u64.bits)) = (((i + j) / 2 : Nat) : Int) := by
  have e1 : IntKind.i64.wrap ((i : Int) + (j : Int)) = ((i + j : Nat) : Int) := by rw [wrap_id] <;> omega
  have e2 : IntKind.u64.wrap ((i + j : Nat) : Int) = ((i + j : Nat) : Int) := by
    have : IntKind.u64.wrap ((i + j : Nat) : Int) = ((i + j : Nat) : Int) % 18446744073709551616 := by simp [IntKind.wrap, IntKind.bits, IntKind.signed]
    rw [this]
    omega
  have e3 : Min.min (Int.toNat (1 : Int)) IntKind.u64.bits = 1 := rfl
  rw [e1, e2, e3, Int.pow_one, Int.fdiv_eq_ediv_of_nonneg _ (by omega)]
  rw [wrap_id] <;> omega
section
variable {l : List WRow} {r : List Int} (hl : l.length ≤ 1073741824) (hr : ∀ w, w ∈ l → w.1.length ≤ 1073741824) (hx : r.length ≤ 1073741824) (hs : sortedW l)
include hl hr hx hs
end
end GoV

/- The library's stable sort of rows with weights: merging in place, and all of it. -/
namespace GoV
open Go
theorem RotF.none {f : Nat → WRow} {s m t : Nat} (h : s = m ∨ t = m) (h1 : s ≤ m) (h2 : m ≤ t) : RotF f f s m t := by
  intro k
  by_cases c1 : s ≤ k ∧ k < s + (t - m)
  · rw [if_pos c1]; congr 1; omega
  · rw [if_neg c1]
    by_cases c2 : s + (t - m) ≤ k ∧ k < t
    · rw [if_pos c2]; congr 1; omega
    · rw [if_neg c2]
theorem one_eq (i j : Nat) (h : j ≤ i) (h2 : i < 4611686018427387904) : (IntKind.i64.wrap ((i : Int) - (j : Int)) == (1 : Int)) = decide (i - j = 1) := by
  rw [w_sub h h2]
  by_cases e : i - j = 1
  · rw [e]; rfl
  · rw [dec_f e]
    exact beq_eq_false_iff_ne.2 (by omega)
abbrev zW : WRow := ([], 0)
end GoV

/- The library's stable sort of rows with weights: merging in place. -/
namespace GoV
open Go
end GoV

/- The library's stable sort of rows with weights: blocks sorted, then merged. -/
namespace GoV
open Go
/-- The first A blocks of s are sorted, each in itself. -/
def LoB (d : List WRow) (s A n : Nat) : Prop := ∀ q, q < A → q * s < n → SortS zW ltW d (q * s) (min (q * s + s) n)
/-- The blocks from the A-th on. -/
def HiB (d : List WRow) (s A n : Nat) : Prop := ∀ q, A ≤ q → q * s < n → SortS zW ltW d (q * s) (min (q * s + s) n)
theorem mul_le_of_lt {q A s : Nat} (h : q < A) : q * s + s ≤ A * s := by
  have := Nat.mul_le_mul_right s (show q + 1 ≤ A by omega)
  rwa [Nat.succ_mul] at this
theorem LoB.keep {d d' : List WRow} {s A n a b : Nat} (h : LoB d s A n) (hm : Mv zW d d' a b) (ha : A * s ≤ a) : LoB d' s A n := fun q h1 h2 =>
  (h q h1 h2).congr fun k _ g2 => hm.out k (.inl (by have := mul_le_of_lt (s := s) h1; omega))
theorem HiB.keep {d d' : List WRow} {s A n a b : Nat} (h : HiB d s A n) (hm : Mv zW d d' a b) (hb : b ≤ A * s) : HiB d' s A n := fun q h1 h2 =>
  (h q h1 h2).congr fun k g1 _ => hm.out k (.inr (by have := Nat.mul_le_mul_right s h1; omega))
theorem twice (A s : Nat) : 2 * A * s = A * (2 * s) := by rw [Nat.mul_comm 2 A, Nat.mul_assoc]
theorem twice1 (A s : Nat) : (2 * A + 1) * s = A * (2 * s) + s := by rw [Nat.succ_mul, twice]
theorem twice2 (A s : Nat) : 2 * (A + 1) * s = A * (2 * s) + 2 * s := by rw [twice, Nat.succ_mul]
end GoV

/- The library's stable sort of rows with weights. -/
namespace GoV
open Go
end GoV

/- A table handed on if it is good. -/
namespace GoV
open Go
end GoV

/- Lists of rows summed: what the program's 'summed' gives. -/
namespace GoV
open Go
end GoV

/- Tables that are good, with as many columns. -/
namespace GoV
open Go
def alikeB (c : Int) (a : List WRow) (d : Int) (b : List WRow) : Bool := goodT c a && (goodT d b && (c == d))
end GoV

/- Some cells of a row; numbers of columns. -/
namespace GoV
open Go
def pickR (r cs : List Int) : List Int := cs.map fun k => r.getD k.toNat 0
def pickG (r : List Int) (k : Int) : List Int := [r.getD k.toNat 0]
theorem pickG_map (r : List Int) : ∀ cs : List Int, cs.flatMap (pickG r) = pickR r cs
  | [] => rfl
  | k :: cs => by rw [List.flatMap_cons, pickG_map r cs]; rfl
theorem pickR_len (r cs : List Int) : (pickR r cs).length = cs.length := by simp [pickR]
def plB (n k : Int) : Bool := decide (0 ≤ k) && decide (k < n)
theorem plB_iff {n k : Int} : plB n k = true ↔ 0 ≤ k ∧ k < n := by simp [plB]
def colsB (n : Int) (cs : List Int) : Bool := cs.all (plB n) && decide (cs.length ≤ 6)
theorem impl_isPlace_eq' (x c : Int) : impl_isPlace x c = some (plB c x) := by
  refine impl_isPlace.eq x c ?_
  simp only [impl_isPlace.t, plB]
  by_cases h : 0 ≤ x
  · have h' : x ≥ 0 := h
    simp only [dec_t h, dec_t h', cond_true, Bool.true_and]
  · have h' : ¬ x ≥ 0 := h
    simp only [dec_f h, dec_f h', cond_false, Bool.false_and]
theorem lenDec (n k : Nat) : decide ((n : Int) ≤ (k : Int)) = decide (n ≤ k) := by
  by_cases h : n ≤ k
  · rw [dec_t h, dec_t (by omega)]
  · rw [dec_f h, dec_f (by omega)]
/-- A row that is put in counts with a bound for all. -/
theorem puts_all_loop {α β : Type} (l : List α) (z : α) (p : α → Bool) (row : α → List Int) (wt : α → Int) (L : List WRow → Nat → Option β) (res : List WRow → Option β) (bad : β) {M m : Int} {N : Nat} (hM : 0 ≤ M) (hm : 0 ≤ m)
    (hp : ∀ x, x ∈ l → p x = true → (row x).length ≤ 1073741824 ∧ (-m ≤ wt x ∧ wt x ≤ m))
    (he : ∀ acc b, PutOK (M + m * l.length) (N + l.length) acc → res acc = some b → L acc l.length = some b)
    (hf : ∀ acc i, i < l.length → p (l.getD i z) = false → L acc i = some bad)
    (hs : ∀ acc i b, i < l.length → p (l.getD i z) = true → PutOK (M + m * i) (N + i) acc → L (putL acc (row (l.getD i z)) (wt (l.getD i z))) (i + 1) = some b → L acc i = some b) :
    ∀ acc b, PutOK M N acc → (bif l.all p then res (l.foldl (fun acc x => putL acc (row x) (wt x)) acc) else some bad) = some b → L acc 0 = some b := by
  have key : ∀ i, i ≤ l.length → ∀ acc b, PutOK (M + m * i) (N + i) acc → (bif (l.drop i).all p then res ((l.drop i).foldl (fun acc x => putL acc (row x) (wt x)) acc) else some bad) = some b → L acc i = some b := by
    refine upto ?_ ?_
    · intro acc b ha hb
      rw [List.drop_length] at hb
      exact he acc b ha hb
    · intro i hi ih acc b ha hb
      rw [drop_getD z hi, List.foldl_cons, List.all_cons] at hb
      cases hq : p (l.getD i z) with
      | false =>
        rw [hq, Bool.false_and, cond_false] at hb
        rw [← hb]
        exact hf acc i hi hq
      | true =>
        rw [hq, Bool.true_and] at hb
        refine hs acc i b hi hq ha (ih _ b ?_ hb)
        obtain ⟨k1, k2⟩ := hp _ (getD_mem z hi) hq
        have h0 : 0 ≤ m * (i : Int) := Int.mul_nonneg hm (by omega)
        have := ha.put k1 k2 (by omega) hm
        have e : M + m * ((i + 1 : Nat) : Int) = M + m * (i : Int) + m := by
          rw [Int.natCast_succ, Int.mul_add, Int.mul_one]; omega
        rw [e]
        exact this
  intro acc b ha hb
  refine key 0 (Nat.zero_le _) acc b ?_ (by rw [List.drop_zero]; exact hb)
  simpa using ha
theorem PutOK.nil : PutOK 0 0 [] := ⟨Nat.le_refl _, fun _ h => (by cases h), fun _ h => (by cases h)⟩
theorem putsL_rows {c : Nat} {b : List WRow} (h : ∀ w, w ∈ b → w.1.length ≤ c) : (putsL [] b).length ≤ b.length ∧ ∀ w, w ∈ putsL [] b → w.1.length ≤ c := by
  obtain ⟨_, _, _, h1, h2⟩ := putsL_ok b (l := []) .nil (fun _ h => (by cases h))
  refine ⟨by simpa using h2, fun w hw => ?_⟩
  rcases h1 w hw with h3 | ⟨u, hu, e⟩
  · cases h3
  · rw [e]; exact h u hu
end GoV

/- Pairs of columns; rows joined: alike for the program and its specification. -/
namespace GoV
open Go
theorem toNat0 : Int.toNat (0 : Int) = 0 := rfl
theorem toNat1 : Int.toNat (1 : Int) = 1 := rfl
def pairB (a b : Int) (p : List Int) : Bool := ((p.length : Int) == 2) && (plB a (p.getD 0 0) && plB b (p.getD 1 0))
def pairsB (a b : Int) (ps : List (List Int)) : Bool := ps.all (pairB a b) && decide (ps.length ≤ 6)
theorem pairB_iff {a b : Int} {p : List Int} : pairB a b p = true ↔ p.length = 2 ∧ (0 ≤ p.getD 0 0 ∧ p.getD 0 0 < a) ∧ 0 ≤ p.getD 1 0 ∧ p.getD 1 0 < b := by
  simp only [pairB, Bool.and_eq_true, plB_iff, beq_iff_eq]
  constructor
  · intro h; exact ⟨by omega, h.2⟩
  · intro h; exact ⟨by omega, h.2⟩
theorem spec_l1Pairs_eq (ps : List (List Int)) (a b : Int) (hl : ps.length ≤ 1073741824) : spec_l1Pairs ps a b = some (pairsB a b ps) := by
  refine spec_l1Pairs.eq ps a b ?_
  simp only [spec_l1Pairs.t]
  have := all_loop ps [] (fun i => spec_l1Pairs.l2 ps a b ps (ps.length : Int) (i : Int)) (pairB a b) false (decide (ps.length ≤ 6)) ?_ ?_ ?_
  · refine Eq.trans this ?_
    simp only [pairsB]
    cases ps.all (pairB a b) <;> rfl
  · exact spec_l1Pairs.eq2 _ _ _ _ _ _ (by simp only [spec_l1Pairs.t2, ix_lt, Nat.lt_irrefl, decide_false, cond_false]; exact congrArg some (lenDec ps.length 6))
  · intro i hi hb
    refine spec_l1Pairs.eq2 _ _ _ _ _ _ ?_
    simp only [spec_l1Pairs.t2, ix_lt, ix_nn, ix_nat, dec_t hi, cond_true, toNat0, toNat1, bne]
    cases h0 : ((ps.getD i []).length : Int) == 2
    · rfl
    · have h1 := beq_iff_eq.1 h0
      have h2 : 0 < (ps.getD i []).length := by omega
      have h3 : 1 < (ps.getD i []).length := by omega
      simp only [pairB, h0, Bool.true_and] at hb
      simp only [bang_t, cond_false, dec_t h2, dec_t h3, cond_true]
      by_cases g1 : (ps.getD i []).getD 0 0 < 0
      · simp only [dec_t g1, cond_true]
      · by_cases g2 : (ps.getD i []).getD 0 0 ≥ a
        · simp only [dec_f g1, dec_t g2, cond_true, cond_false]
        · have g0 : plB a ((ps.getD i []).getD 0 0) = true := plB_iff.2 ⟨by omega, by omega⟩
          rw [g0, Bool.true_and] at hb
          by_cases g3 : (ps.getD i []).getD 1 0 < 0
          · simp only [dec_f g1, dec_f g2, dec_t g3, cond_true, cond_false]
          · have g4 : (ps.getD i []).getD 1 0 ≥ b := by
              apply Classical.byContradiction
              intro g4
              have g5 : plB b ((ps.getD i []).getD 1 0) = true := plB_iff.2 ⟨by omega, by omega⟩
              rw [g5] at hb
              cases hb
            simp only [dec_f g1, dec_f g2, dec_f g3, dec_t g4, cond_true, cond_false]
  · intro i c hi hb hc
    refine spec_l1Pairs.eq2 _ _ _ _ _ _ ?_
    obtain ⟨h0, ⟨g1, g2⟩, g3, g4⟩ := pairB_iff.1 hb
    have h1 : (((ps.getD i []).length : Int) == 2) = true := beq_iff_eq.2 (by omega)
    have h2 : 0 < (ps.getD i []).length := by omega
    have h3 : 1 < (ps.getD i []).length := by omega
    have k1 : ¬ (ps.getD i []).getD 0 0 < 0 := by omega
    have k2 : ¬ (ps.getD i []).getD 0 0 ≥ a := by omega
    have k3 : ¬ (ps.getD i []).getD 1 0 < 0 := by omega
    have k4 : ¬ (ps.getD i []).getD 1 0 ≥ b := by omega
    simp only [spec_l1Pairs.t2, ix_lt, ix_nn, ix_nat, dec_t hi, cond_true, toNat0, toNat1, bne, h1, bang_t, cond_false, dec_t h2, dec_t h3, dec_f k1, dec_f k2, dec_f k3, dec_f k4, wrap_succ (show i < 9223372036854775807 by omega)]
    exact hc
theorem impl_arePairs_1_eq (p : List Int) (a b : Int) : impl_arePairs_1 p a b = some (pairB a b p) := by
  refine impl_arePairs_1.eq _ _ _ ?_
  simp only [impl_arePairs_1.t, toNat0, toNat1, impl_isPlace_eq', Option.bind_some, pairB]
  cases h0 : (p.length : Int) == 2
  · rfl
  · have h1 := beq_iff_eq.1 h0
    have h2 : 0 < p.length := by omega
    have h3 : 1 < p.length := by omega
    simp only [dec_t h2, dec_t h3, cond_true, Bool.true_and]
    cases plB a (p.getD 0 0) <;> rfl
theorem impl_arePairs_eq (ps : List (List Int)) (a b : Int) (hl : ps.length ≤ 1073741824) : impl_arePairs ps a b = some (pairsB a b ps) := by
  refine impl_arePairs.eq ps a b ?_
  have e := xi0a_ok ps a b (pairB a b) (by omega) (fun x _ => impl_arePairs_1_eq x a b)
  have e2 : decide ((ps.length : Int) ≤ 6) = decide (ps.length ≤ 6) := lenDec ps.length 6
  simp only [impl_arePairs.t, e, e2, Option.bind_some, pairsB]
  by_cases h : ps.length ≤ 6
  · simp only [dec_t h, cond_true, Bool.and_true]
  · simp only [dec_f h, cond_false, Bool.and_false]
/-! ## Columns that are in no pair -/
def isP (k : Int) (p : List Int) : Bool := p.getD 1 0 == k
def unpG (ps : List (List Int)) (k : Nat) : List Int := bif ps.any (isP (k : Int)) then [] else [(k : Int)]
def unpL (n : Nat) (ps : List (List Int)) : List Int := (List.range n).flatMap (unpG ps)
theorem unpG_len (ps : List (List Int)) (k : Nat) : (unpG ps k).length ≤ 1 := by
  unfold unpG
  cases ps.any (isP (k : Int)) <;> simp
theorem unpL_len (n : Nat) (ps : List (List Int)) : (unpL n ps).length ≤ n := by
  have := flatMap_len (unpG_len ps) (List.range n)
  rwa [List.length_range] at this
theorem unpL_mem {n : Nat} {ps : List (List Int)} {k : Int} (h : k ∈ unpL n ps) : 0 ≤ k ∧ k.toNat < n := by
  obtain ⟨j, hj, hk⟩ := List.mem_flatMap.1 h
  rw [List.mem_range] at hj
  simp only [unpG] at hk
  cases ha : ps.any (isP (j : Int)) with
  | true => rw [ha] at hk; cases hk
  | false =>
    rw [ha, cond_false, List.mem_singleton] at hk
    omega
theorem range_getD {n i : Nat} (h : i < n) : (List.range n).getD i 0 = i := by rw [getD_of_lt (by simpa using h)]; simp
def flagF (k : Int) (s : Bool) (p : List Int) : Bool := bif s then true else isP k p
theorem flag_any (k : Int) : ∀ (ps : List (List Int)) (s : Bool), ps.foldl (flagF k) s = (s || ps.any (isP k))
  | [], s => by simp
  | p :: ps, s => by
    rw [List.foldl_cons, flag_any k ps, List.any_cons, flagF]
    cases s <;> simp
section
variable {ps : List (List Int)} (hl : ps.length ≤ 1073741824) (hp : ∀ p, p ∈ ps → 1 < p.length)
include hl hp
end
/-! ## Rows joined -/
def eqP (a b : List Int) (p : List Int) : Bool := a.getD (p.getD 0 0).toNat 0 == b.getD (p.getD 1 0).toNat 0
def joinR (a b : List Int) (ps : List (List Int)) : List Int := a ++ pickR b (unpL b.length ps)
def joinG (b : List Int) (ps : List (List Int)) (k : Nat) : List Int := bif ps.any (isP (k : Int)) then [] else [b.getD k 0]
theorem joinG_len (b : List Int) (ps : List (List Int)) (k : Nat) : (joinG b ps k).length ≤ 1 := by
  unfold joinG
  cases ps.any (isP (k : Int)) <;> simp
theorem joinG_map (b : List Int) (ps : List (List Int)) (n : Nat) : (List.range n).flatMap (joinG b ps) = pickR b (unpL n ps) := by
  rw [pickR, unpL, List.map_flatMap]
  congr 1
  funext k
  simp only [joinG, unpG]
  cases ps.any (isP (k : Int)) <;> rfl
theorem joinR_len (a b : List Int) (ps : List (List Int)) : (joinR a b ps).length = a.length + (unpL b.length ps).length := by rw [joinR, List.length_append, pickR_len]
section
variable {a b : List Int} {ps : List (List Int)} (hl : ps.length ≤ 1073741824) (hal : a.length ≤ 536870912) (hbl : b.length ≤ 536870912)
  (hp : ∀ p, p ∈ ps → p.length = 2 ∧ (0 ≤ p.getD 0 0 ∧ (p.getD 0 0).toNat < a.length) ∧ 0 ≤ p.getD 1 0 ∧ (p.getD 1 0).toNat < b.length)
include hl hal hbl hp
end
end GoV

/- Tables joined: the program's answer is the specification's. -/
namespace GoV
open Go
/-! ## Loops that put in, or push, many rows for each element -/
theorem PutOK.mono {M M' : Int} {N N' : Nat} {l : List WRow} (h : PutOK M N l) (hM : M ≤ M') (hN : N ≤ N') : PutOK M' N' l :=
  ⟨Nat.le_trans h.len hN, h.row, fun w hw => by have := h.wt w hw; omega⟩
theorem PutOK.puts {m : Int} (hm : 0 ≤ m) : ∀ (b : List WRow) {M : Int} {N : Nat} {l : List WRow}, 0 ≤ M → PutOK M N l → (∀ w, w ∈ b → w.1.length ≤ 1073741824 ∧ (-m ≤ w.2 ∧ w.2 ≤ m)) → PutOK (M + m * (b.length : Int)) (N + b.length) (putsL l b)
  | [], M, N, l, hM, h, _ => by simpa [putsL] using h
  | w :: b, M, N, l, hM, h, hb => by
    obtain ⟨h1, h2⟩ := hb w (by simp)
    have k := PutOK.puts hm b (by omega) (h.put h1 h2 hM hm) fun x hx => hb x (List.mem_cons_of_mem _ hx)
    have e : M + m + m * (b.length : Int) = M + m * ((w :: b).length : Int) := by
      rw [List.length_cons, Int.natCast_succ, Int.mul_add, Int.mul_one]; omega
    rw [e] at k
    exact k.mono (Int.le_refl _) (by simp only [List.length_cons]; omega)
theorem putsL_append (l a b : List WRow) : putsL l (a ++ b) = putsL (putsL l a) b := by rw [putsL, List.foldl_append]; rfl
theorem putsK_loop {α β : Type} (l : List α) (z : α) (g : α → List WRow) (L : List WRow → Nat → Option β) (res : List WRow → Option β) {M m : Int} {N K : Nat} (hM : 0 ≤ M) (hm : 0 ≤ m)
    (hg : ∀ x, x ∈ l → (g x).length ≤ K ∧ ∀ w, w ∈ g x → w.1.length ≤ 1073741824 ∧ (-m ≤ w.2 ∧ w.2 ≤ m))
    (he : ∀ acc b, PutOK (M + m * ((K * l.length : Nat) : Int)) (N + K * l.length) acc → res acc = some b → L acc l.length = some b)
    (hs : ∀ acc i b, i < l.length → PutOK (M + m * ((K * i : Nat) : Int)) (N + K * i) acc → L (putsL acc (g (l.getD i z))) (i + 1) = some b → L acc i = some b) :
    ∀ acc b, PutOK M N acc → res (putsL acc (l.flatMap g)) = some b → L acc 0 = some b := by
  have key : ∀ i, i ≤ l.length → ∀ acc b, PutOK (M + m * ((K * i : Nat) : Int)) (N + K * i) acc → res (putsL acc ((l.drop i).flatMap g)) = some b → L acc i = some b := by
    refine upto ?_ ?_
    · intro acc b ha hb
      rw [List.drop_length] at hb
      exact he acc b ha hb
    · intro i hi ih acc b ha hb
      rw [drop_getD z hi, List.flatMap_cons, putsL_append] at hb
      refine hs acc i b hi ha (ih _ b ?_ hb)
      obtain ⟨k1, k2⟩ := hg _ (getD_mem z hi)
      have h0 : 0 ≤ m * ((K * i : Nat) : Int) := Int.mul_nonneg hm (by omega)
      have k3 := PutOK.puts hm (g (l.getD i z)) (by omega) ha k2
      have h1 : m * ((g (l.getD i z)).length : Int) ≤ m * (K : Int) := Int.mul_le_mul_of_nonneg_left (by omega) hm
      have e1 : K * (i + 1) = K * i + K := Nat.mul_succ K i
      have e2 : m * ((K * (i + 1) : Nat) : Int) = m * ((K * i : Nat) : Int) + m * (K : Int) := by rw [e1, Int.natCast_add, Int.mul_add]
      rw [e2]
      exact k3.mono (by omega) (by omega)
  intro acc b ha hb
  refine key 0 (Nat.zero_le _) acc b ?_ (by rw [List.drop_zero]; exact hb)
  simpa using ha
theorem pushK_loop {α β γ : Type} (l : List α) (z : α) (g : α → List γ) (L : List γ → Nat → Option β) (res : List γ → Option β) {N K : Nat}
    (hg : ∀ x, x ∈ l → (g x).length ≤ K)
    (he : ∀ acc b, acc.length ≤ N + K * l.length → res acc = some b → L acc l.length = some b)
    (hs : ∀ acc i b, i < l.length → acc.length ≤ N + K * i → L (acc ++ g (l.getD i z)) (i + 1) = some b → L acc i = some b) :
    ∀ acc b, acc.length ≤ N → res (acc ++ l.flatMap g) = some b → L acc 0 = some b := by
  have key : ∀ i, i ≤ l.length → ∀ acc b, acc.length ≤ N + K * i → res (acc ++ (l.drop i).flatMap g) = some b → L acc i = some b := by
    refine upto ?_ ?_
    · intro acc b ha hb
      rw [List.drop_length, List.flatMap_nil, List.append_nil] at hb
      exact he acc b ha hb
    · intro i hi ih acc b ha hb
      rw [drop_getD z hi, List.flatMap_cons, ← List.append_assoc] at hb
      refine hs acc i b hi ha (ih _ b ?_ hb)
      have k1 := hg _ (getD_mem z hi)
      have e1 : K * (i + 1) = K * i + K := Nat.mul_succ K i
      rw [List.length_append]
      omega
  intro acc b ha hb
  exact key 0 (Nat.zero_le _) acc b (by omega) (by rw [List.drop_zero]; exact hb)
/-! ## The join -/
def joinW (ps : List (List Int)) (x y : WRow) : List WRow := bif ps.all (eqP x.1 y.1) then [(joinR x.1 y.1 ps, IntKind.i64.wrap (x.2 * y.2))] else []
def joinL (l u : List WRow) (ps : List (List Int)) : List WRow := l.flatMap fun x => u.flatMap (joinW ps x)
theorem joinW_len (ps : List (List Int)) (x y : WRow) : (joinW ps x y).length ≤ 1 := by
  unfold joinW
  cases ps.all (eqP x.1 y.1) <;> simp
theorem prod_abs {a b : Int} (ha : -1000000 ≤ a ∧ a ≤ 1000000) (hb : -1000000 ≤ b ∧ b ≤ 1000000) : -1000000000000 ≤ a * b ∧ a * b ≤ 1000000000000 := by
  have key : ∀ x y : Int, 0 ≤ x → x ≤ 1000000 → 0 ≤ y → y ≤ 1000000 → 0 ≤ x * y ∧ x * y ≤ 1000000000000 := by
    intro x y h1 h2 h3 h4
    have := Int.mul_le_mul h2 h4 h3 (by omega)
    exact ⟨Int.mul_nonneg h1 h3, by omega⟩
  by_cases h1 : 0 ≤ a
  · by_cases h2 : 0 ≤ b
    · have := key a b h1 ha.2 h2 hb.2; omega
    · have := key a (-b) h1 ha.2 (by omega) (by omega)
      rw [Int.mul_neg] at this; omega
  · by_cases h2 : 0 ≤ b
    · have := key (-a) b (by omega) (by omega) h2 hb.2
      rw [Int.neg_mul] at this; omega
    · have := key (-a) (-b) (by omega) (by omega) (by omega) (by omega)
      rw [Int.neg_mul_neg] at this; omega
/-- Rows of tables that fit, and pairs of their columns. -/
structure JoinOK (c d : Int) (l u : List WRow) (ps : List (List Int)) : Prop where
  c0 : 0 ≤ c ∧ c ≤ 6
  d0 : 0 ≤ d ∧ d ≤ 6
  ln : l.length ≤ 60
  un : u.length ≤ 60
  pn : ps.length ≤ 6
  lr : ∀ x, x ∈ l → (x.1.length : Int) = c ∧ (-1000000 ≤ x.2 ∧ x.2 ≤ 1000000)
  ur : ∀ x, x ∈ u → (x.1.length : Int) = d ∧ (-1000000 ≤ x.2 ∧ x.2 ≤ 1000000)
  pr : ∀ p, p ∈ ps → p.length = 2 ∧ (0 ≤ p.getD 0 0 ∧ p.getD 0 0 < c) ∧ 0 ≤ p.getD 1 0 ∧ p.getD 1 0 < d
theorem JoinOK.of {c d : Int} {l u : List WRow} {ps : List (List Int)} (h1 : goodT c l = true) (h2 : goodT d u = true) (h3 : pairsB c d ps = true) : JoinOK c d l u ps := by
  obtain ⟨a1, a2, a3, _⟩ := goodT_iff.1 h1
  obtain ⟨b1, b2, b3, _⟩ := goodT_iff.1 h2
  simp only [pairsB, Bool.and_eq_true, decide_eq_true_eq] at h3
  exact ⟨a1, b1, a2, b2, h3.2, fun x hx => by have := rowB_iff.1 (a3 x hx); exact ⟨this.2.1, this.2.2.1⟩, fun x hx => by have := rowB_iff.1 (b3 x hx); exact ⟨this.2.1, this.2.2.1⟩, fun p hp => pairB_iff.1 (List.all_eq_true.1 h3.1 p hp)⟩
section
variable {c d : Int} {l u : List WRow} {ps : List (List Int)} (H : JoinOK c d l u ps)
include H
theorem join_fit {x y : WRow} (hx : x ∈ l) (hy : y ∈ u) : ∀ p, p ∈ ps → p.length = 2 ∧ (0 ≤ p.getD 0 0 ∧ (p.getD 0 0).toNat < x.1.length) ∧ 0 ≤ p.getD 1 0 ∧ (p.getD 1 0).toNat < y.1.length := fun p hp => by
  have h1 := (H.lr x hx).1
  have h2 := (H.ur y hy).1
  obtain ⟨g0, ⟨g1, g2⟩, g3, g4⟩ := H.pr p hp
  exact ⟨g0, ⟨g1, by omega⟩, g3, by omega⟩
theorem join_rows {x y w : WRow} (hx : x ∈ l) (hy : y ∈ u) (hw : w ∈ joinW ps x y) : (w.1.length : Int) = c + ((unpL d.toNat ps).length : Int) ∧ (-1000000000000 ≤ w.2 ∧ w.2 ≤ 1000000000000) := by
  have h1 := H.lr x hx
  have h2 := H.ur y hy
  simp only [joinW] at hw
  cases hh : ps.all (eqP x.1 y.1) with
  | false => rw [hh] at hw; cases hw
  | true =>
    rw [hh, cond_true, List.mem_singleton] at hw
    subst hw
    have e : y.1.length = d.toNat := by omega
    have k := prod_abs h1.2 h2.2
    refine ⟨?_, ?_⟩
    · show ((joinR x.1 y.1 ps).length : Int) = _
      rw [joinR_len, e]; omega
    · show -1000000000000 ≤ IntKind.i64.wrap (x.2 * y.2) ∧ _
      rw [wrap_id (by omega) (by omega)]; exact k
theorem join_len : (joinL l u ps).length ≤ 3600 := by
  have h1 : ∀ x, (u.flatMap (joinW ps x)).length ≤ 60 := fun x => Nat.le_trans (flatMap_len (joinW_len ps x) u) H.un
  have key : ∀ l : List WRow, (joinL l u ps).length ≤ 60 * l.length := by
    intro l
    induction l with
    | nil => simp [joinL]
    | cons x l ih =>
      have := h1 x
      rw [joinL] at ih ⊢
      rw [List.flatMap_cons, List.length_append, List.length_cons]
      omega
  have := key l
  have := H.ln
  omega
theorem join_mem {w : WRow} (hw : w ∈ joinL l u ps) : (w.1.length : Int) = c + ((unpL d.toNat ps).length : Int) ∧ (-1000000000000 ≤ w.2 ∧ w.2 ≤ 1000000000000) := by
  obtain ⟨x, hx, h⟩ := List.mem_flatMap.1 hw
  obtain ⟨y, hy, h⟩ := List.mem_flatMap.1 h
  exact join_rows H hx hy h
end
end GoV

/- Tables kept with other weights (printed by wip/tools/lawgen.py). -/
namespace GoV
open Go
theorem xi08_ok (v0 : Int) (v1 : List (List Int × Int)) (v2 : Int) (v3 : List (List Int × Int)) (v4 : List (List Int)) (f : WRow → Int) (hl : v1.length ≤ 1073741824) (hr : ∀ w, w ∈ v1 → w.1.length ≤ 1073741824) (hf : ∀ w, w ∈ v1 → xi0g (w.fst) (w.snd) (v2) (v3) (v4) = some (f w)) : xi08 v0 v1 v2 v3 v4 = some (v0, keptL f v1) := by
  refine xi08.eq v0 v1 v2 v3 v4 ?_
  simp only [xi08.t]
  refine push_loop v1 ([], 0) (fun acc i => xi08.l3 (v2) (v3) (v4) ((0 : Int)) ([]) (v0) acc (v1) ((↑v1.length : Int)) (i : Int)) (keptG f) (keptG_len f) (fun acc => some (v0, acc)) ?_ ?_ _ rfl
  · intro acc b _ hb
    exact xi08.eq3 _ _ _ _ _ _ _ _ _ _ (by simp only [xi08.t3, ix_lt, Nat.lt_irrefl, decide_false, cond_false]; exact hb)
  · intro acc i b hi ha hb
    have hmem := getD_mem (([], 0) : WRow) hi
    have hw := hr _ hmem
    have hc := hf _ hmem
    refine xi08.eq3 _ _ _ _ _ _ _ _ _ _ ?_
    simp only [xi08.t3, ix_lt, ix_nn, ix_nat, dec_t hi, cond_true, hc, Option.bind_some, wrap_succ (show i < 9223372036854775807 by omega)]
    simp only [keptG] at hb
    by_cases h0 : f (v1.getD i ([], 0)) = 0
    · rw [if_pos h0, List.append_nil] at hb
      have : (f (v1.getD i ([], 0)) != 0) = false := by rw [h0]; exact bne_ref _
      simp only [this, cond_false]
      exact hb
    · rw [if_neg h0] at hb
      have h1 : (f (v1.getD i ([], 0)) != 0) = true := bne_iff_ne.2 h0
      have h2 : acc.length + [((v1.getD i ([], 0)).1, f (v1.getD i ([], 0)))].length ≤ 4294967296 := by simp only [List.length_cons, List.length_nil]; omega
      simp only [h1, impl_Row_own_eq _ hw, Option.bind_some, dec_t h2, cond_true]
      exact hb
end GoV

/- SemiJoin: the program's answer is the specification's. -/
namespace GoV
open Go
def semiB (ps : List (List Int)) (x y : WRow) : Bool := decide (y.2 > 0) && ps.all (eqP x.1 y.1)
def semiF (u : List WRow) (ps : List (List Int)) (x : WRow) : Int := bif u.any (semiB ps x) then x.2 else 0
def sameF (a b : List Int) (s : Bool) (p : List Int) : Bool := bif s then eqP a b p else false
theorem same_all (a b : List Int) : ∀ (ps : List (List Int)) (s : Bool), ps.foldl (sameF a b) s = (s && ps.all (eqP a b))
  | [], s => by simp
  | p :: ps, s => by
    rw [List.foldl_cons, same_all a b ps, List.all_cons, sameF]
    cases s <;> simp
def foundF (ps : List (List Int)) (x : WRow) (s : Bool) (y : WRow) : Bool := bif s then true else semiB ps x y
theorem found_any (ps : List (List Int)) (x : WRow) : ∀ (u : List WRow) (s : Bool), u.foldl (foundF ps x) s = (s || u.any (semiB ps x))
  | [], s => by simp
  | y :: u, s => by
    rw [List.foldl_cons, found_any ps x u, List.any_cons, foundF]
    cases s <;> simp
section
variable {c d : Int} {l u : List WRow} {ps : List (List Int)} (H : JoinOK c d l u ps)
include H
theorem spec_l11Semi_eq (hn : ∀ x, x ∈ l → x.2 ≠ 0) : spec_l11Semi l u ps = some (keptL (semiF u ps) l) := by
  have hln := H.ln
  have hun := H.un
  have hpn := H.pn
  have inner : ∀ (acc : List WRow) (x y : WRow) (f s : Bool) (i j : Nat) (r : List WRow), x ∈ l → y ∈ u → j < u.length →
      spec_l11Semi.l7 u ps acc x.1 x.2 (bif f then true else (s && ps.all (eqP x.1 y.1))) l (l.length : Int) (i : Int) u (u.length : Int) ((j + 1 : Nat) : Int) = some r →
      spec_l11Semi.l11 u ps acc x.1 x.2 f y.1 y.2 s l (l.length : Int) (i : Int) u (u.length : Int) (j : Int) ps (ps.length : Int) 0 = some r := by
    intro acc x y f s i j r hx hy hj hr
    refine fold_loop ps [] (fun s k => spec_l11Semi.l11 u ps acc x.1 x.2 f y.1 y.2 s l (l.length : Int) (i : Int) u (u.length : Int) (j : Int) ps (ps.length : Int) (k : Int)) (sameF x.1 y.1) (fun _ => True)
      (fun s => spec_l11Semi.l7 u ps acc x.1 x.2 (bif f then true else s) l (l.length : Int) (i : Int) u (u.length : Int) ((j + 1 : Nat) : Int)) ?_ (fun _ _ _ _ => trivial) ?_ s r trivial (by rw [same_all]; exact hr)
    · intro s b _ hb
      refine spec_l11Semi.eq11 _ _ _ _ _ _ _ _ _ _ _ _ _ _ _ _ _ _ ?_
      simp only [spec_l11Semi.t11, ix_lt, Nat.lt_irrefl, decide_false, cond_false, wrap_succ (show j < 9223372036854775807 by omega)]
      cases f <;> exact hb
    · intro s k b hk _ hb
      obtain ⟨g0, ⟨g1, g2⟩, g3, g4⟩ := join_fit H hx hy _ (getD_mem [] hk)
      have h2 : 0 < (ps.getD k []).length := by omega
      have h3 : 1 < (ps.getD k []).length := by omega
      refine spec_l11Semi.eq11 _ _ _ _ _ _ _ _ _ _ _ _ _ _ _ _ _ _ ?_
      simp only [spec_l11Semi.t11, ix_lt, ix_nn, ix_nat, dec_t hk, cond_true, toNat0, toNat1, dec_t h2, dec_t h3, dec_t g1, dec_t g2, dec_t g3, dec_t g4, wrap_succ (show k < 9223372036854775807 by omega)]
      cases s <;> exact hb
  have middle : ∀ (acc : List WRow) (x : WRow) (i : Nat) (r : List WRow), x ∈ l → i < l.length → acc.length ≤ i →
      (bif u.any (semiB ps x) then spec_l11Semi.l3 u ps (acc ++ [(x.1, x.2)]) l (l.length : Int) ((i + 1 : Nat) : Int) else spec_l11Semi.l3 u ps acc l (l.length : Int) ((i + 1 : Nat) : Int)) = some r →
      spec_l11Semi.l7 u ps acc x.1 x.2 false l (l.length : Int) (i : Int) u (u.length : Int) 0 = some r := by
    intro acc x i r hx hi ha hr
    refine fold_loop u ([], 0) (fun f j => spec_l11Semi.l7 u ps acc x.1 x.2 f l (l.length : Int) (i : Int) u (u.length : Int) (j : Int)) (foundF ps x) (fun _ => True)
      (fun f => bif f then spec_l11Semi.l3 u ps (acc ++ [(x.1, x.2)]) l (l.length : Int) ((i + 1 : Nat) : Int) else spec_l11Semi.l3 u ps acc l (l.length : Int) ((i + 1 : Nat) : Int)) ?_ (fun _ _ _ _ => trivial) ?_ false r trivial (by rw [found_any, Bool.false_or]; exact hr)
    · intro f b _ hb
      have h2 : acc.length + [(x.1, x.2)].length ≤ 4294967296 := by simp only [List.length_cons, List.length_nil]; omega
      refine spec_l11Semi.eq7 _ _ _ _ _ _ _ _ _ _ _ _ ?_
      simp only [spec_l11Semi.t7, ix_lt, Nat.lt_irrefl, decide_false, cond_false, dec_t h2, cond_true, wrap_succ (show i < 9223372036854775807 by omega)]
      exact hb
    · intro f j b hj _ hb
      refine spec_l11Semi.eq7 _ _ _ _ _ _ _ _ _ _ _ _ ?_
      simp only [spec_l11Semi.t7, ix_lt, ix_nn, ix_nat, dec_t hj, cond_true]
      exact inner acc x _ f _ i j b hx (getD_mem _ hj) hj hb
  refine spec_l11Semi.eq l u ps ?_
  simp only [spec_l11Semi.t]
  refine push_loop l ([], 0) (fun acc i => spec_l11Semi.l3 u ps acc l (l.length : Int) (i : Int)) (keptG (semiF u ps)) (keptG_len _) some ?_ ?_ _ rfl
  · intro acc b _ hb
    exact spec_l11Semi.eq3 _ _ _ _ _ _ (by simp only [spec_l11Semi.t3, ix_lt, Nat.lt_irrefl, decide_false, cond_false]; exact hb)
  · intro acc i b hi ha hb
    have hx := getD_mem (([], 0) : WRow) hi
    refine spec_l11Semi.eq3 _ _ _ _ _ _ ?_
    simp only [spec_l11Semi.t3, ix_lt, ix_nn, ix_nat, dec_t hi, cond_true]
    refine middle acc _ i b hx hi ha ?_
    cases h : u.any (semiB ps (l.getD i ([], 0))) with
    | true =>
      rw [keptG_some (v := (l.getD i ([], 0)).2) (by rw [semiF, h]; rfl) (hn _ hx)] at hb
      exact hb
    | false =>
      rw [keptG_zero (by rw [semiF, h]; rfl), List.append_nil] at hb
      exact hb
theorem impl_semiJoin_1_eq {x : WRow} (hx : x ∈ l) : xi0g x.1 x.2 d u ps = some (semiF u ps x) := by
  have hun := H.un
  have hpn := H.pn
  have hin : ∀ y, y ∈ u → xi07 ps x.1 x.2 y.1 y.2 = some (ps.all (eqP x.1 y.1)) := fun y hy =>
    xi07_ok ps x.1 x.2 y.1 y.2 (eqP x.1 y.1) (by omega) fun p hp => by
      obtain ⟨g0, ⟨g1, g2⟩, g3, g4⟩ := join_fit H hx hy p hp
      have h2 : 0 < p.length := by omega
      have h3 : 1 < p.length := by omega
      exact xi0d.eq _ _ _ _ _ (by simp only [xi0d.t, toNat0, toNat1, dec_t h2, dec_t h3, dec_t g1, dec_t g2, dec_t g3, dec_t g4, cond_true, eqP])
  have key2 : ∀ j, j ≤ u.length → xi0g.l1002 ps x.1 x.2 u (u.length : Int) (j : Int) = some (bif (u.drop j).any (semiB ps x) then x.2 else 0) := by
    refine upto ?_ ?_
    · rw [List.drop_length]
      exact xi0g.eq1002 _ _ _ _ _ _ (by simp only [xi0g.t1002, ix_lt, Nat.lt_irrefl, decide_false, cond_false]; rfl)
    · intro j hj ih
      have hy := getD_mem (([], 0) : WRow) hj
      rw [drop_getD ([], 0) hj, List.any_cons]
      refine xi0g.eq1002 _ _ _ _ _ _ ?_
      simp only [xi0g.t1002, ix_lt, ix_nn, ix_nat, dec_t hj, cond_true, wrap_succ (show j < 9223372036854775807 by omega), hin _ hy, Option.bind_some]
      cases h1 : decide ((u.getD j ([], 0)).2 > 0)
      · simp only [semiB, h1, Bool.false_and, Bool.false_or, cond_false]; exact ih
      · cases h2 : ps.all (eqP x.1 (u.getD j ([], 0)).1)
        · simp only [semiB, h1, h2, Bool.and_false, Bool.false_or, cond_false, cond_true]; exact ih
        · simp only [semiB, h1, h2, Bool.and_self, Bool.true_or, cond_true]
  have key : ∀ j, j ≤ u.length → xi0g.l2 ps x.1 x.2 u (u.length : Int) (j : Int) = some (bif (u.drop j).any (semiB ps x) then x.2 else 0) := by
    refine upto ?_ ?_
    · rw [List.drop_length]
      exact xi0g.eq2 _ _ _ _ _ _ (by simp only [xi0g.t2, ix_lt, Nat.lt_irrefl, decide_false, cond_false]; rfl)
    · intro j hj ih
      have hy := getD_mem (([], 0) : WRow) hj
      rw [drop_getD ([], 0) hj, List.any_cons]
      refine xi0g.eq2 _ _ _ _ _ _ ?_
      simp only [xi0g.t2, ix_lt, ix_nn, ix_nat, dec_t hj, cond_true, wrap_succ (show j < 9223372036854775807 by omega), hin _ hy, Option.bind_some]
      cases h1 : decide ((u.getD j ([], 0)).2 > 0)
      · simp only [semiB, h1, Bool.false_and, Bool.false_or, cond_false]; exact ih
      · cases h2 : ps.all (eqP x.1 (u.getD j ([], 0)).1)
        · simp only [semiB, h1, h2, Bool.and_false, Bool.false_or, cond_false, cond_true]; exact key2 (j + 1) (by omega)
        · simp only [semiB, h1, h2, Bool.and_self, Bool.true_or, cond_true]
  have k := key 0 (Nat.zero_le _)
  rw [List.drop_zero] at k
  exact xi0g.eq _ _ _ _ _ (by simp only [xi0g.t]; exact k)
end
theorem FnExactSemiJoin_same (v0 : Int) (v1 : List (List Int × Int)) (v2 : Int) (v3 : List (List Int × Int)) (v4 : List (List Int)) (w0 : WfT (.pair (.int .i64) (.sl (.pair (.sl (.int .i64)) (.int .i64)))) (v0, v1)) (hz0 : szT (.pair (.int .i64) (.sl (.pair (.sl (.int .i64)) (.int .i64)))) (v0, v1) ≤ 1048576)
    (w1 : WfT (.pair (.int .i64) (.sl (.pair (.sl (.int .i64)) (.int .i64)))) (v2, v3)) (hz1 : szT (.pair (.int .i64) (.sl (.pair (.sl (.int .i64)) (.int .i64)))) (v2, v3) ≤ 1048576) (w2 : WfT (.sl (.sl (.int .i64))) v4) (hz2 : szT (.sl (.sl (.int .i64))) v4 ≤ 1048576) :
    ∃ (a : Int) (b : List (List Int × Int)) (ok : Bool), spec_SemiJoin v0 v1 v2 v3 v4 = some (a, b, ok) ∧ impl_SemiJoin v0 v1 v2 v3 v4 = some (a, b, ok) ∧ szT (.pair (.int .i64) (.sl (.pair (.sl (.int .i64)) (.int .i64)))) (a, b) ≤ 1073741824 := by
  have hp : v4.length ≤ 1073741824 := by have := szT_len (t := .sl (.int .i64)) (l := v4); omega
  obtain ⟨h1, h2⟩ := tab_len hz0
  obtain ⟨h3, h4⟩ := tab_len hz1
  have hr : ∀ w, w ∈ v1 → w.1.length ≤ 1073741824 := fun w hw => by have := h2 w hw; omega
  have hr3 : ∀ w, w ∈ v3 → w.1.length ≤ 1073741824 := fun w hw => by have := h4 w hw; omega
  have e1 := spec_GoodTable_eq (c := v0) (l := v1) (by omega) hr
  have e2 := impl_GoodTable_eq (c := v0) (l := v1) (by omega) hr
  have e3 := spec_GoodTable_eq (c := v2) (l := v3) (by omega) hr3
  have e4 := impl_GoodTable_eq (c := v2) (l := v3) (by omega) hr3
  have e5 := spec_l1Pairs_eq v4 v0 v2 hp
  have e6 := impl_arePairs_eq v4 v0 v2 hp
  cases hg : goodT v0 v1 with
  | false => exact ⟨0, [], false, spec_SemiJoin.eq _ _ _ _ _ (by simp only [spec_SemiJoin.t, e1, hg, Option.bind_some, bang_f, cond_true]), impl_SemiJoin.eq _ _ _ _ _ (by simp only [impl_SemiJoin.t, e2, hg, Option.bind_some, bang_f, cond_true]), tab_none⟩
  | true =>
    cases hg2 : goodT v2 v3 with
    | false => exact ⟨0, [], false, spec_SemiJoin.eq _ _ _ _ _ (by simp only [spec_SemiJoin.t, e1, hg, e3, hg2, Option.bind_some, bang_t, bang_f, cond_true, cond_false]), impl_SemiJoin.eq _ _ _ _ _ (by simp only [impl_SemiJoin.t, e2, hg, e4, hg2, Option.bind_some, bang_t, bang_f, cond_true, cond_false]), tab_none⟩
    | true =>
      cases hg3 : pairsB v0 v2 v4 with
      | false => exact ⟨0, [], false, spec_SemiJoin.eq _ _ _ _ _ (by simp only [spec_SemiJoin.t, e1, hg, e3, hg2, e5, hg3, Option.bind_some, bang_t, bang_f, cond_true, cond_false]), impl_SemiJoin.eq _ _ _ _ _ (by simp only [impl_SemiJoin.t, e2, hg, e4, hg2, e6, hg3, Option.bind_some, bang_t, bang_f, cond_true, cond_false]), tab_none⟩
      | true =>
        have H := JoinOK.of hg hg2 hg3
        obtain ⟨_, hrows⟩ := goodT_rows hg
        have e7 := spec_l11Semi_eq H (fun x hx => (hrows x hx).2.2)
        have e8 := xi08_ok v0 v1 v2 v3 v4 (semiF v3 v4) (by omega) hr (fun w hw => impl_semiJoin_1_eq H hw)
        have e9 := xi0j.eq v0 v1 v2 v3 v4 (b := (v0, keptL (semiF v3 v4) v1)) (by simp only [xi0j.t, e8, Option.bind_some])
        have hgood : goodT v0 (keptL (semiF v3 v4) v1) = true := goodT_kept hg fun w hw => by
          have := (hrows w hw).2.1
          simp only [semiF]
          cases v3.any (semiB v4 w) <;> simp <;> omega
        have hkl := keptL_len (semiF v3 v4) v1
        have e10 := spec_l2Tell_eq v0 _ (show (keptL (semiF v3 v4) v1).length ≤ 1073741824 by omega) (fun w hw => by
          obtain ⟨x, hx, rfl, _⟩ := keptL_mem hw
          exact hr x hx)
        rw [hgood] at e10
        exact ⟨v0, _, true, spec_SemiJoin.eq _ _ _ _ _ (by simp only [spec_SemiJoin.t, e1, hg, e3, hg2, e5, hg3, e7, e10, Option.bind_some, bang_t, cond_true, cond_false]), impl_SemiJoin.eq _ _ _ _ _ (by simp only [impl_SemiJoin.t, e2, hg, e4, hg2, e6, hg3, e9, Option.bind_some, bang_t, cond_false]), tab_size hgood⟩
end GoV

/- FnExactSemiJoin: the law out of its core. -/
namespace GoV
open Go
theorem FnExactSemiJoin_true (v0 : Int) (v1 : List (List Int × Int)) (v2 : Int) (v3 : List (List Int × Int)) (v4 : List (List Int)) (w0 : WfT (.pair (.int .i64) (.sl (.pair (.sl (.int .i64)) (.int .i64)))) (v0, v1)) (w1 : WfT (.pair (.int .i64) (.sl (.pair (.sl (.int .i64)) (.int .i64)))) (v2, v3)) (w2 : WfT (.sl (.sl (.int .i64))) v4) : xl0h v0 v1 v2 v3 v4 = some true := by
  obtain ⟨left1, e1, a1, b1z⟩ := laws_szTable_ok (v0) (v1) ((1048576 : Int)) w0 (by omega) (by omega)
  by_cases n1 : left1 < 0
  · exact xl0h.eq v0 v1 v2 v3 v4 (by simp only [xl0h.t, e1, dec_t n1, cond_true, cond_false, Option.bind_some])
  have z1a := b1z (by omega)
  obtain ⟨left2, e2, a2, b2z⟩ := laws_szTable_ok (v2) (v3) (left1) w1 (by omega) (by omega)
  by_cases n2 : left2 < 0
  · exact xl0h.eq v0 v1 v2 v3 v4 (by simp only [xl0h.t, e1, dec_f n1, e2, dec_t n2, cond_true, cond_false, Option.bind_some])
  have z2a := b2z (by omega)
  obtain ⟨left3, e3, a3, b3z⟩ := laws_szIntSS_ok (v4) (left2) w2 (by omega) (by omega)
  by_cases n3 : left3 < 0
  · exact xl0h.eq v0 v1 v2 v3 v4 (by simp only [xl0h.t, e1, dec_f n1, e2, dec_f n2, e3, dec_t n3, cond_true, cond_false, Option.bind_some])
  have z3a := b3z (by omega)
  have hz0 : szT (.pair (.int .i64) (.sl (.pair (.sl (.int .i64)) (.int .i64)))) (v0, v1) ≤ 1048576 := by omega
  have hz1 : szT (.pair (.int .i64) (.sl (.pair (.sl (.int .i64)) (.int .i64)))) (v2, v3) ≤ 1048576 := by omega
  have hz2 : szT (.sl (.sl (.int .i64))) v4 ≤ 1048576 := by omega
  obtain ⟨ga, gb, gc, hspec, himpl, hsm⟩ := FnExactSemiJoin_same v0 v1 v2 v3 v4 w0 hz0 w1 hz1 w2 hz2
  -- the answer is small
  have e4 := laws_toTable_id (v0) (v1) (by omega)
  have e5 := laws_toTable_id (v2) (v3) (by omega)
  have e6 := laws_toIntSS_id (v4) (by omega)
  have e8 := laws_toTable_id (v0) (v1) (by omega)
  have e9 := laws_toTable_id (v2) (v3) (by omega)
  have e10 := laws_toIntSS_id (v4) (by omega)
  have e12 := laws_eqTable_rf (ga) (gb) (by first | omega | (simp only [szT] at *; omega))
  have e13 := laws_toTable_id (v0) (v1) (by omega)
  have e14 := laws_eqTable_rf (v0) (v1) (by first | omega | (simp only [szT] at *; omega))
  have e15 := laws_toTable_id (v2) (v3) (by omega)
  have e16 := laws_eqTable_rf (v2) (v3) (by first | omega | (simp only [szT] at *; omega))
  have e17 := laws_toIntSS_id (v4) (by omega)
  have e18 := laws_eqIntSS_rf (v4) (by first | omega | (simp only [szT] at *; omega))
  have q19 := cntT_le (T := (.pair (.int .i64) (.sl (.pair (.sl (.int .i64)) (.int .i64))))) (v0, v1) rfl
  simp only [Ty.size] at q19
  have e19 := laws_markTable_d7a_ok (v0) (v1) ((1 : Int)) (by omega) (by omega) (by omega)
  have p19 := mrT_cnt (.pair (.int .i64) (.sl (.pair (.sl (.int .i64)) (.int .i64)))) (v0, v1) (1 : Int)
  have g19 : ¬ (mrT (.pair (.int .i64) (.sl (.pair (.sl (.int .i64)) (.int .i64)))) (v0, v1) (1 : Int)).2 < 0 := by omega
  have q20 := cntT_le (T := (.pair (.int .i64) (.sl (.pair (.sl (.int .i64)) (.int .i64))))) (v2, v3) rfl
  simp only [Ty.size] at q20
  have e20 := laws_markTable_d7a_ok (v2) (v3) ((mrT (.pair (.int .i64) (.sl (.pair (.sl (.int .i64)) (.int .i64)))) (v0, v1) (1 : Int)).2) (by omega) (by omega) (by omega)
  have p20 := mrT_cnt (.pair (.int .i64) (.sl (.pair (.sl (.int .i64)) (.int .i64)))) (v2, v3) (mrT (.pair (.int .i64) (.sl (.pair (.sl (.int .i64)) (.int .i64)))) (v0, v1) (1 : Int)).2
  have g20 : ¬ (mrT (.pair (.int .i64) (.sl (.pair (.sl (.int .i64)) (.int .i64)))) (v2, v3) (mrT (.pair (.int .i64) (.sl (.pair (.sl (.int .i64)) (.int .i64)))) (v0, v1) (1 : Int)).2).2 < 0 := by omega
  have q21 := cntT_le (T := (.sl (.sl (.int .i64)))) v4 rfl
  simp only [Ty.size] at q21
  have e21 := laws_markIntSS_1f6_ok (v4) ((mrT (.pair (.int .i64) (.sl (.pair (.sl (.int .i64)) (.int .i64)))) (v2, v3) (mrT (.pair (.int .i64) (.sl (.pair (.sl (.int .i64)) (.int .i64)))) (v0, v1) (1 : Int)).2).2) (by omega) (by omega) (by omega)
  have p21 := mrL_cnt (t := (.sl (.int .i64))) v4 (mrT (.pair (.int .i64) (.sl (.pair (.sl (.int .i64)) (.int .i64)))) (v2, v3) (mrT (.pair (.int .i64) (.sl (.pair (.sl (.int .i64)) (.int .i64)))) (v0, v1) (1 : Int)).2).2
  have g21 : ¬ (mrL (mrE (.sl (.int .i64))) v4 (mrT (.pair (.int .i64) (.sl (.pair (.sl (.int .i64)) (.int .i64)))) (v2, v3) (mrT (.pair (.int .i64) (.sl (.pair (.sl (.int .i64)) (.int .i64)))) (v0, v1) (1 : Int)).2).2).2 < 0 := by omega
  have e22 := laws_eqTable_rf (ga) (gb) (by first | omega | (simp only [szT] at *; omega))
  have q23 := cntT_le (T := (.pair (.int .i64) (.sl (.pair (.sl (.int .i64)) (.int .i64))))) (ga, gb) rfl
  simp only [Ty.size] at q23
  have e23 := laws_markTable_d7a_ok (ga) (gb) ((1 : Int)) (by omega) (by omega) (by omega)
  have p23 := mrT_cnt (.pair (.int .i64) (.sl (.pair (.sl (.int .i64)) (.int .i64)))) (ga, gb) (1 : Int)
  have g23 : ¬ (mrT (.pair (.int .i64) (.sl (.pair (.sl (.int .i64)) (.int .i64)))) (ga, gb) (1 : Int)).2 < 0 := by omega
  have e24 : laws_heldTable (ga) ((mrT (.pair (.int .i64) (.sl (.pair (.sl (.int .i64)) (.int .i64)))) (ga, gb) (1 : Int)).1.2) ((1 : Int)) = some (mrT (.pair (.int .i64) (.sl (.pair (.sl (.int .i64)) (.int .i64)))) (ga, gb) (1 : Int)).2 := laws_heldTable_ok (ga) (gb) (1 : Int) (by omega) (by omega) (by omega)
  have e25 := laws_toTable_id (v0) (v1) (by omega)
  have e26 := laws_toTable_id (v2) (v3) (by omega)
  have e27 := laws_toIntSS_id (v4) (by omega)
  have e29 := laws_eqTable_rf (ga) (gb) (by first | omega | (simp only [szT] at *; omega))
  have e30 : laws_heldTable (ga) ((mrT (.pair (.int .i64) (.sl (.pair (.sl (.int .i64)) (.int .i64)))) (ga, gb) (1 : Int)).1.2) ((1 : Int)) = some (mrT (.pair (.int .i64) (.sl (.pair (.sl (.int .i64)) (.int .i64)))) (ga, gb) (1 : Int)).2 := laws_heldTable_ok (ga) (gb) (1 : Int) (by omega) (by omega) (by omega)
  refine xl0h.eq v0 v1 v2 v3 v4 ?_
  simp only [xl0h.t, e1, dec_f n1, e2, dec_f n2, e3, dec_f n3, e4, e5, e6, e8, e9, e10, e12, e13, e14, e15, e16, e17, e18, e19, dec_f g19, e20, dec_f g20, e21, dec_f g21, e22, e23, dec_f g23, e24, e25, e26, e27, e29, e30, hspec, himpl, cond_true, cond_false, Option.bind_some, bne_ref, beq_ref, bang_t]
end GoV
