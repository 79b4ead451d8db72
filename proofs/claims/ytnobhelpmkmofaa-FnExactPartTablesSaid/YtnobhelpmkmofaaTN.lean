/- A part of the proof of FnExactPartTables: an interpreter of the model over plain data, its soundness, and what it makes of the functions that the statement reaches. Conditions: none beyond what the given statement itself says. -/
import Derived.Test.YtnobhelpmkmofaaTM
set_option linter.unusedVariables false
set_option linter.unusedSimpArgs false
set_option linter.unnecessarySimpa false
set_option linter.unusedSectionVars false
/- Rising numbers; sets as bits. -/
namespace GoV
open Go
theorem ix_pos (i : Nat) : decide ((i : Int) > (0 : Int)) = decide (0 < i) := by
  by_cases h : 0 < i <;> simp [h] <;> omega
/-- One of the places of rising numbers below n. -/
def placeB (n : Int) (l : List Int) (k : Nat) : Bool := (decide (0 ≤ l.getD k 0) && decide (l.getD k 0 < n)) && (decide (k = 0) || decide (l.getD (k - 1) 0 < l.getD k 0))
def someB (n : Int) (l : List Int) : Bool := allR (placeB n l) 0 l.length
theorem some_rises {n : Int} {l : List Int} (h : someB n l = true) : risesB (-1) l = true ∧ ∀ x, x ∈ l → 0 ≤ x ∧ x < n := by
  simp only [someB, allR_iff, placeB, Bool.and_eq_true, Bool.or_eq_true, decide_eq_true_eq] at h
  have key : ∀ (r pre : List Int), l = pre ++ r → risesB (if pre = [] then -1 else pre.getLastD 0) r = true := by
    intro r
    induction r with
    | nil => intro pre _; rfl
    | cons x r ih =>
      intro pre hl
      have hk := h pre.length (Nat.zero_le _) (by rw [hl]; simp)
      have hx : l.getD pre.length 0 = x := by rw [hl]; exact getD_mid pre r x 0
      rw [hx] at hk
      have ih' := ih (pre ++ [x]) (by rw [hl]; simp)
      simp only [risesB, Bool.and_eq_true, decide_eq_true_eq]
      refine ⟨?_, by simpa using ih'⟩
      cases pre with
      | nil => simp; omega
      | cons y pre =>
        simp only [List.cons_ne_nil, if_false]
        have h2 : l.getD ((y :: pre).length - 1) 0 = (y :: pre).getLastD 0 := by
          rw [hl]
          simp only [List.getLastD_eq_getLast?, List.getLast?_eq_getElem?, List.getD]
          rw [List.getElem?_append_left (by simp)]
        rw [h2] at hk
        rcases hk.2 with h3 | h3
        · simp at h3
        · exact h3
  refine ⟨by simpa using key l [] rfl, fun x hx => ?_⟩
  obtain ⟨i, hi, rfl⟩ := List.mem_iff_getElem.1 hx
  have := (h i (Nat.zero_le _) hi).1
  rwa [getD_of_lt hi] at this
theorem impl_isPlace_eq (x n : Int) : impl_isPlace x n = some (decide (0 ≤ x) && decide (x < n)) := by
  refine impl_isPlace.eq x n ?_
  simp only [impl_isPlace.t]
  by_cases h : 0 ≤ x <;> simp [h]
theorem impl_areRising_eq (l : List Int) (n : Int) (hl : l.length ≤ 1073741824) : impl_areRising l n = some (someB n l) := by
  have key : ∀ i, i ≤ l.length → impl_areRising.l2 l n l (l.length : Int) (i : Int) = some (allR (placeB n l) i l.length) := by
    refine upto ?_ ?_
    · exact impl_areRising.eq2 _ _ _ _ _ (by simp only [impl_areRising.t2, ix_lt, Nat.lt_irrefl, decide_false, cond_false, allR_end])
    · intro i hi ih
      refine impl_areRising.eq2 _ _ _ _ _ ?_
      rw [allR_step _ hi]
      simp only [impl_areRising.t2, ix_lt, ix_nn, ix_nat, ix_pos, dec_t hi, cond_true, impl_isPlace_eq, Option.bind_some, wrap_succ (show i < 9223372036854775807 by omega), ih]
      simp only [placeB]
      cases e : (decide (0 ≤ l.getD i 0) && decide (l.getD i 0 < n))
      · simp
      · by_cases h0 : i = 0
        · subst h0; simp
        · have h1 : 0 < i := by omega
          have h2 : i - 1 < l.length := by omega
          simp only [dec_t h1, dec_f h0, bang_t, cond_false, cond_true, wrap_pred h1 (by omega), ix_nn, ix_nat, dec_t h2, Bool.false_or, Bool.true_and]
          by_cases h3 : l.getD i 0 ≤ l.getD (i - 1) 0
          · have h4 : ¬ l.getD (i - 1) 0 < l.getD i 0 := by omega
            simp only [dec_t h3, dec_f h4, cond_true, Bool.false_and]
          · have h4 : l.getD (i - 1) 0 < l.getD i 0 := by omega
            simp only [dec_f h3, dec_t h4, cond_false, Bool.true_and]
  exact impl_areRising.eq l n (by simp only [impl_areRising.t]; exact key 0 (Nat.zero_le _))
theorem spec_l1Some_eq (l : List Int) (n : Int) (hl : l.length ≤ 1073741824) : spec_l1Some l n = some (someB n l) := by
  have key : ∀ i, i ≤ l.length → spec_l1Some.l2 l n l (l.length : Int) (i : Int) = some (allR (placeB n l) i l.length) := by
    refine upto ?_ ?_
    · exact spec_l1Some.eq2 _ _ _ _ _ (by simp only [spec_l1Some.t2, ix_lt, Nat.lt_irrefl, decide_false, cond_false, allR_end])
    · intro i hi ih
      refine spec_l1Some.eq2 _ _ _ _ _ ?_
      rw [allR_step _ hi]
      simp only [spec_l1Some.t2, ix_lt, ix_nn, ix_nat, ix_pos, dec_t hi, cond_true, wrap_succ (show i < 9223372036854775807 by omega), ih]
      simp only [placeB]
      by_cases ha : 0 ≤ l.getD i 0
      · have ha' : ¬ l.getD i 0 < 0 := by omega
        by_cases hb : l.getD i 0 < n
        · have hb' : ¬ l.getD i 0 ≥ n := by omega
          simp only [dec_f ha', dec_f hb', dec_t ha, dec_t hb, cond_false]
          by_cases h0 : i = 0
          · subst h0; simp
          · have h1 : 0 < i := by omega
            have h2 : i - 1 < l.length := by omega
            simp only [dec_t h1, dec_f h0, cond_false, cond_true, wrap_pred h1 (by omega), ix_nn, ix_nat, dec_t h2, Bool.false_or, Bool.true_and]
            by_cases h3 : l.getD (i - 1) 0 ≥ l.getD i 0
            · have h4 : ¬ l.getD (i - 1) 0 < l.getD i 0 := by omega
              simp only [dec_t h3, dec_f h4, cond_true, Bool.false_and]
            · have h4 : l.getD (i - 1) 0 < l.getD i 0 := by omega
              simp only [dec_f h3, dec_t h4, cond_false, Bool.true_and]
        · have hb' : l.getD i 0 ≥ n := by omega
          simp only [dec_f ha', dec_t hb', dec_f hb, cond_true, cond_false, Bool.and_false, Bool.false_and]
      · have ha' : l.getD i 0 < 0 := by omega
        simp only [dec_t ha', dec_f ha, cond_true, Bool.false_and]
  exact spec_l1Some.eq l n (by simp only [spec_l1Some.t]; exact key 0 (Nat.zero_le _))
theorem impl_setOf_eq (l : List Int) (hl : l.length ≤ 1073741824) (hr : ∀ x, x ∈ l → 0 ≤ x ∧ x < 62) : impl_setOf l = some ((maskN 0 l : Nat) : Int) := by
  have key : ∀ i, i ≤ l.length → ∀ m : Nat, m < 4611686018427387904 → impl_setOf.l3 (m : Int) l (l.length : Int) (i : Int) = some ((maskN m (l.drop i) : Nat) : Int) := by
    refine upto ?_ ?_
    · intro m _
      exact impl_setOf.eq3 _ _ _ _ (by simp only [impl_setOf.t3, ix_lt, Nat.lt_irrefl, decide_false, cond_false, List.drop_length]; rfl)
    · intro i hi ih m hm
      have hx := hr _ (getD_mem 0 hi)
      obtain ⟨x, hx'⟩ : ∃ x : Nat, l.getD i 0 = (x : Int) := ⟨(l.getD i 0).toNat, by omega⟩
      have hlt : x < 62 := by omega
      have g := ih (m ||| 2 ^ x) (or_lt hm (pow_lt hlt))
      refine impl_setOf.eq3 _ _ _ _ ?_
      rw [drop_getD 0 hi, maskN_cons]
      simp only [impl_setOf.t3, ix_lt, ix_nn, ix_nat, dec_t hi, cond_true, hx', one_shl hlt, or_nat hm (pow_lt hlt), wrap_succ (show i < 9223372036854775807 by omega)]
      exact g
  exact impl_setOf.eq l (by simp only [impl_setOf.t]; exact key 0 (Nat.zero_le _) 0 (by omega))
end GoV

/- Sets as rising lists: numbers put to their place. -/
namespace GoV
open Go
theorem spec_l1Has_eq (l : List Int) (n : Int) (hl : l.length ≤ 1073741824) : spec_l1Has l n = some (l.any fun x => x == n) := by
  have key : ∀ i, i ≤ l.length → spec_l1Has.l2 n l (l.length : Int) (i : Int) = some ((l.drop i).any fun x => x == n) := by
    refine upto ?_ ?_
    · exact spec_l1Has.eq2 _ _ _ _ (by simp only [spec_l1Has.t2, ix_lt, Nat.lt_irrefl, decide_false, cond_false, List.drop_length, List.any_nil])
    · intro i hi ih
      refine spec_l1Has.eq2 _ _ _ _ ?_
      rw [drop_getD 0 hi, List.any_cons]
      simp only [spec_l1Has.t2, ix_lt, ix_nn, ix_nat, dec_t hi, cond_true, wrap_succ (show i < 9223372036854775807 by omega), ih]
      cases (l.getD i 0 == n) <;> rfl
  exact spec_l1Has.eq l n (by simp only [spec_l1Has.t]; exact key 0 (Nat.zero_le _))
theorem spec_l7Put_eq (l : List Int) (n : Int) (hl : l.length ≤ 1073741824) : spec_l7Put l n = some (bif l.any (fun x => x == n) then l else putS n l) := by
  have key : ∀ k, k ≤ l.length → spec_l7Put.l4 l n (k : Int) = some (l.take k ++ (l.drop k).takeWhile (fun x => decide (x < n)) ++ [n] ++ (l.drop k).dropWhile (fun x => decide (x < n))) := by
    have fin : ∀ k, k ≤ l.length → (decide ((none : Option Int).getD (0 : Int) ≤ (k : Int)) = true ∧ decide ((k : Int) ≤ (l.length : Int)) = true ∧ decide ((l.take k).length ≤ 4294967296) = true ∧ decide ((l.take k).length + [n].length ≤ 4294967296) = true ∧
        decide ((l.take k ++ [n]).length + (l.drop k).length ≤ 4294967296) = true) := by
      intro k hk
      refine ⟨by simp, by simpa using hk, ?_, ?_, ?_⟩ <;> simp <;> omega
    refine upto ?_ ?_
    · obtain ⟨f1, f2, f3, f4, f5⟩ := fin l.length (Nat.le_refl _)
      refine spec_l7Put.eq4 _ _ _ ?_
      simp only [spec_l7Put.t4, ix_lt, ix_nn, ix_nat, Nat.lt_irrefl, decide_false, cond_false, cond_true, Option.getD_none, Option.getD_some, Int.sub_zero, Int.toNat_zero, List.drop_zero, f2, f3, f4, f5]
      simp
    · intro k hk ih
      obtain ⟨f1, f2, f3, f4, f5⟩ := fin k (by omega)
      refine spec_l7Put.eq4 _ _ _ ?_
      rw [drop_getD 0 hk]
      simp only [spec_l7Put.t4, ix_lt, ix_nn, ix_nat, dec_t hk, cond_true, wrap_succ (show k < 9223372036854775807 by omega), ih, List.takeWhile_cons, List.dropWhile_cons]
      by_cases h : l.getD k 0 < n
      · simp only [dec_t h, cond_true, if_true]
        congr 1
        have : l.take (k + 1) = l.take k ++ [l.getD k 0] := by rw [List.take_add_one]; simp [List.getD, hk]
        rw [this]
        simp
      · simp only [dec_f h, cond_false, cond_true, Option.getD_none, Option.getD_some, Int.sub_zero, Int.toNat_zero, List.drop_zero, ix_nn, ix_nat, f2, f3, f4, f5, Bool.false_eq_true, if_false]
        simp only [List.append_nil]
        rw [drop_getD 0 hk]
  refine spec_l7Put.eq l n ?_
  simp only [spec_l7Put.t, spec_l1Has_eq l n hl, Option.bind_some]
  cases h : l.any (fun x => x == n) with
  | true => rfl
  | false =>
    simp only [cond_false]
    have := key 0 (Nat.zero_le _)
    simpa [putS] using this
/-- A number put into a set that is told as a rising list. -/
theorem l7Put_bits {m x : Nat} (hx : x < 62) : spec_l7Put (bitsF m 0 62) (x : Int) = some (bitsF (m ||| 2 ^ x) 0 62) := by
  have hl := bitsF_len m 0 62
  rw [spec_l7Put_eq _ _ (by omega)]
  cases h : m.testBit x with
  | true =>
    have : (bitsF m 0 62).any (fun y => y == (x : Int)) = true := by
      rw [List.any_eq_true]
      exact ⟨(x : Int), bitsF_mem.2 ⟨x, rfl, by omega, by omega, h⟩, by simp⟩
    rw [this, or_same h]
    rfl
  | false =>
    have : (bitsF m 0 62).any (fun y => y == (x : Int)) = false := by
      rw [Bool.eq_false_iff]
      intro ha
      rw [List.any_eq_true] at ha
      obtain ⟨y, hy, he⟩ := ha
      obtain ⟨k, rfl, _, _, hk⟩ := bitsF_mem.1 hy
      have : k = x := by
        have he2 : (k : Int) = (x : Int) := by simpa using he
        omega
      rw [this, h] at hk
      cases hk
    rw [this]
    simp only [cond_false]
    rw [putS_bits 62 0 m x (by omega) (by omega) h]
end GoV

/- Parts of columns: alike for the program and its specification. -/
namespace GoV
open Go
def partB (c : Int) (p : List Int) : Bool := someB c p && !((p.length : Int) == 0)
def unionM (m : Nat) (ps : List (List Int)) : Nat := ps.foldl (fun m p => maskN m p) m
def partsB (c : Int) (ps : List (List Int)) : Bool := ((inB 1 6 c && inB 1 8 (ps.length : Int)) && ps.all (partB c)) && ((unionM 0 ps : Nat) : Int) == (2 : Int) ^ c.toNat - 1
theorem partB_fit {c : Int} {p : List Int} (h : partB c p = true) : someB c p = true ∧ p ≠ [] := by
  simp only [partB, Bool.and_eq_true] at h
  refine ⟨h.1, fun e => ?_⟩
  rw [e] at h
  exact absurd h.2 (by simp)
theorem maskN_below {n : Nat} : ∀ {l : List Int} {m : Nat}, m < 2 ^ n → (∀ x, x ∈ l → 0 ≤ x ∧ x < (n : Int)) → maskN m l < 2 ^ n
  | [], m, hm, _ => hm
  | x :: l, m, hm, h => by
    rw [maskN_cons]
    have hx := h x (by simp)
    have h1 : 2 ^ x.toNat < 2 ^ n := Nat.pow_lt_pow_right (by omega) (by omega)
    exact maskN_below (Nat.or_lt_two_pow hm h1) fun y hy => h y (List.mem_cons_of_mem _ hy)
theorem unionM_below {n : Nat} : ∀ {ps : List (List Int)} {m : Nat}, m < 2 ^ n → (∀ p, p ∈ ps → ∀ x, x ∈ p → 0 ≤ x ∧ x < (n : Int)) → unionM m ps < 2 ^ n
  | [], m, hm, _ => hm
  | p :: ps, m, hm, h => unionM_below (ps := ps) (maskN_below hm (h p (by simp))) fun q hq => h q (List.mem_cons_of_mem _ hq)
theorem maskN_acc' : ∀ (l : List Int) (m : Nat), maskN m l = m ||| maskN 0 l
  | [], m => by simp [maskN]
  | x :: l, m => by rw [maskN_cons, maskN_cons, maskN_acc' l (m ||| 2 ^ x.toNat), maskN_acc' l (0 ||| 2 ^ x.toNat), Nat.zero_or, Nat.or_assoc]
theorem full_set : ∀ c : Fin 7, ∀ m : Fin 64, m.val < 2 ^ c.val → ((bitsF m.val 0 62).length = c.val ↔ m.val = 2 ^ c.val - 1) := by decide
theorem full_bits {c : Int} {m : Nat} (h1 : 1 ≤ c) (h6 : c ≤ 6) (hm : m < 2 ^ c.toNat) : (((bitsF m 0 62).length : Int) == c) = (((m : Nat) : Int) == (2 : Int) ^ c.toNat - 1) := by
  have h7 : c.toNat < 7 := by omega
  have h64 : (2 : Nat) ^ c.toNat ≤ 64 := Nat.pow_le_pow_right (by omega) (show c.toNat ≤ 6 by omega)
  have k := full_set ⟨c.toNat, h7⟩ ⟨m, by omega⟩ hm
  simp only at k
  have hp : (1 : Nat) ≤ 2 ^ c.toNat := Nat.one_le_two_pow
  have e : (2 : Int) ^ c.toNat = ((2 ^ c.toNat : Nat) : Int) := by simp
  rw [e]
  refine bool_eq ?_
  rw [beq_iff_eq, beq_iff_eq]
  constructor
  · intro h; have := k.1 (by omega); omega
  · intro h; have := k.2 (by omega); omega
section
variable {c : Int} {ps : List (List Int)} (hl : ps.length ≤ 1073741824) (hr : ∀ p, p ∈ ps → p.length ≤ 1073741824)
include hl hr
theorem spec_GoodParts_eq (hs : (ps.map List.length).sum ≤ 1073741824) : spec_GoodParts ps c = some (partsB c ps) := by
  refine spec_GoodParts.eq ps c ?_
  simp only [spec_GoodParts.t]
  by_cases hc : 1 ≤ c ∧ c ≤ 6
  · have hfit : ∀ p, partB c p = true → ∀ x, x ∈ p → 0 ≤ x ∧ x < 62 := fun p hp x hx => by
      have := (some_rises (partB_fit hp).1).2 x hx
      omega
    have inner : ∀ (p : List Int) (i m : Nat) (b : Bool), p.length ≤ 1073741824 → i < ps.length → partB c p = true → spec_GoodParts.l3 ps c (bitsF (maskN m p) 0 62) ps (ps.length : Int) ((i + 1 : Nat) : Int) = some b → spec_GoodParts.l8 ps c (bitsF m 0 62) ps (ps.length : Int) (i : Int) p (p.length : Int) 0 = some b := by
      intro p i m b hpl hi hp hb
      refine fold_loop (σ := Nat) p 0 (fun m j => spec_GoodParts.l8 ps c (bitsF m 0 62) ps (ps.length : Int) (i : Int) p (p.length : Int) (j : Int)) (fun m x => m ||| 2 ^ x.toNat) (fun _ => True) (fun m => spec_GoodParts.l3 ps c (bitsF m 0 62) ps (ps.length : Int) ((i + 1 : Nat) : Int)) ?_ (fun _ _ _ _ => trivial) ?_ m b trivial hb
      · intro m b _ hb
        exact spec_GoodParts.eq8 _ _ _ _ _ _ _ _ _ (by simp only [spec_GoodParts.t8, ix_lt, Nat.lt_irrefl, decide_false, cond_false, wrap_succ (show i < 9223372036854775807 by omega)]; exact hb)
      · intro m j b hj _ hb
        have hx := hfit p hp _ (getD_mem 0 hj)
        obtain ⟨x, hxe⟩ : ∃ x : Nat, p.getD j 0 = (x : Int) := ⟨(p.getD j 0).toNat, by omega⟩
        refine spec_GoodParts.eq8 _ _ _ _ _ _ _ _ _ ?_
        rw [hxe, Int.toNat_natCast] at hb
        simp only [spec_GoodParts.t8, ix_lt, ix_nn, ix_nat, dec_t hj, cond_true, hxe, l7Put_bits (m := m) (show x < 62 by omega), Option.bind_some, wrap_succ (show j < 9223372036854775807 by omega)]
        exact hb
    have e : ∀ m : Nat, ((bitsF m 0 62).length : Int) ≤ 62 := fun m => by have := bitsF_len m 0 62; omega
    have key : ∀ i, i ≤ ps.length → ∀ m : Nat, m < 2 ^ c.toNat → spec_GoodParts.l3 ps c (bitsF m 0 62) ps (ps.length : Int) (i : Int) = some ((ps.drop i).all (partB c) && (inB 1 8 (ps.length : Int) && ((unionM m (ps.drop i) : Nat) : Int) == (2 : Int) ^ c.toNat - 1)) := by
      refine upto ?_ ?_
      · intro m hm
        rw [List.drop_length]
        refine spec_GoodParts.eq3 _ _ _ _ _ _ ?_
        have hcb : inB 1 6 c = true := inB_iff.2 hc
        simp only [spec_GoodParts.t3, ix_lt, Nat.lt_irrefl, decide_false, cond_false, spec_l1In_eq, Option.bind_some, hcb, cond_true, List.all_nil, Bool.true_and, unionM, List.foldl_nil, full_bits hc.1 hc.2 hm]
        cases inB 1 8 (ps.length : Int) <;> rfl
      · intro i hi ih m hm
        have hpl := hr _ (getD_mem [] hi)
        rw [drop_getD [] hi, List.all_cons]
        refine spec_GoodParts.eq3 _ _ _ _ _ _ ?_
        simp only [spec_GoodParts.t3, ix_lt, ix_nn, ix_nat, dec_t hi, cond_true, spec_l1Some_eq _ _ hpl, Option.bind_some]
        cases h1 : someB c (ps.getD i [])
        · simp only [partB, h1, Bool.false_and]; rfl
        · cases h2 : ((ps.getD i []).length : Int) == 0
          · have hp : partB c (ps.getD i []) = true := by simp only [partB, h1, h2]; rfl
            rw [hp]
            simp only [bang_t, cond_false]
            refine inner _ i m _ hpl hi hp ?_
            have hm2 : maskN m (ps.getD i []) < 2 ^ c.toNat := maskN_below hm fun x hx => by
              have := (some_rises h1).2 x hx
              omega
            rw [ih _ hm2]
            rfl
          · have hp : partB c (ps.getD i []) = false := by simp only [partB, h1, h2]; rfl
            simp only [hp, Bool.false_and, bang_t, cond_false, cond_true]
    have k := key 0 (Nat.zero_le _) 0 (Nat.two_pow_pos _)
    have hcb : inB 1 6 c = true := inB_iff.2 hc
    have e0 : bitsF 0 0 62 = [] := bitsF_none (by simp)
    rw [e0, List.drop_zero] at k
    refine Eq.trans k ?_
    rw [partsB, hcb]
    cases ps.all (partB c) <;> cases inB 1 8 (ps.length : Int) <;> rfl
  · -- out of bounds: whatever the parts are
    have hcb : inB 1 6 c = false := by
      cases h : inB 1 6 c with
      | false => rfl
      | true => exact absurd (inB_iff.1 h) hc
    have hP : partsB c ps = false := by rw [partsB, hcb]; rfl
    rw [hP]
    have step8 : ∀ (p : List Int) (i T : Nat) (b : Bool), T ≤ 1073741824 → p.length ≤ 1073741824 → i < ps.length → (∀ acc : List Int, acc.length ≤ T → spec_GoodParts.l3 ps c acc ps (ps.length : Int) ((i + 1 : Nat) : Int) = some b) →
        ∀ j, j ≤ p.length → ∀ acc : List Int, acc.length + (p.length - j) ≤ T → spec_GoodParts.l8 ps c acc ps (ps.length : Int) (i : Int) p (p.length : Int) (j : Int) = some b := by
      intro p i T b hT hpl hi hb
      refine upto ?_ ?_
      · intro acc ha
        exact spec_GoodParts.eq8 _ _ _ _ _ _ _ _ _ (by simp only [spec_GoodParts.t8, ix_lt, Nat.lt_irrefl, decide_false, cond_false, wrap_succ (show i < 9223372036854775807 by omega)]; exact hb acc (by omega))
      · intro j hj ih acc ha
        refine spec_GoodParts.eq8 _ _ _ _ _ _ _ _ _ ?_
        simp only [spec_GoodParts.t8, ix_lt, ix_nn, ix_nat, dec_t hj, cond_true, spec_l7Put_eq acc (p.getD j 0) (by omega), Option.bind_some, wrap_succ (show j < 9223372036854775807 by omega)]
        refine ih _ ?_
        have hput : (putS (p.getD j 0) acc).length = acc.length + 1 := by
          have h := congrArg List.length (List.takeWhile_append_dropWhile (p := fun x => decide (x < p.getD j 0)) (l := acc))
          rw [List.length_append] at h
          simp only [putS, List.length_append, List.length_singleton]
          omega
        cases acc.any (fun x => x == p.getD j 0)
        · simp only [cond_false, hput]; omega
        · simp only [cond_true]; omega
    have key : ∀ i, i ≤ ps.length → ∀ acc : List Int, acc.length + ((ps.drop i).map List.length).sum ≤ 1073741824 → spec_GoodParts.l3 ps c acc ps (ps.length : Int) (i : Int) = some false := by
      refine upto ?_ ?_
      · intro acc _
        refine spec_GoodParts.eq3 _ _ _ _ _ _ ?_
        simp only [spec_GoodParts.t3, ix_lt, Nat.lt_irrefl, decide_false, cond_false, spec_l1In_eq, Option.bind_some, hcb]
      · intro i hi ih acc ha
        have hpl := hr _ (getD_mem [] hi)
        rw [drop_getD [] hi, List.map_cons, List.sum_cons] at ha
        refine spec_GoodParts.eq3 _ _ _ _ _ _ ?_
        simp only [spec_GoodParts.t3, ix_lt, ix_nn, ix_nat, dec_t hi, cond_true, spec_l1Some_eq _ _ hpl, Option.bind_some]
        cases h1 : someB c (ps.getD i [])
        · rfl
        · cases h2 : ((ps.getD i []).length : Int) == 0
          · simp only [bang_t, cond_false]
            exact step8 _ i (acc.length + (ps.getD i []).length) false (by omega) hpl hi (fun acc' h' => ih acc' (by omega)) 0 (Nat.zero_le _) acc (by omega)
          · rfl
    exact key 0 (Nat.zero_le _) [] (by rw [List.drop_zero]; simpa using hs)
theorem impl_GoodParts_eq : impl_GoodParts ps c = some (partsB c ps) := by
  refine impl_GoodParts.eq ps c ?_
  simp only [impl_GoodParts.t, impl_within_eq, Option.bind_some]
  cases h6 : inB 1 6 c with
  | false => rw [partsB, h6]; rfl
  | true =>
    cases h8 : inB 1 8 (ps.length : Int) with
    | false => rw [partsB, h6, h8]; rfl
    | true =>
      have hc := inB_iff.1 h6
      simp only [bang_t, cond_false]
      have key : ∀ i, i ≤ ps.length → ∀ m : Nat, m < 2 ^ c.toNat → impl_GoodParts.l5 c (m : Int) ps (ps.length : Int) (i : Int) = some ((ps.drop i).all (partB c) && ((unionM m (ps.drop i) : Nat) : Int) == (2 : Int) ^ c.toNat - 1) := by
        have hsm : ∀ m : Nat, m < 2 ^ c.toNat → m < 4611686018427387904 := fun m hm => by
          have : (2 : Nat) ^ c.toNat ≤ 64 := Nat.pow_le_pow_right (by omega) (show c.toNat ≤ 6 by omega)
          omega
        have hwhole : impl_whole c = some ((2 : Int) ^ c.toNat - 1) := by
          refine impl_whole.eq c ?_
          have h0 : 0 ≤ c := by omega
          have hlt : c.toNat < 62 := by omega
          have h64 : (2 : Nat) ^ c.toNat ≤ 64 := Nat.pow_le_pow_right (by omega) (show c.toNat ≤ 6 by omega)
          have hp : (1 : Nat) ≤ 2 ^ c.toNat := Nat.one_le_two_pow
          have e : (2 : Int) ^ c.toNat = ((2 ^ c.toNat : Nat) : Int) := by simp
          simp only [impl_whole.t, dec_t h0, cond_true, one_shl hlt]
          rw [e, wrap_id (by omega) (by omega)]
        refine upto ?_ ?_
        · intro m hm
          rw [List.drop_length]
          refine impl_GoodParts.eq5 _ _ _ _ _ ?_
          simp only [impl_GoodParts.t5, ix_lt, Nat.lt_irrefl, decide_false, cond_false, hwhole, Option.bind_some, List.all_nil, Bool.true_and, unionM, List.foldl_nil]
        · intro i hi ih m hm
          have hpl := hr _ (getD_mem [] hi)
          rw [drop_getD [] hi, List.all_cons]
          refine impl_GoodParts.eq5 _ _ _ _ _ ?_
          have e1 : impl_isPart (ps.getD i []) c = some (partB c (ps.getD i [])) := by
            refine impl_isPart.eq _ _ ?_
            simp only [impl_isPart.t, impl_areRising_eq _ _ hpl, Option.bind_some, partB]
            by_cases h0 : ((ps.getD i []).length : Int) > 0
            · have h1 : (((ps.getD i []).length : Int) == 0) = false := beq_eq_false_iff_ne.2 (by omega)
              simp only [dec_t h0, cond_true, h1, bang_f, Bool.and_true]
            · have h1 : (((ps.getD i []).length : Int) == 0) = true := beq_iff_eq.2 (by omega)
              simp only [dec_f h0, cond_false, h1, bang_t, Bool.and_false]
          simp only [impl_GoodParts.t5, ix_lt, ix_nn, ix_nat, dec_t hi, cond_true, e1, Option.bind_some]
          cases hp : partB c (ps.getD i [])
          · rfl
          · have h1 := (partB_fit hp).1
            have hin := (some_rises h1).2
            have hm2 : maskN m (ps.getD i []) < 2 ^ c.toNat := maskN_below hm fun x hx => by have := hin x hx; omega
            have e2 := impl_setOf_eq (ps.getD i []) hpl (fun x hx => by have := hin x hx; omega)
            have hk : maskN 0 (ps.getD i []) < 2 ^ c.toNat := maskN_below (Nat.two_pow_pos _) fun x hx => by have := hin x hx; omega
            have e3 : maskN m (ps.getD i []) = m ||| maskN 0 (ps.getD i []) := maskN_acc' _ _
            simp only [bang_t, cond_false, e2, Option.bind_some, or_nat (hsm _ hm) (hsm _ hk), wrap_succ (show i < 9223372036854775807 by omega), Bool.true_and]
            rw [← e3, ih _ hm2]
            rfl
      have k := key 0 (Nat.zero_le _) 0 (Nat.two_pow_pos _)
      rw [List.drop_zero] at k
      refine Eq.trans k ?_
      rw [partsB, h6, h8]
      rfl
end
end GoV
