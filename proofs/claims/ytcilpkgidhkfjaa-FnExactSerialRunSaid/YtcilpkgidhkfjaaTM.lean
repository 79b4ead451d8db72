/- A part of the proof of FnExactSerialRun: an interpreter of the model over plain data, its soundness, and what it makes of the functions that the statement reaches. Conditions: none beyond what the given statement itself says. -/
import Derived.Test.YtcilpkgidhkfjaaTL
set_option linter.unusedVariables false
set_option linter.unusedSimpArgs false
set_option linter.unnecessarySimpa false
set_option linter.unusedSectionVars false
/- Rising numbers; sets as bits. -/
namespace GoV
open Go
theorem ix_pos (i : Nat) : decide ((i : Int) > (0 : Int)) = decide (0 < i) := by
  by_cases h : 0 < i <;> simp [h] <;> omega
/-- One of the places of rising numbers below n. -/
def placeB (n : Int) (l : List Int) (k : Nat) : Bool := (decide (0 ≤ l.getD k 0) && decide (l.getD k 0 < n)) && (decide (k = 0) || decide (l.getD (k - 1) 0 < l.getD k 0))
def someB (n : Int) (l : List Int) : Bool := allR (placeB n l) 0 l.length
theorem some_rises {n : Int} {l : List Int} (h : someB n l = true) : risesB (-1) l = true ∧ ∀ x, x ∈ l → 0 ≤ x ∧ x < n := by
  simp only [someB, allR_iff, placeB, Bool.and_eq_true, Bool.or_eq_true, decide_eq_true_eq] at h
  have key : ∀ (r pre : List Int), l = pre ++ r → risesB (if pre = [] then -1 else pre.getLastD 0) r = true := by
    intro r
    induction r with
    | nil => intro pre _; rfl
    | cons x r ih =>
      intro pre hl
      have hk := h pre.length (Nat.zero_le _) (by rw [hl]; simp)
      have hx : l.getD pre.length 0 = x := by rw [hl]; exact getD_mid pre r x 0
      rw [hx] at hk
      have ih' := ih (pre ++ [x]) (by rw [hl]; simp)
      simp only [risesB, Bool.and_eq_true, decide_eq_true_eq]
      refine ⟨?_, by simpa using ih'⟩
      cases pre with
      | nil => simp; omega
      | cons y pre =>
        simp only [List.cons_ne_nil, if_false]
        have h2 : l.getD ((y :: pre).length - 1) 0 = (y :: pre).getLastD 0 := by
          rw [hl]
          simp only [List.getLastD_eq_getLast?, List.getLast?_eq_getElem?, List.getD]
          rw [List.getElem?_append_left (by simp)]
        rw [h2] at hk
        rcases hk.2 with h3 | h3
        · simp at h3
        · exact h3
  refine ⟨by simpa using key l [] rfl, fun x hx => ?_⟩
  obtain ⟨i, hi, rfl⟩ := List.mem_iff_getElem.1 hx
  have := (h i (Nat.zero_le _) hi).1
  rwa [getD_of_lt hi] at this
theorem impl_setOf_eq (l : List Int) (hl : l.length ≤ 1073741824) (hr : ∀ x, x ∈ l → 0 ≤ x ∧ x < 62) : impl_setOf l = some ((maskN 0 l : Nat) : Int) := by
  have key : ∀ i, i ≤ l.length → ∀ m : Nat, m < 4611686018427387904 → impl_setOf.l3 (m : Int) l (l.length : Int) (i : Int) = some ((maskN m (l.drop i) : Nat) : Int) := by
    refine upto ?_ ?_
    · intro m _
      exact impl_setOf.eq3 _ _ _ _ (by simp only [impl_setOf.t3, ix_lt, Nat.lt_irrefl, decide_false, cond_false, List.drop_length]; rfl)
    · intro i hi ih m hm
      have hx := hr _ (getD_mem 0 hi)
      obtain ⟨x, hx'⟩ : ∃ x : Nat, l.getD i 0 = (x : Int) := ⟨(l.getD i 0).toNat, by omega⟩
      have hlt : x < 62 := by omega
      have g := ih (m ||| 2 ^ x) (or_lt hm (pow_lt hlt))
      refine impl_setOf.eq3 _ _ _ _ ?_
      rw [drop_getD 0 hi, maskN_cons]
      simp only [impl_setOf.t3, ix_lt, ix_nn, ix_nat, dec_t hi, cond_true, hx', one_shl hlt, or_nat hm (pow_lt hlt), wrap_succ (show i < 9223372036854775807 by omega)]
      exact g
  exact impl_setOf.eq l (by simp only [impl_setOf.t]; exact key 0 (Nat.zero_le _) 0 (by omega))
theorem impl_set_list_eq (m : Nat) (hm : m < 4611686018427387904) : impl_set_list (m : Int) = some (bitsF m 0 62) := by
  have key : ∀ i, i ≤ 62 → ∀ acc : List Int, acc.length + 62 ≤ 1073741824 + i → impl_set_list.l3 (m : Int) acc (i : Int) = some (acc ++ bitsF m i (62 - i)) := by
    refine upto ?_ ?_
    · intro acc _
      refine impl_set_list.eq3 _ _ _ ?_
      have e : m >>> 62 = 0 := by rw [Nat.shiftRight_eq_div_pow]; omega
      simp only [impl_set_list.t3, ix_nn, ix_nat, cond_true, shr_nat m 62 (by omega), e]
      simp [bitsF]
    · intro i hi ih acc hacc
      refine impl_set_list.eq3 _ _ _ ?_
      simp only [impl_set_list.t3, ix_nn, ix_nat, cond_true, shr_nat m i (show i ≤ 64 by omega)]
      by_cases h0 : m >>> i = 0
      · rw [h0, bitsF_none h0]
        simp
      · have e1 : (((m >>> i : Nat) : Int) != (0 : Int)) = true := by
          have : ((m >>> i : Nat) : Int) ≠ 0 := by omega
          simpa using this
        have hs : m >>> i < 4611686018427387904 := Nat.lt_of_le_of_lt (by rw [Nat.shiftRight_eq_div_pow]; exact Nat.div_le_self _ _) hm
        have e2 := and_nat (m := m >>> i) (n := 1) hs (by omega)
        have e3 : (m >>> i &&& 1) = if m.testBit i then 1 else 0 := by
          rw [Nat.and_one_is_mod, Nat.testBit, Nat.one_and_eq_mod_two]
          rcases Nat.mod_two_eq_zero_or_one (m >>> i) with h | h <;> simp [h]
        rw [e3] at e2
        have e4 : ((1 : Nat) : Int) = (1 : Int) := rfl
        rw [e4] at e2
        have e5 : 62 - i = (62 - (i + 1)) + 1 := by omega
        rw [e5, bitsF_step]
        simp only [e1, cond_true, e2, wrap_succ (show i < 9223372036854775807 by omega)]
        cases hb : m.testBit i with
        | true =>
          have hlen : acc.length + [((i : Nat) : Int)].length ≤ 4294967296 := by simp only [List.length_cons, List.length_nil]; omega
          have g := ih (acc ++ [(i : Int)]) (by simp only [List.length_append, List.length_cons, List.length_nil]; omega)
          simp only [if_true, dec_t hlen, cond_true]
          rw [g]
          simp
        | false =>
          have g := ih acc (by omega)
          simp only [Bool.false_eq_true, if_false]
          rw [g]
          simp
  refine impl_set_list.eq _ ?_
  simp only [impl_set_list.t]
  have g := key 0 (Nat.zero_le _) [] (by simp)
  simpa using g
/-- The numbers of the set of rising numbers are they. -/
theorem set_list_rises {n : Int} {l : List Int} (h : someB n l = true) (hn : n ≤ 62) : impl_set_list ((maskN 0 l : Nat) : Int) = some l := by
  obtain ⟨h1, h2⟩ := some_rises h
  rw [impl_set_list_eq _ (maskN_lt (by omega) fun x hx => by have := h2 x hx; omega), bitsF_mask h1 fun x hx => by have := h2 x hx; omega]
end GoV

/- Sets as rising lists: numbers put to their place. -/
namespace GoV
open Go
theorem spec_l1Has_eq (l : List Int) (n : Int) (hl : l.length ≤ 1073741824) : spec_l1Has l n = some (l.any fun x => x == n) := by
  have key : ∀ i, i ≤ l.length → spec_l1Has.l2 n l (l.length : Int) (i : Int) = some ((l.drop i).any fun x => x == n) := by
    refine upto ?_ ?_
    · exact spec_l1Has.eq2 _ _ _ _ (by simp only [spec_l1Has.t2, ix_lt, Nat.lt_irrefl, decide_false, cond_false, List.drop_length, List.any_nil])
    · intro i hi ih
      refine spec_l1Has.eq2 _ _ _ _ ?_
      rw [drop_getD 0 hi, List.any_cons]
      simp only [spec_l1Has.t2, ix_lt, ix_nn, ix_nat, dec_t hi, cond_true, wrap_succ (show i < 9223372036854775807 by omega), ih]
      cases (l.getD i 0 == n) <;> rfl
  exact spec_l1Has.eq l n (by simp only [spec_l1Has.t]; exact key 0 (Nat.zero_le _))
theorem spec_l7Put_eq (l : List Int) (n : Int) (hl : l.length ≤ 1073741824) : spec_l7Put l n = some (bif l.any (fun x => x == n) then l else putS n l) := by
  have key : ∀ k, k ≤ l.length → spec_l7Put.l4 l n (k : Int) = some (l.take k ++ (l.drop k).takeWhile (fun x => decide (x < n)) ++ [n] ++ (l.drop k).dropWhile (fun x => decide (x < n))) := by
    have fin : ∀ k, k ≤ l.length → (decide ((none : Option Int).getD (0 : Int) ≤ (k : Int)) = true ∧ decide ((k : Int) ≤ (l.length : Int)) = true ∧ decide ((l.take k).length ≤ 4294967296) = true ∧ decide ((l.take k).length + [n].length ≤ 4294967296) = true ∧
        decide ((l.take k ++ [n]).length + (l.drop k).length ≤ 4294967296) = true) := by
      intro k hk
      refine ⟨by simp, by simpa using hk, ?_, ?_, ?_⟩ <;> simp <;> omega
    refine upto ?_ ?_
    · obtain ⟨f1, f2, f3, f4, f5⟩ := fin l.length (Nat.le_refl _)
      refine spec_l7Put.eq4 _ _ _ ?_
      simp only [spec_l7Put.t4, ix_lt, ix_nn, ix_nat, Nat.lt_irrefl, decide_false, cond_false, cond_true, Option.getD_none, Option.getD_some, Int.sub_zero, Int.toNat_zero, List.drop_zero, f2, f3, f4, f5]
      simp
    · intro k hk ih
      obtain ⟨f1, f2, f3, f4, f5⟩ := fin k (by omega)
      refine spec_l7Put.eq4 _ _ _ ?_
      rw [drop_getD 0 hk]
      simp only [spec_l7Put.t4, ix_lt, ix_nn, ix_nat, dec_t hk, cond_true, wrap_succ (show k < 9223372036854775807 by omega), ih, List.takeWhile_cons, List.dropWhile_cons]
      by_cases h : l.getD k 0 < n
      · simp only [dec_t h, cond_true, if_true]
        congr 1
        have : l.take (k + 1) = l.take k ++ [l.getD k 0] := by rw [List.take_add_one]; simp [List.getD, hk]
        rw [this]
        simp
      · simp only [dec_f h, cond_false, cond_true, Option.getD_none, Option.getD_some, Int.sub_zero, Int.toNat_zero, List.drop_zero, ix_nn, ix_nat, f2, f3, f4, f5, Bool.false_eq_true, if_false]
        simp only [List.append_nil]
        rw [drop_getD 0 hk]
  refine spec_l7Put.eq l n ?_
  simp only [spec_l7Put.t, spec_l1Has_eq l n hl, Option.bind_some]
  cases h : l.any (fun x => x == n) with
  | true => rfl
  | false =>
    simp only [cond_false]
    have := key 0 (Nat.zero_le _)
    simpa [putS] using this
/-- A number put into a set that is told as a rising list. -/
theorem l7Put_bits {m x : Nat} (hx : x < 62) : spec_l7Put (bitsF m 0 62) (x : Int) = some (bitsF (m ||| 2 ^ x) 0 62) := by
  have hl := bitsF_len m 0 62
  rw [spec_l7Put_eq _ _ (by omega)]
  cases h : m.testBit x with
  | true =>
    have : (bitsF m 0 62).any (fun y => y == (x : Int)) = true := by
      rw [List.any_eq_true]
      exact ⟨(x : Int), bitsF_mem.2 ⟨x, rfl, by omega, by omega, h⟩, by simp⟩
    rw [this, or_same h]
    rfl
  | false =>
    have : (bitsF m 0 62).any (fun y => y == (x : Int)) = false := by
      rw [Bool.eq_false_iff]
      intro ha
      rw [List.any_eq_true] at ha
      obtain ⟨y, hy, he⟩ := ha
      obtain ⟨k, rfl, _, _, hk⟩ := bitsF_mem.1 hy
      have : k = x := by
        have he2 : (k : Int) = (x : Int) := by simpa using he
        omega
      rw [this, h] at hk
      cases hk
    rw [this]
    simp only [cond_false]
    rw [putS_bits 62 0 m x (by omega) (by omega) h]
end GoV

/- SerialRun: the program's answer is the specification's. -/
namespace GoV
open Go
abbrev Stp := Int × Int × Int
def stepB (x : Stp) : Bool := inB 0 5 x.1 && (inB 1 2 x.2.1 && inB 0 3 x.2.2)
def stepsB (l : List Stp) : Bool := l.all stepB && decide (l.length ≤ 40)
theorem len40 (n : Nat) : decide ((n : Int) ≤ 40) = decide (n ≤ 40) := by
  by_cases h : n ≤ 40
  · rw [dec_t h, dec_t (by omega)]
  · rw [dec_f h, dec_f (by omega)]
theorem spec_GoodSteps_eq (l : List Stp) (hl : l.length ≤ 1073741824) : spec_GoodSteps l = some (stepsB l) := by
  refine spec_GoodSteps.eq l ?_
  simp only [spec_GoodSteps.t]
  have one : ∀ i, i < l.length → ∀ c, (stepB (l.getD i (0, 0, 0)) = false → c = some false) → (stepB (l.getD i (0, 0, 0)) = true → spec_GoodSteps.l2 l l (l.length : Int) ((i + 1 : Nat) : Int) = c) → ∀ b, c = some b → spec_GoodSteps.l2 l l (l.length : Int) (i : Int) = some b := by
    intro i hi c hf ht b hb
    refine spec_GoodSteps.eq2 _ _ _ _ ?_
    simp only [spec_GoodSteps.t2, ix_lt, ix_nn, ix_nat, dec_t hi, cond_true, spec_l1In_eq, Option.bind_some, wrap_succ (show i < 9223372036854775807 by omega)]
    generalize hx : l.getD i (0, 0, 0) = x at hf ht ⊢
    by_cases h1 : x.1 < 0
    · have : stepB x = false := by simp [stepB, inB]; omega
      rw [dec_t h1, ← hb, hf this]; rfl
    · by_cases h2 : x.1 ≥ 6
      · have : stepB x = false := by simp [stepB, inB]; omega
        rw [dec_f h1, dec_t h2, ← hb, hf this]; rfl
      · by_cases h3 : x.2.2 < 0
        · have : stepB x = false := by simp [stepB, inB]; omega
          rw [dec_f h1, dec_f h2, dec_t h3, ← hb, hf this]; rfl
        · by_cases h4 : x.2.2 ≥ 4
          · have : stepB x = false := by simp [stepB, inB]; omega
            rw [dec_f h1, dec_f h2, dec_f h3, dec_t h4, ← hb, hf this]; rfl
          · have e1 : inB 0 5 x.1 = true := inB_iff.2 ⟨by omega, by omega⟩
            have e2 : inB 0 3 x.2.2 = true := inB_iff.2 ⟨by omega, by omega⟩
            have e3 : stepB x = inB 1 2 x.2.1 := by simp only [stepB, e1, e2, Bool.true_and, Bool.and_true]
            rw [dec_f h1, dec_f h2, dec_f h3, dec_f h4, ← hb]
            rw [e3] at hf ht
            cases h5 : inB 1 2 x.2.1 with
            | false => rw [hf h5]; rfl
            | true => rw [← ht h5]; rfl
  have := all_loop l (0, 0, 0) (fun i => spec_GoodSteps.l2 l l (l.length : Int) (i : Int)) stepB false (decide (l.length ≤ 40)) ?_ ?_ ?_
  · refine Eq.trans this ?_
    simp only [stepsB]
    cases l.all stepB <;> rfl
  · exact spec_GoodSteps.eq2 _ _ _ _ (by simp only [spec_GoodSteps.t2, ix_lt, Nat.lt_irrefl, decide_false, cond_false, len40])
  · intro i hi hb
    exact one i hi (some false) (fun _ => rfl) (fun h => by rw [h] at hb; cases hb) _ rfl
  · intro i c hi hb hc
    exact one i hi (some c) (fun h => by rw [h] at hb; cases hb) (fun _ => hc) _ rfl
theorem impl_isTxn_eq (x : Int) : impl_isTxn x = some (inB 0 5 x) := impl_isTxn.eq x (by simp only [impl_isTxn.t, impl_within_eq, Option.bind_some])
theorem impl_isStep_eq (x : Stp) : impl_isStep x.1 x.2.1 x.2.2 = some (stepB x) := by
  refine impl_isStep.eq _ _ _ ?_
  simp only [impl_isStep.t, impl_isTxn_eq, impl_within_eq, Option.bind_some, stepB]
  cases inB 0 5 x.1
  · rfl
  · cases inB 1 2 x.2.1
    · rfl
    · rfl
theorem impl_GoodSteps_eq (l : List Stp) (hl : l.length ≤ 1073741824) : impl_GoodSteps l = some (stepsB l) := by
  refine impl_GoodSteps.eq l ?_
  simp only [impl_GoodSteps.t, impl_areAll_impl_Step_impl_isStep_ok l stepB (by omega) (fun x _ => impl_isStep_eq x), Option.bind_some, stepsB, len40]
  cases decide (l.length ≤ 40)
  · simp
  · simp
/-! ## The transactions that have steps -/
def txM (l : List Stp) : Nat := maskN 0 (l.map fun x => x.1)
section
variable {l : List Stp} (hl : l.length ≤ 1073741824) (hg : ∀ x, x ∈ l → 0 ≤ x.1 ∧ x.1 < 62)
include hl hg
theorem spec_l13Txns_eq : spec_l13Txns l = some (bitsF (txM l) 0 62) := by
  refine spec_l13Txns.eq l ?_
  simp only [spec_l13Txns.t]
  have key := fold_loop (σ := Nat) l (0, 0, 0) (fun m i => spec_l13Txns.l3 (bitsF m 0 62) l (l.length : Int) (i : Int)) (fun m x => m ||| 2 ^ x.1.toNat) (fun _ => True) (fun m => some (bitsF m 0 62)) ?_ (fun _ _ _ _ => trivial) ?_ 0 (bitsF (txM l) 0 62) trivial ?_
  · exact key
  · intro m b _ hb
    exact spec_l13Txns.eq3 _ _ _ _ (by simp only [spec_l13Txns.t3, ix_lt, Nat.lt_irrefl, decide_false, cond_false]; exact hb)
  · intro m i b hi _ hb
    have hx := hg _ (getD_mem (0, 0, 0) hi)
    obtain ⟨x, hxe⟩ : ∃ x : Nat, (l.getD i (0, 0, 0)).1 = (x : Int) := ⟨(l.getD i (0, 0, 0)).1.toNat, by omega⟩
    rw [hxe, ix_nat] at hb
    refine spec_l13Txns.eq3 _ _ _ _ ?_
    simp only [spec_l13Txns.t3, ix_lt, ix_nn, ix_nat, dec_t hi, cond_true, hxe, l7Put_bits (m := m) (show x < 62 by omega), Option.bind_some, wrap_succ (show i < 9223372036854775807 by omega)]
    exact hb
  · simp only [txM, maskN, List.foldl_map]
theorem impl_txnsOf_eq : impl_txnsOf l = some ((txM l : Nat) : Int) := by
  refine impl_txnsOf.eq l ?_
  simp only [impl_txnsOf.t]
  have key := fold_loop (σ := Nat) l (0, 0, 0) (fun m i => impl_txnsOf.l3 (m : Int) l (l.length : Int) (i : Int)) (fun m x => m ||| 2 ^ x.1.toNat) (fun m => m < 4611686018427387904) (fun m => some (m : Int)) ?_ ?_ ?_ 0 ((txM l : Nat) : Int) (by omega) ?_
  · exact key
  · intro m b _ hb
    exact impl_txnsOf.eq3 _ _ _ _ (by simp only [impl_txnsOf.t3, ix_lt, Nat.lt_irrefl, decide_false, cond_false]; exact hb)
  · intro m i hi hm
    have hx := hg _ (getD_mem (0, 0, 0) hi)
    exact or_lt hm (pow_lt (by omega))
  · intro m i b hi hm hb
    have hx := hg _ (getD_mem (0, 0, 0) hi)
    refine impl_txnsOf.eq3 _ _ _ _ ?_
    simp only [impl_txnsOf.t3, ix_lt, ix_nn, ix_nat, dec_t hi, dec_t hx.1, cond_true, one_shl (show (l.getD i (0, 0, 0)).1.toNat < 62 by omega), or_nat hm (pow_lt (show (l.getD i (0, 0, 0)).1.toNat < 62 by omega)), wrap_succ (show i < 9223372036854775807 by omega)]
    exact hb
  · simp only [txM, maskN, List.foldl_map]
end
/-! ## The steps of a transaction -/
def stL (l : List Stp) (t : Int) : List Stp := l.filter fun x => x.1 == t
theorem impl_stepsOf_1_eq (x : Stp) (t : Int) : impl_stepsOf_1 x.1 x.2.1 x.2.2 t = some (x.1 != t) := impl_stepsOf_1.eq _ _ _ _ (by simp only [impl_stepsOf_1.t])
theorem find_ok (l : List Stp) (t : Int) (hl : l.length ≤ 1073741824) : ∀ i, i ≤ l.length → ∃ k, i ≤ k ∧ k ≤ l.length ∧ slices_IndexFunc_impl_Step_impl_Step_impl_stepsOf_1.l2 l t (l.length : Int) (i : Int) = some (if k < l.length then (k : Int) else -1) ∧
    (∀ q, i ≤ q → q < k → (l.getD q (0, 0, 0)).1 = t) ∧ (k < l.length → (l.getD k (0, 0, 0)).1 ≠ t) := by
  refine upto ?_ ?_
  · refine ⟨l.length, Nat.le_refl _, Nat.le_refl _, slices_IndexFunc_impl_Step_impl_Step_impl_stepsOf_1.eq2 _ _ _ _ ?_, fun q h1 h2 => by omega, fun h => by omega⟩
    rw [if_neg (Nat.lt_irrefl _)]
    simp only [slices_IndexFunc_impl_Step_impl_Step_impl_stepsOf_1.t2, ix_lt, Nat.lt_irrefl, decide_false, cond_false]
  · intro i hi ih
    obtain ⟨k, k1, k2, k3, k4, k5⟩ := ih
    cases h : (l.getD i (0, 0, 0)).1 != t with
    | true =>
      refine ⟨i, Nat.le_refl _, Nat.le_of_lt hi, slices_IndexFunc_impl_Step_impl_Step_impl_stepsOf_1.eq2 _ _ _ _ ?_, fun q h1 h2 => by omega, fun _ => bne_iff_ne.1 h⟩
      rw [if_pos hi]
      simp only [slices_IndexFunc_impl_Step_impl_Step_impl_stepsOf_1.t2, ix_lt, ix_nn, ix_nat, dec_t hi, cond_true, impl_stepsOf_1_eq, Option.bind_some, h]
    | false =>
      refine ⟨k, by omega, k2, slices_IndexFunc_impl_Step_impl_Step_impl_stepsOf_1.eq2 _ _ _ _ ?_, fun q h1 h2 => ?_, k5⟩
      · simp only [slices_IndexFunc_impl_Step_impl_Step_impl_stepsOf_1.t2, ix_lt, ix_nn, ix_nat, dec_t hi, cond_true, cond_false, impl_stepsOf_1_eq, Option.bind_some, h, wrap_succ (show i < 9223372036854775807 by omega)]
        exact k3
      · by_cases e : q = i
        · subst e
          simpa using h
        · exact k4 q (by omega) h2
theorem filter_take_succ {l : List Stp} {p : Stp → Bool} {j : Nat} (hj : j < l.length) : (l.take (j + 1)).filter p = (l.take j).filter p ++ (if p (l.getD j (0, 0, 0)) then [l.getD j (0, 0, 0)] else []) := by
  rw [List.take_add_one, List.filter_append, getD_of_lt hj, List.getElem?_eq_getElem hj]
  congr 1
  simp only [Option.toList_some, List.filter_cons, List.filter_nil]
theorem take_set_at {d : List Stp} {i : Nat} {x : Stp} (hi : i < d.length) : (d.set i x).take (i + 1) = d.take i ++ [x] := by
  rw [List.take_add_one, List.take_set_of_le (Nat.le_refl _), List.getElem?_set_self hi]
  rfl
theorem del_ok {l : List Stp} {t : Int} (hl : l.length ≤ 1073741824) : ∀ j, j ≤ l.length → ∀ (d : List Stp) (i : Nat), d.length = l.length → i < j → d.take i = (l.take j).filter (fun x => x.1 == t) → d.drop j = l.drop j →
    slices_DeleteFunc_impl_Step_impl_Step_impl_stepsOf_1_b77.l5 d t (i : Int) (j : Int) = some (stL l t) := by
  refine upto ?_ ?_
  · intro d i hd hij ht hdr
    refine slices_DeleteFunc_impl_Step_impl_Step_impl_stepsOf_1_b77.eq5 _ _ _ _ ?_
    have h1 : (0 : Int) ≤ (i : Int) := by omega
    have h2 : (i : Int) ≤ (d.length : Int) := by omega
    have h3 : ¬ (List.drop i d).length = 0 := by rw [List.length_drop]; omega
    have h4 : (i : Int) ≤ ((List.take i d ++ List.replicate (d.length - i) ((0 : Int), (0 : Int), (0 : Int))).length : Int) := by
      rw [List.length_append, List.length_take, List.length_replicate]; omega
    have h5 : ((i : Int) - 0).toNat = i := by omega
    simp only [slices_DeleteFunc_impl_Step_impl_Step_impl_stepsOf_1_b77.t5, ix_lt, hd, Nat.lt_irrefl, decide_false, cond_false, Option.getD_some, Option.getD_none, dec_t h1, ix_nat, dec_t h2]
    rw [hd] at h2 h4
    simp only [dec_t h2, dec_f h3, dec_t h4, bang_f, cond_true, h5]
    rw [show (0 : Int).toNat = 0 from rfl, List.drop_zero, List.take_append_of_le_length (by rw [List.length_take]; omega), List.take_take, Nat.min_self, ht, List.take_length]
    rfl
  · intro j hj ih d i hd hij ht hdr
    have hjd : j < d.length := by omega
    have hid : i < d.length := by omega
    have hgj : d.getD j (0, 0, 0) = l.getD j (0, 0, 0) := by
      have := congrArg (fun x : List Stp => x[0]?) hdr
      simp only [List.getElem?_drop, Nat.add_zero] at this
      simp only [List.getD_eq_getElem?_getD, this]
    refine slices_DeleteFunc_impl_Step_impl_Step_impl_stepsOf_1_b77.eq5 _ _ _ _ ?_
    simp only [slices_DeleteFunc_impl_Step_impl_Step_impl_stepsOf_1_b77.t5, ix_lt, ix_nn, ix_nat, dec_t hjd, dec_t hid, cond_true, impl_stepsOf_1_eq, Option.bind_some, wrap_succ (show i < 9223372036854775807 by omega), wrap_succ (show j < 9223372036854775807 by omega)]
    have hdrop : ∀ d' : List Stp, d'.length = d.length → (∀ q, j < q → d'[q]? = d[q]?) → d'.drop (j + 1) = l.drop (j + 1) := by
      intro d' _ hq
      apply List.ext_getElem?
      intro q
      have := congrArg (fun x : List Stp => x[q + 1]?) hdr
      simp only [List.getElem?_drop] at this ⊢
      rw [hq _ (by omega)]
      rw [show j + 1 + q = j + (q + 1) by omega]
      exact this
    cases h : (d.getD j (0, 0, 0)).1 != t with
    | true =>
      have h' : ((l.getD j (0, 0, 0)).1 == t) = false := by rw [← hgj]; simpa using h
      simp only [bang_t, cond_false]
      refine ih d i hd (by omega) ?_ (hdrop d rfl fun _ _ => rfl)
      rw [filter_take_succ hj, h', ht]
      simp
    | false =>
      have h' : ((l.getD j (0, 0, 0)).1 == t) = true := by rw [← hgj]; simpa using h
      simp only [bang_f, cond_true]
      refine ih (d.set i (d.getD j (0, 0, 0))) (i + 1) (by rw [List.length_set]; exact hd) (by omega) ?_ (hdrop _ (by rw [List.length_set]) fun q hq => by rw [List.getElem?_set_ne (by omega)])
      rw [take_set_at hid, filter_take_succ hj, h', ht, hgj]
      simp
theorem slices_Clone_impl_Step_impl_Step_eq (l : List Stp) (hl : l.length ≤ 1073741824) : slices_Clone_impl_Step_impl_Step l = some l := by
  refine slices_Clone_impl_Step_impl_Step.eq l ?_
  have : l.length ≤ 4294967296 := by omega
  simp only [slices_Clone_impl_Step_impl_Step.t, dec_t this, cond_true]
theorem impl_stepsOf_eq (l : List Stp) (t : Int) (hl : l.length ≤ 1073741824) : impl_stepsOf l t = some (stL l t) := by
  have hdel : slices_DeleteFunc_impl_Step_impl_Step_impl_stepsOf_1_b77 l t = some (stL l t) := by
    refine slices_DeleteFunc_impl_Step_impl_Step_impl_stepsOf_1_b77.eq l t ?_
    obtain ⟨k, _, k2, k3, k4, k5⟩ := find_ok l t hl 0 (Nat.zero_le _)
    have e := slices_IndexFunc_impl_Step_impl_Step_impl_stepsOf_1.eq l t (by simp only [slices_IndexFunc_impl_Step_impl_Step_impl_stepsOf_1.t]; exact k3)
    simp only [slices_DeleteFunc_impl_Step_impl_Step_impl_stepsOf_1_b77.t, e, Option.bind_some]
    have hpre : (l.take k).filter (fun x => x.1 == t) = l.take k := by
      refine List.filter_eq_self.2 fun x hx => ?_
      obtain ⟨q, hq⟩ := List.mem_iff_getElem?.1 hx
      rw [List.getElem?_take] at hq
      split at hq
      · rename_i hqk
        have := k4 q (Nat.zero_le _) hqk
        rw [List.getD_eq_getElem?_getD, hq] at this
        simpa using this
      · cases hq
    by_cases hk : k < l.length
    · rw [if_pos hk]
      have h0 : ((k : Int) == -1) = false := beq_eq_false_iff_ne.2 (by omega)
      simp only [h0, cond_false, wrap_succ (show k < 9223372036854775807 by omega)]
      refine del_ok hl (k + 1) (by omega) l k rfl (by omega) ?_ rfl
      have h1 : ((l.getD k (0, 0, 0)).1 == t) = false := beq_eq_false_iff_ne.2 (k5 hk)
      rw [filter_take_succ hk, h1, hpre]
      simp
    · rw [if_neg hk]
      have hkl : k = l.length := by omega
      rw [hkl, List.take_length] at hpre
      simp only [stL, hpre]
      rfl
  exact impl_stepsOf.eq l t (by simp only [impl_stepsOf.t, slices_Clone_impl_Step_impl_Step_eq l hl, hdel, Option.bind_some])
/-! ## How many bits -/
def popB (m : Nat) : Nat := (bitsF m 0 62).length
theorem popB_put {m x : Nat} (hx : x < 62) : popB (m ||| 2 ^ x) = popB m + (if m.testBit x then 0 else 1) := by
  cases h : m.testBit x with
  | true => rw [or_same h]; rfl
  | false =>
    have := congrArg List.length (putS_bits 62 0 m x (Nat.zero_le _) (by omega) h)
    simp only [popB]
    rw [← this]
    simp only [putS, List.length_append, List.length_cons, List.length_nil]
    have h2 := congrArg List.length (List.takeWhile_append_dropWhile (p := fun y => decide (y < (x : Int))) (l := bitsF m 0 62))
    rw [List.length_append] at h2
    simp
    omega
theorem popB_mask : ∀ (o : List Int) (m : Nat), (∀ x, x ∈ o → 0 ≤ x ∧ x < 62) → popB (maskN m o) ≤ popB m + o.length ∧ (popB (maskN m o) = popB m + o.length ↔ o.Nodup ∧ ∀ x, x ∈ o → m.testBit x.toNat = false)
  | [], m, _ => by simp [maskN]
  | x :: o, m, h => by
    obtain ⟨h1, h2⟩ := popB_mask o (m ||| 2 ^ x.toNat) fun y hy => h y (List.mem_cons_of_mem _ hy)
    have hx := h x (by simp)
    have hp := popB_put (m := m) (show x.toNat < 62 by omega)
    rw [maskN_cons]
    rw [List.length_cons]
    have hbit : ∀ y, y ∈ o → ((m ||| 2 ^ x.toNat).testBit y.toNat = false ↔ m.testBit y.toNat = false ∧ y ≠ x) := by
      intro y hy
      have hy' := h y (List.mem_cons_of_mem _ hy)
      rw [Nat.testBit_or, Nat.testBit_two_pow]
      simp only [Bool.or_eq_false_iff, decide_eq_false_iff_not]
      constructor
      · rintro ⟨a, b⟩
        exact ⟨a, fun e => b (by rw [e])⟩
      · rintro ⟨a, b⟩
        exact ⟨a, fun e => b (by omega)⟩
    cases hb : m.testBit x.toNat with
    | true =>
      rw [hb, if_pos rfl] at hp
      refine ⟨by omega, ⟨fun e => by omega, fun ⟨_, e⟩ => ?_⟩⟩
      rw [e x (by simp)] at hb
      cases hb
    | false =>
      rw [hb] at hp
      simp only [if_neg (show ¬ (false = true) by simp)] at hp
      refine ⟨by omega, ?_⟩
      rw [show popB m + (o.length + 1) = popB (m ||| 2 ^ x.toNat) + o.length by omega, h2]
      constructor
      · rintro ⟨a, b⟩
        refine ⟨List.nodup_cons.2 ⟨fun hm => ((hbit x hm).1 (b x hm)).2 rfl, a⟩, fun y hy => ?_⟩
        rcases List.mem_cons.1 hy with rfl | hy
        · exact hb
        · exact ((hbit y hy).1 (b y hy)).1
      · rintro ⟨a, b⟩
        obtain ⟨a1, a2⟩ := List.nodup_cons.1 a
        exact ⟨a2, fun y hy => (hbit y hy).2 ⟨b y (List.mem_cons_of_mem _ hy), fun e => a1 (e ▸ hy)⟩⟩
/-! ## The steps of all -/
theorem steps_len (l : List Stp) : ∀ o : List Int, o.Nodup → (o.flatMap (stL l)).length = (l.filter fun x => o.any fun t => t == x.1).length
  | [], _ => by
    have : (l.filter fun x => ([] : List Int).any fun t => t == x.1) = [] := List.filter_eq_nil_iff.2 fun x _ => by simp
    rw [this]
    rfl
  | t :: o, h => by
    obtain ⟨h1, h2⟩ := List.nodup_cons.1 h
    rw [List.flatMap_cons, List.length_append, steps_len l o h2]
    clear h h2
    simp only [stL, List.any_cons]
    induction l with
    | nil => rfl
    | cons x l ih =>
      simp only [List.filter_cons]
      by_cases e : x.1 = t
      · have e1 : (x.1 == t) = true := beq_iff_eq.2 e
        have e2 : (t == x.1) = true := beq_iff_eq.2 e.symm
        have e3 : (o.any fun u => u == x.1) = false := by
          rw [Bool.eq_false_iff]
          intro hh
          obtain ⟨u, hu, hv⟩ := List.any_eq_true.1 hh
          exact h1 (by rw [← e, ← (beq_iff_eq.1 hv)]; exact hu)
        simp only [e1, e2, e3, Bool.true_or, if_true, List.length_cons]
        simp only [Bool.false_eq_true, if_false]
        omega
      · have e1 : (x.1 == t) = false := beq_eq_false_iff_ne.2 e
        have e2 : (t == x.1) = false := beq_eq_false_iff_ne.2 fun h => e h.symm
        simp only [e1, e2, Bool.false_or, Bool.false_eq_true, if_false]
        split
        · simp only [List.length_cons]; omega
        · exact ih
/-- The specification's look, order by order. -/
def specS (l : List Stp) (tx : List Int) : List Int → List Stp → List Int → List Stp × Bool
  | _, out, [] => bif (out.length : Int) != (l.length : Int) then ([], false) else (out, true)
  | seen, out, t :: r => bif seen.any (fun x => x == t) then ([], false) else bif !(tx.any fun x => x == t) then ([], false) else specS l tx (seen ++ [t]) (out ++ stL l t) r
theorem specS_ok (l : List Stp) (tx : List Int) : ∀ (o seen : List Int) (out : List Stp), specS l tx seen out o =
    if (o.Nodup ∧ ∀ t, t ∈ o → t ∉ seen ∧ t ∈ tx) ∧ (out ++ o.flatMap (stL l)).length = l.length then (out ++ o.flatMap (stL l), true) else ([], false)
  | [], seen, out => by
    simp only [specS, bneI, List.flatMap_nil, List.append_nil]
    by_cases h : out.length = l.length
    · rw [dec_t h, if_pos ⟨⟨.nil, fun _ h => by cases h⟩, h⟩]; rfl
    · rw [dec_f h, if_neg fun hh => h hh.2]; rfl
  | t :: r, seen, out => by
    have a1 : ∀ (u : List Int), (u.any fun x => x == t) = true ↔ t ∈ u := fun u => by
      rw [List.any_eq_true]
      exact ⟨fun ⟨x, hx, e⟩ => (beq_iff_eq.1 e) ▸ hx, fun h => ⟨t, h, BEq.rfl⟩⟩
    simp only [specS]
    cases h1 : seen.any (fun x => x == t) with
    | true => rw [if_neg fun hh => (hh.1.2 t (by simp)).1 ((a1 _).1 h1)]; rfl
    | false =>
      have n1 : t ∉ seen := fun h => by rw [(a1 _).2 h] at h1; cases h1
      cases h2 : tx.any (fun x => x == t) with
      | false =>
        rw [if_neg fun hh => by have := (a1 _).2 (hh.1.2 t (by simp)).2; rw [h2] at this; cases this]; rfl
      | true =>
        have n2 := (a1 _).1 h2
        simp only [bang_t, cond_false, specS_ok l tx r, List.flatMap_cons, List.append_assoc]
        have hiff : ((r.Nodup ∧ ∀ u, u ∈ r → u ∉ seen ++ [t] ∧ u ∈ tx) ↔ ((t :: r).Nodup ∧ ∀ u, u ∈ t :: r → u ∉ seen ∧ u ∈ tx)) := by
          constructor
          · rintro ⟨b1, b2⟩
            refine ⟨List.nodup_cons.2 ⟨fun h => (b2 t h).1 (by simp), b1⟩, fun u hu => ?_⟩
            rcases List.mem_cons.1 hu with rfl | hu
            · exact ⟨n1, n2⟩
            · exact ⟨fun h => (b2 u hu).1 (List.mem_append_left _ h), (b2 u hu).2⟩
          · rintro ⟨b1, b2⟩
            obtain ⟨b3, b4⟩ := List.nodup_cons.1 b1
            refine ⟨b4, fun u hu => ⟨fun h => ?_, (b2 u (List.mem_cons_of_mem _ hu)).2⟩⟩
            rcases List.mem_append.1 h with h | h
            · exact (b2 u (List.mem_cons_of_mem _ hu)).1 h
            · simp only [List.mem_singleton] at h
              exact b3 (h ▸ hu)
        by_cases hA : (t :: r).Nodup ∧ ∀ u, u ∈ t :: r → u ∉ seen ∧ u ∈ tx
        · have hB := hiff.2 hA
          by_cases hC : (out ++ (stL l t ++ r.flatMap (stL l))).length = l.length
          · rw [if_pos ⟨hB, hC⟩, if_pos ⟨hA, hC⟩]
          · rw [if_neg fun h => hC h.2, if_neg fun h => hC h.2]
        · have hB := fun h => hA (hiff.1 h)
          rw [if_neg fun h => hB h.1, if_neg fun h => hA h.1]
section
variable {l : List Stp} {o : List Int} (hl : l.length ≤ 40) (ho : o.length ≤ 1048576) (hg : ∀ x, x ∈ l → 0 ≤ x.1 ∧ x.1 < 62)
include hl
theorem stL_len (t : Int) : (stL l t).length ≤ 40 := Nat.le_trans (List.length_filter_le _ _) hl
theorem spec_run_inner {seen : List Int} {t : Int} {i : Nat} : ∀ j, j ≤ l.length → ∀ (acc : List Stp) b, acc.length ≤ 1073741824 →
    spec_SerialRun.l6 l seen (acc ++ (l.drop j).filter fun x => x.1 == t) o (o.length : Int) (IntKind.i64.wrap ((i : Int) + 1)) = some b → spec_SerialRun.l12 l seen acc t o (o.length : Int) (i : Int) l (l.length : Int) (j : Int) = some b := by
  have : ∀ j, j ≤ l.length → ∀ (acc : List Stp) b, acc.length + (l.length - j) ≤ 1073741864 →
    spec_SerialRun.l6 l seen (acc ++ (l.drop j).filter fun x => x.1 == t) o (o.length : Int) (IntKind.i64.wrap ((i : Int) + 1)) = some b → spec_SerialRun.l12 l seen acc t o (o.length : Int) (i : Int) l (l.length : Int) (j : Int) = some b := by
    refine upto ?_ ?_
    · intro acc b _ hb
      rw [List.drop_length, List.filter_nil, List.append_nil] at hb
      exact spec_SerialRun.eq12 _ _ _ _ _ _ _ _ _ _ (by simp only [spec_SerialRun.t12, ix_lt, Nat.lt_irrefl, decide_false, cond_false]; exact hb)
    · intro j hj ih acc b ha hb
      refine spec_SerialRun.eq12 _ _ _ _ _ _ _ _ _ _ ?_
      rw [drop_getD (0, 0, 0) hj, List.filter_cons] at hb
      simp only [spec_SerialRun.t12, ix_lt, ix_nn, ix_nat, dec_t hj, cond_true, wrap_succ (show j < 9223372036854775807 by omega)]
      cases h : (l.getD j (0, 0, 0)).1 == t with
      | true =>
        rw [h, if_pos rfl] at hb
        have h2 : acc.length + [((l.getD j (0, 0, 0)).1, (l.getD j (0, 0, 0)).2.1, (l.getD j (0, 0, 0)).2.2)].length ≤ 4294967296 := by simp only [List.length_cons, List.length_nil]; omega
        simp only [dec_t h2, cond_true]
        refine ih _ b (by rw [List.length_append]; simp only [List.length_cons, List.length_nil]; omega) ?_
        rw [List.append_assoc]
        exact hb
      | false =>
        rw [h, if_neg (by simp)] at hb
        simp only [cond_false]
        exact ih acc b (by omega) hb
  intro j hj acc b ha hb
  exact this j hj acc b (by omega) hb
include ho
theorem impl_run_ok : ∀ i, i ≤ o.length → ∀ out : List Stp, out.length ≤ 40 * i → impl_SerialRun.l5 l out o (o.length : Int) (i : Int) = some (out ++ (o.drop i).flatMap (stL l), true) := by
  refine upto ?_ ?_
  · intro out _
    refine impl_SerialRun.eq5 _ _ _ _ _ ?_
    rw [List.drop_length, List.flatMap_nil, List.append_nil]
    simp only [impl_SerialRun.t5, ix_lt, Nat.lt_irrefl, decide_false, cond_false]
  · intro i hi ih out hout
    refine impl_SerialRun.eq5 _ _ _ _ _ ?_
    have h1 := stL_len hl (o.getD i 0)
    have h2 : out.length + (stL l (o.getD i 0)).length ≤ 4294967296 := by omega
    simp only [impl_SerialRun.t5, ix_lt, ix_nn, ix_nat, dec_t hi, cond_true, impl_stepsOf_eq l _ (show l.length ≤ 1073741824 by omega), Option.bind_some, dec_t h2, wrap_succ (show i < 9223372036854775807 by omega)]
    rw [ih _ (by rw [List.length_append]; omega), drop_getD 0 hi, List.flatMap_cons, List.append_assoc]
include hg
theorem spec_run_ok : ∀ i, i ≤ o.length → ∀ (seen : List Int) (out : List Stp), seen.length ≤ i → out.length ≤ 40 * i → spec_SerialRun.l6 l seen out o (o.length : Int) (i : Int) = some (specS l (bitsF (txM l) 0 62) seen out (o.drop i)) := by
  refine upto ?_ ?_
  · intro seen out _ _
    refine spec_SerialRun.eq6 _ _ _ _ _ _ ?_
    rw [List.drop_length]
    simp only [spec_SerialRun.t6, ix_lt, Nat.lt_irrefl, decide_false, cond_false, specS]
    cases (out.length : Int) != (l.length : Int) <;> rfl
  · intro i hi ih seen out hs hout
    refine spec_SerialRun.eq6 _ _ _ _ _ _ ?_
    rw [drop_getD 0 hi]
    simp only [spec_SerialRun.t6, ix_lt, ix_nn, ix_nat, dec_t hi, cond_true, spec_l1Has_eq seen _ (by omega), Option.bind_some, specS]
    cases h1 : seen.any (fun x => x == o.getD i 0)
    · have h3 : (bitsF (txM l) 0 62).length ≤ 1073741824 := Nat.le_trans (bitsF_len _ _ _) (by omega)
      simp only [spec_l13Txns_eq (l := l) (by omega) hg, spec_l1Has_eq _ _ h3, Option.bind_some, cond_false]
      cases h2 : (bitsF (txM l) 0 62).any (fun x => x == o.getD i 0)
      · rfl
      · have h4 : seen.length + [o.getD i 0].length ≤ 4294967296 := by simp only [List.length_cons, List.length_nil]; omega
        simp only [bang_t, cond_false, dec_t h4, cond_true]
        refine spec_run_inner hl 0 (Nat.zero_le _) out _ (by omega) ?_
        rw [wrap_succ (show i < 9223372036854775807 by omega), List.drop_zero]
        have := stL_len hl (o.getD i 0)
        exact ih (seen ++ [o.getD i 0]) (out ++ stL l (o.getD i 0)) (by rw [List.length_append]; simp only [List.length_cons, List.length_nil]; omega) (by rw [List.length_append]; omega)
    · rfl
end
/-- The transactions named are all, once each: both ways of looking. -/
theorem same_look {l : List Stp} {o : List Int} (hg : ∀ x, x ∈ l → 0 ≤ x.1 ∧ x.1 < 6) : ((o.Nodup ∧ ∀ t, t ∈ o → t ∉ ([] : List Int) ∧ t ∈ bitsF (txM l) 0 62) ∧ ([] ++ o.flatMap (stL l)).length = l.length) ↔
    (o.all (inB 0 5) = true ∧ maskN 0 o = txM l ∧ o.length = (bitsF (maskN 0 o) 0 62).length) := by
  rw [List.nil_append]
  have hbit : ∀ k, (txM l).testBit k = true ↔ ∃ x, x ∈ l ∧ x.1.toNat = k := by
    intro k
    rw [txM, maskN_bit]
    simp
  constructor
  · rintro ⟨⟨h1, h2⟩, h3⟩
    have hall : ∀ t, t ∈ o → 0 ≤ t ∧ t < 6 := by
      intro t ht
      obtain ⟨k, rfl, _, _, hk⟩ := bitsF_mem.1 (h2 t ht).2
      obtain ⟨x, hx, e⟩ := (hbit k).1 hk
      have := hg x hx
      omega
    have hlen := steps_len l o h1
    rw [h3] at hlen
    have hin : ∀ x, x ∈ l → x.1 ∈ o := by
      intro x hx
      have := (List.length_filter_eq_length_iff).1 hlen.symm x hx
      obtain ⟨t, ht, e⟩ := List.any_eq_true.1 this
      exact (beq_iff_eq.1 e) ▸ ht
    refine ⟨List.all_eq_true.2 fun t ht => inB_iff.2 (by have := hall t ht; omega), ?_, ?_⟩
    · apply Nat.eq_of_testBit_eq
      intro k
      apply bool_eq
      rw [hbit, maskN_bit]
      simp only [Nat.zero_testBit, Bool.false_or, List.any_eq_true, decide_eq_true_eq]
      constructor
      · rintro ⟨t, ht, e⟩
        obtain ⟨k', rfl, _, _, hk⟩ := bitsF_mem.1 (h2 t ht).2
        rw [← e]
        exact (hbit _).1 (by simpa using hk)
      · rintro ⟨x, hx, e⟩
        exact ⟨x.1, hin x hx, e⟩
    · have := ((popB_mask o 0 fun x hx => by have := hall x hx; omega).2).2 ⟨h1, fun x _ => by simp⟩
      have h0 : popB 0 = 0 := by decide
      rw [h0] at this
      simp only [popB] at this
      omega
  · rintro ⟨h1, h2, h3⟩
    have hall : ∀ t, t ∈ o → 0 ≤ t ∧ t < 6 := fun t ht => by
      have := inB_iff.1 (List.all_eq_true.1 h1 t ht)
      omega
    have hnd : o.Nodup := (((popB_mask o 0 fun x hx => by have := hall x hx; omega).2).1 (by
      have h0 : popB 0 = 0 := by decide
      rw [h0]
      simp only [popB]
      omega)).1
    have hin : ∀ x, x ∈ l → x.1 ∈ o := by
      intro x hx
      have := (hbit x.1.toNat).2 ⟨x, hx, rfl⟩
      rw [← h2, maskN_bit] at this
      simp only [Nat.zero_testBit, Bool.false_or, List.any_eq_true, decide_eq_true_eq] at this
      obtain ⟨t, ht, e⟩ := this
      have a1 := hall t ht
      have a2 := hg x hx
      have : t = x.1 := by omega
      exact this ▸ ht
    refine ⟨⟨hnd, fun t ht => ⟨by simp, bitsF_mem.2 ⟨t.toNat, by have := hall t ht; omega, Nat.zero_le _, by have := hall t ht; omega, ?_⟩⟩⟩, ?_⟩
    · rw [← h2, maskN_bit]
      simp only [Nat.zero_testBit, Bool.false_or, List.any_eq_true, decide_eq_true_eq]
      exact ⟨t, ht, rfl⟩
    · rw [steps_len l o hnd]
      exact List.length_filter_eq_length_iff.2 fun x hx => List.any_eq_true.2 ⟨x.1, hin x hx, BEq.rfl⟩
theorem FnExactSerialRun_same (v0 : List (Int × Int × Int)) (v1 : List Int) (w0 : WfT (.sl (.pair (.int .i64) (.pair (.int .i64) (.int .i64)))) v0) (hz0 : szT (.sl (.pair (.int .i64) (.pair (.int .i64) (.int .i64)))) v0 ≤ 1048576) (w1 : WfT (.sl (.int .i64)) v1) (hz1 : szT (.sl (.int .i64)) v1 ≤ 1048576) :
    ∃ (a : List (Int × Int × Int)) (b : Bool), spec_SerialRun v0 v1 = some (a, b) ∧ impl_SerialRun v0 v1 = some (a, b) ∧ szT (.sl (.pair (.int .i64) (.pair (.int .i64) (.int .i64)))) a ≤ 1073741824 := by
  have hl : v0.length ≤ 1048576 := Nat.le_trans (szT_len (t := .pair (.int .i64) (.pair (.int .i64) (.int .i64)))) hz0
  have ho : v1.length ≤ 1048576 := Nat.le_trans (szT_len (t := .int .i64)) hz1
  have hnone : szT (.sl (.pair (.int .i64) (.pair (.int .i64) (.int .i64)))) ([] : List Stp) ≤ 1073741824 := by simp [szT]
  have e1 := spec_GoodSteps_eq v0 (by omega)
  have e2 := impl_GoodSteps_eq v0 (by omega)
  cases hG : stepsB v0 with
  | false => exact ⟨[], false, spec_SerialRun.eq _ _ (by simp only [spec_SerialRun.t, e1, hG, Option.bind_some, bang_f, cond_true]), impl_SerialRun.eq _ _ (by simp only [impl_SerialRun.t, e2, hG, Option.bind_some, bang_f, cond_true]), hnone⟩
  | true =>
    have hG' := hG
    simp only [stepsB, Bool.and_eq_true, decide_eq_true_eq] at hG'
    obtain ⟨hall, h40⟩ := hG'
    have hg6 : ∀ x, x ∈ v0 → 0 ≤ x.1 ∧ x.1 < 6 := fun x hx => by
      have := List.all_eq_true.1 hall x hx
      simp only [stepB, Bool.and_eq_true, inB_iff] at this
      omega
    have hg : ∀ x, x ∈ v0 → 0 ≤ x.1 ∧ x.1 < 62 := fun x hx => by have := hg6 x hx; omega
    have e3 := spec_run_ok h40 ho hg 0 (Nat.zero_le _) [] [] (by simp) (by simp)
    rw [List.drop_zero, specS_ok] at e3
    have es : spec_SerialRun v0 v1 = some _ := spec_SerialRun.eq v0 v1 (by simp only [spec_SerialRun.t, e1, hG, Option.bind_some, bang_t, cond_false]; exact e3)
    have e4 := impl_areAll_int_impl_isTxn_ok v1 (inB 0 5) (by omega) (fun x _ => impl_isTxn_eq x)
    have e5 := impl_txnsOf_eq (l := v0) (by omega) hg
    by_cases hc : v1.all (inB 0 5) = true ∧ maskN 0 v1 = txM v0 ∧ v1.length = (bitsF (maskN 0 v1) 0 62).length
    · have hc2 := (same_look hg6).2 hc
      rw [if_pos hc2] at es
      obtain ⟨c1, c2, c3⟩ := hc
      have hr : ∀ x, x ∈ v1 → 0 ≤ x ∧ x < 62 := fun x hx => by
        have := inB_iff.1 (List.all_eq_true.1 c1 x hx)
        omega
      have e6 := impl_setOf_eq v1 (by omega) hr
      have hm := maskN_lt (l := v1) (m := 0) (by omega) (fun x hx => by have := hr x hx; omega)
      have e7 := impl_set_list_eq _ hm
      have e8 := impl_run_ok h40 ho 0 (Nat.zero_le _) [] (by simp)
      rw [List.drop_zero] at e8
      have e9 : ((v1.length : Int) != ((bitsF (maskN 0 v1) 0 62).length : Int)) = false := by rw [bneI, dec_t c3]; rfl
      have e10 : (((maskN 0 v1 : Nat) : Int) != ((txM v0 : Nat) : Int)) = false := by rw [bneI, dec_t c2]; rfl
      refine ⟨_, true, es, impl_SerialRun.eq _ _ (by simp only [impl_SerialRun.t, e2, hG, e4, c1, e5, e6, e7, e9, e10, Option.bind_some, bang_t, cond_false]; exact e8), ?_⟩
      rw [szT_sl_flat (t := .pair (.int .i64) (.pair (.int .i64) (.int .i64))) _ rfl, hc2.2]
      omega
    · rw [if_neg fun h => hc ((same_look hg6).1 h)] at es
      refine ⟨[], false, es, impl_SerialRun.eq _ _ ?_, hnone⟩
      simp only [impl_SerialRun.t, e2, hG, e4, e5, Option.bind_some, bang_t, cond_false]
      cases c1 : v1.all (inB 0 5) with
      | false => rfl
      | true =>
        have hr : ∀ x, x ∈ v1 → 0 ≤ x ∧ x < 62 := fun x hx => by
          have := inB_iff.1 (List.all_eq_true.1 c1 x hx)
          omega
        have e6 := impl_setOf_eq v1 (by omega) hr
        have hm := maskN_lt (l := v1) (m := 0) (by omega) (fun x hx => by have := hr x hx; omega)
        have e7 := impl_set_list_eq _ hm
        simp only [e6, e7, Option.bind_some, bang_t, cond_false, bneI]
        by_cases c2 : maskN 0 v1 = txM v0
        · have c3 : ¬ v1.length = (bitsF (maskN 0 v1) 0 62).length := fun h => hc ⟨c1, c2, h⟩
          rw [dec_t c2, dec_f c3]; rfl
        · rw [dec_f c2]; rfl
end GoV

/- FnExactSerialRun: the law out of its core. -/
namespace GoV
open Go
theorem FnExactSerialRun_true (v0 : List (Int × Int × Int)) (v1 : List Int) (w0 : WfT (.sl (.pair (.int .i64) (.pair (.int .i64) (.int .i64)))) v0) (w1 : WfT (.sl (.int .i64)) v1) : laws_FnExactSerialRun v0 v1 = some true := by
  by_cases b1 : ((v1.length : Int) > (1048576 : Int))
  · exact laws_FnExactSerialRun.eq v0 v1 (by simp only [laws_FnExactSerialRun.t, dec_t b1, cond_true, cond_false, Option.bind_some])
  have z1 : szT (.sl (.int .i64)) v1 ≤ 1048576 := by rw [szT_sl_flat (t := (.int .i64)) v1 rfl]; omega
  obtain ⟨left2, e2, a2, b2z⟩ := laws_szStepS_ok (v0) ((1048576 : Int)) w0 (by omega) (by omega)
  by_cases n2 : left2 < 0
  · exact laws_FnExactSerialRun.eq v0 v1 (by simp only [laws_FnExactSerialRun.t, dec_f b1, e2, dec_t n2, cond_true, cond_false, Option.bind_some])
  have z2a := b2z (by omega)
  have hz0 : szT (.sl (.pair (.int .i64) (.pair (.int .i64) (.int .i64)))) v0 ≤ 1048576 := by omega
  have hz1 : szT (.sl (.int .i64)) v1 ≤ 1048576 := by omega
  obtain ⟨ga, gb, hspec, himpl, hsm⟩ := FnExactSerialRun_same v0 v1 w0 hz0 w1 hz1
  -- the answer is small
  have e3 := laws_toStepS_id (v0) (by omega)
  have e4 := laws_toIntS_id (v1) (by omega)
  have e6 := laws_toStepS_id (v0) (by omega)
  have e7 := laws_toIntS_id (v1) (by omega)
  have e9 := laws_eqStepS_rf (ga) (by first | omega | (simp only [szT] at *; omega))
  have e10 := laws_toStepS_id (v0) (by omega)
  have e11 := laws_eqStepS_rf (v0) (by first | omega | (simp only [szT] at *; omega))
  have e12 := laws_toIntS_id (v1) (by omega)
  have e13 := laws_eqIntS_rf (v1) (by first | omega | (simp only [szT] at *; omega))
  have q14 := cntT_le (T := (.sl (.pair (.int .i64) (.pair (.int .i64) (.int .i64))))) v0 rfl
  simp only [Ty.size] at q14
  have e14 := laws_markStepS_5b1_ok (v0) ((1 : Int)) (by omega) (by omega) (by omega)
  have p14 := mrL_cnt (t := (.pair (.int .i64) (.pair (.int .i64) (.int .i64)))) v0 (1 : Int)
  have g14 : ¬ (mrL (mrE (.pair (.int .i64) (.pair (.int .i64) (.int .i64)))) v0 (1 : Int)).2 < 0 := by omega
  have q15 := cntT_le (T := (.sl (.int .i64))) v1 rfl
  simp only [Ty.size] at q15
  have e15 := laws_markIntS_83f_ok (v1) ((mrL (mrE (.pair (.int .i64) (.pair (.int .i64) (.int .i64)))) v0 (1 : Int)).2) (by omega) (by omega) (by omega)
  have p15 := mrL_cnt (t := (.int .i64)) v1 (mrL (mrE (.pair (.int .i64) (.pair (.int .i64) (.int .i64)))) v0 (1 : Int)).2
  have g15 : ¬ (mrL (mrE (.int .i64)) v1 (mrL (mrE (.pair (.int .i64) (.pair (.int .i64) (.int .i64)))) v0 (1 : Int)).2).2 < 0 := by omega
  have e16 := laws_eqStepS_rf (ga) (by first | omega | (simp only [szT] at *; omega))
  have q17 := cntT_le (T := (.sl (.pair (.int .i64) (.pair (.int .i64) (.int .i64))))) ga rfl
  simp only [Ty.size] at q17
  have e17 := laws_markStepS_5b1_ok (ga) ((1 : Int)) (by omega) (by omega) (by omega)
  have p17 := mrL_cnt (t := (.pair (.int .i64) (.pair (.int .i64) (.int .i64)))) ga (1 : Int)
  have g17 : ¬ (mrL (mrE (.pair (.int .i64) (.pair (.int .i64) (.int .i64)))) ga (1 : Int)).2 < 0 := by omega
  have e18 : laws_heldStepS ((mrL (mrE (.pair (.int .i64) (.pair (.int .i64) (.int .i64)))) ga (1 : Int)).1) ((1 : Int)) = some (mrL (mrE (.pair (.int .i64) (.pair (.int .i64) (.int .i64)))) ga (1 : Int)).2 := laws_heldStepS_ok (ga) (1 : Int) (by omega) (by omega) (by omega)
  have e19 := laws_toStepS_id (v0) (by omega)
  have e20 := laws_toIntS_id (v1) (by omega)
  have e22 := laws_eqStepS_rf (ga) (by first | omega | (simp only [szT] at *; omega))
  have e23 : laws_heldStepS ((mrL (mrE (.pair (.int .i64) (.pair (.int .i64) (.int .i64)))) ga (1 : Int)).1) ((1 : Int)) = some (mrL (mrE (.pair (.int .i64) (.pair (.int .i64) (.int .i64)))) ga (1 : Int)).2 := laws_heldStepS_ok (ga) (1 : Int) (by omega) (by omega) (by omega)
  refine laws_FnExactSerialRun.eq v0 v1 ?_
  simp only [laws_FnExactSerialRun.t, dec_f b1, e2, dec_f n2, e3, e4, e6, e7, e9, e10, e11, e12, e13, e14, dec_f g14, e15, dec_f g15, e16, e17, dec_f g17, e18, e19, e20, e22, e23, hspec, himpl, cond_true, cond_false, Option.bind_some, bne_ref, beq_ref, bang_t]
end GoV
