/- A part of the proof of FnExactGoodQuery: an interpreter of the model over plain data, its soundness, and what it makes of the functions that the statement reaches. Conditions: none beyond what the given statement itself says. -/
import Derived.Test.YtcilpkgidhkfjaaTL
set_option linter.unusedVariables false
set_option linter.unusedSimpArgs false
set_option linter.unnecessarySimpa false
set_option linter.unusedSectionVars false
/- Rising numbers; sets as bits. -/
namespace GoV
open Go
theorem ix_pos (i : Nat) : decide ((i : Int) > (0 : Int)) = decide (0 < i) := by
  by_cases h : 0 < i <;> simp [h] <;> omega
/-- One of the places of rising numbers below n. -/
def placeB (n : Int) (l : List Int) (k : Nat) : Bool := (decide (0 ≤ l.getD k 0) && decide (l.getD k 0 < n)) && (decide (k = 0) || decide (l.getD (k - 1) 0 < l.getD k 0))
def someB (n : Int) (l : List Int) : Bool := allR (placeB n l) 0 l.length
theorem some_rises {n : Int} {l : List Int} (h : someB n l = true) : risesB (-1) l = true ∧ ∀ x, x ∈ l → 0 ≤ x ∧ x < n := by
  simp only [someB, allR_iff, placeB, Bool.and_eq_true, Bool.or_eq_true, decide_eq_true_eq] at h
  have key : ∀ (r pre : List Int), l = pre ++ r → risesB (if pre = [] then -1 else pre.getLastD 0) r = true := by
    intro r
    induction r with
    | nil => intro pre _; rfl
    | cons x r ih =>
      intro pre hl
      have hk := h pre.length (Nat.zero_le _) (by rw [hl]; simp)
      have hx : l.getD pre.length 0 = x := by rw [hl]; exact getD_mid pre r x 0
      rw [hx] at hk
      have ih' := ih (pre ++ [x]) (by rw [hl]; simp)
      simp only [risesB, Bool.and_eq_true, decide_eq_true_eq]
      refine ⟨?_, by simpa using ih'⟩
      cases pre with
      | nil => simp; omega
      | cons y pre =>
        simp only [List.cons_ne_nil, if_false]
        have h2 : l.getD ((y :: pre).length - 1) 0 = (y :: pre).getLastD 0 := by
          rw [hl]
          simp only [List.getLastD_eq_getLast?, List.getLast?_eq_getElem?, List.getD]
          rw [List.getElem?_append_left (by simp)]
        rw [h2] at hk
        rcases hk.2 with h3 | h3
        · simp at h3
        · exact h3
  refine ⟨by simpa using key l [] rfl, fun x hx => ?_⟩
  obtain ⟨i, hi, rfl⟩ := List.mem_iff_getElem.1 hx
  have := (h i (Nat.zero_le _) hi).1
  rwa [getD_of_lt hi] at this
theorem impl_setOf_eq (l : List Int) (hl : l.length ≤ 1073741824) (hr : ∀ x, x ∈ l → 0 ≤ x ∧ x < 62) : impl_setOf l = some ((maskN 0 l : Nat) : Int) := by
  have key : ∀ i, i ≤ l.length → ∀ m : Nat, m < 4611686018427387904 → impl_setOf.l3 (m : Int) l (l.length : Int) (i : Int) = some ((maskN m (l.drop i) : Nat) : Int) := by
    refine upto ?_ ?_
    · intro m _
      exact impl_setOf.eq3 _ _ _ _ (by simp only [impl_setOf.t3, ix_lt, Nat.lt_irrefl, decide_false, cond_false, List.drop_length]; rfl)
    · intro i hi ih m hm
      have hx := hr _ (getD_mem 0 hi)
      obtain ⟨x, hx'⟩ : ∃ x : Nat, l.getD i 0 = (x : Int) := ⟨(l.getD i 0).toNat, by omega⟩
      have hlt : x < 62 := by omega
      have g := ih (m ||| 2 ^ x) (or_lt hm (pow_lt hlt))
      refine impl_setOf.eq3 _ _ _ _ ?_
      rw [drop_getD 0 hi, maskN_cons]
      simp only [impl_setOf.t3, ix_lt, ix_nn, ix_nat, dec_t hi, cond_true, hx', one_shl hlt, or_nat hm (pow_lt hlt), wrap_succ (show i < 9223372036854775807 by omega)]
      exact g
  exact impl_setOf.eq l (by simp only [impl_setOf.t]; exact key 0 (Nat.zero_le _) 0 (by omega))
theorem impl_set_list_eq (m : Nat) (hm : m < 4611686018427387904) : impl_set_list (m : Int) = some (bitsF m 0 62) := by
  have key : ∀ i, i ≤ 62 → ∀ acc : List Int, acc.length + 62 ≤ 1073741824 + i → impl_set_list.l3 (m : Int) acc (i : Int) = some (acc ++ bitsF m i (62 - i)) := by
    refine upto ?_ ?_
    · intro acc _
      refine impl_set_list.eq3 _ _ _ ?_
      have e : m >>> 62 = 0 := by rw [Nat.shiftRight_eq_div_pow]; omega
      simp only [impl_set_list.t3, ix_nn, ix_nat, cond_true, shr_nat m 62 (by omega), e]
      simp [bitsF]
    · intro i hi ih acc hacc
      refine impl_set_list.eq3 _ _ _ ?_
      simp only [impl_set_list.t3, ix_nn, ix_nat, cond_true, shr_nat m i (show i ≤ 64 by omega)]
      by_cases h0 : m >>> i = 0
      · rw [h0, bitsF_none h0]
        simp
      · have e1 : (((m >>> i : Nat) : Int) != (0 : Int)) = true := by
          have : ((m >>> i : Nat) : Int) ≠ 0 := by omega
          simpa using this
        have hs : m >>> i < 4611686018427387904 := Nat.lt_of_le_of_lt (by rw [Nat.shiftRight_eq_div_pow]; exact Nat.div_le_self _ _) hm
        have e2 := and_nat (m := m >>> i) (n := 1) hs (by omega)
        have e3 : (m >>> i &&& 1) = if m.testBit i then 1 else 0 := by
          rw [Nat.and_one_is_mod, Nat.testBit, Nat.one_and_eq_mod_two]
          rcases Nat.mod_two_eq_zero_or_one (m >>> i) with h | h <;> simp [h]
        rw [e3] at e2
        have e4 : ((1 : Nat) : Int) = (1 : Int) := rfl
        rw [e4] at e2
        have e5 : 62 - i = (62 - (i + 1)) + 1 := by omega
        rw [e5, bitsF_step]
        simp only [e1, cond_true, e2, wrap_succ (show i < 9223372036854775807 by omega)]
        cases hb : m.testBit i with
        | true =>
          have hlen : acc.length + [((i : Nat) : Int)].length ≤ 4294967296 := by simp only [List.length_cons, List.length_nil]; omega
          have g := ih (acc ++ [(i : Int)]) (by simp only [List.length_append, List.length_cons, List.length_nil]; omega)
          simp only [if_true, dec_t hlen, cond_true]
          rw [g]
          simp
        | false =>
          have g := ih acc (by omega)
          simp only [Bool.false_eq_true, if_false]
          rw [g]
          simp
  refine impl_set_list.eq _ ?_
  simp only [impl_set_list.t]
  have g := key 0 (Nat.zero_le _) [] (by simp)
  simpa using g
/-- The numbers of the set of rising numbers are they. -/
theorem set_list_rises {n : Int} {l : List Int} (h : someB n l = true) (hn : n ≤ 62) : impl_set_list ((maskN 0 l : Nat) : Int) = some l := by
  obtain ⟨h1, h2⟩ := some_rises h
  rw [impl_set_list_eq _ (maskN_lt (by omega) fun x hx => by have := h2 x hx; omega), bitsF_mask h1 fun x hx => by have := h2 x hx; omega]
end GoV

/- Sets as rising lists: numbers put to their place. -/
namespace GoV
open Go
theorem spec_l1Has_eq (l : List Int) (n : Int) (hl : l.length ≤ 1073741824) : spec_l1Has l n = some (l.any fun x => x == n) := by
  have key : ∀ i, i ≤ l.length → spec_l1Has.l2 n l (l.length : Int) (i : Int) = some ((l.drop i).any fun x => x == n) := by
    refine upto ?_ ?_
    · exact spec_l1Has.eq2 _ _ _ _ (by simp only [spec_l1Has.t2, ix_lt, Nat.lt_irrefl, decide_false, cond_false, List.drop_length, List.any_nil])
    · intro i hi ih
      refine spec_l1Has.eq2 _ _ _ _ ?_
      rw [drop_getD 0 hi, List.any_cons]
      simp only [spec_l1Has.t2, ix_lt, ix_nn, ix_nat, dec_t hi, cond_true, wrap_succ (show i < 9223372036854775807 by omega), ih]
      cases (l.getD i 0 == n) <;> rfl
  exact spec_l1Has.eq l n (by simp only [spec_l1Has.t]; exact key 0 (Nat.zero_le _))
theorem spec_l7Put_eq (l : List Int) (n : Int) (hl : l.length ≤ 1073741824) : spec_l7Put l n = some (bif l.any (fun x => x == n) then l else putS n l) := by
  have key : ∀ k, k ≤ l.length → spec_l7Put.l4 l n (k : Int) = some (l.take k ++ (l.drop k).takeWhile (fun x => decide (x < n)) ++ [n] ++ (l.drop k).dropWhile (fun x => decide (x < n))) := by
    have fin : ∀ k, k ≤ l.length → (decide ((none : Option Int).getD (0 : Int) ≤ (k : Int)) = true ∧ decide ((k : Int) ≤ (l.length : Int)) = true ∧ decide ((l.take k).length ≤ 4294967296) = true ∧ decide ((l.take k).length + [n].length ≤ 4294967296) = true ∧
        decide ((l.take k ++ [n]).length + (l.drop k).length ≤ 4294967296) = true) := by
      intro k hk
      refine ⟨by simp, by simpa using hk, ?_, ?_, ?_⟩ <;> simp <;> omega
    refine upto ?_ ?_
    · obtain ⟨f1, f2, f3, f4, f5⟩ := fin l.length (Nat.le_refl _)
      refine spec_l7Put.eq4 _ _ _ ?_
      simp only [spec_l7Put.t4, ix_lt, ix_nn, ix_nat, Nat.lt_irrefl, decide_false, cond_false, cond_true, Option.getD_none, Option.getD_some, Int.sub_zero, Int.toNat_zero, List.drop_zero, f2, f3, f4, f5]
      simp
    · intro k hk ih
      obtain ⟨f1, f2, f3, f4, f5⟩ := fin k (by omega)
      refine spec_l7Put.eq4 _ _ _ ?_
      rw [drop_getD 0 hk]
      simp only [spec_l7Put.t4, ix_lt, ix_nn, ix_nat, dec_t hk, cond_true, wrap_succ (show k < 9223372036854775807 by omega), ih, List.takeWhile_cons, List.dropWhile_cons]
      by_cases h : l.getD k 0 < n
      · simp only [dec_t h, cond_true, if_true]
        congr 1
        have : l.take (k + 1) = l.take k ++ [l.getD k 0] := by rw [List.take_add_one]; simp [List.getD, hk]
        rw [this]
        simp
      · simp only [dec_f h, cond_false, cond_true, Option.getD_none, Option.getD_some, Int.sub_zero, Int.toNat_zero, List.drop_zero, ix_nn, ix_nat, f2, f3, f4, f5, Bool.false_eq_true, if_false]
        simp only [List.append_nil]
        rw [drop_getD 0 hk]
  refine spec_l7Put.eq l n ?_
  simp only [spec_l7Put.t, spec_l1Has_eq l n hl, Option.bind_some]
  cases h : l.any (fun x => x == n) with
  | true => rfl
  | false =>
    simp only [cond_false]
    have := key 0 (Nat.zero_le _)
    simpa [putS] using this
/-- A number put into a set that is told as a rising list. -/
theorem l7Put_bits {m x : Nat} (hx : x < 62) : spec_l7Put (bitsF m 0 62) (x : Int) = some (bitsF (m ||| 2 ^ x) 0 62) := by
  have hl := bitsF_len m 0 62
  rw [spec_l7Put_eq _ _ (by omega)]
  cases h : m.testBit x with
  | true =>
    have : (bitsF m 0 62).any (fun y => y == (x : Int)) = true := by
      rw [List.any_eq_true]
      exact ⟨(x : Int), bitsF_mem.2 ⟨x, rfl, by omega, by omega, h⟩, by simp⟩
    rw [this, or_same h]
    rfl
  | false =>
    have : (bitsF m 0 62).any (fun y => y == (x : Int)) = false := by
      rw [Bool.eq_false_iff]
      intro ha
      rw [List.any_eq_true] at ha
      obtain ⟨y, hy, he⟩ := ha
      obtain ⟨k, rfl, _, _, hk⟩ := bitsF_mem.1 hy
      have : k = x := by
        have he2 : (k : Int) = (x : Int) := by simpa using he
        omega
      rw [this, h] at hk
      cases hk
    rw [this]
    simp only [cond_false]
    rw [putS_bits 62 0 m x (by omega) (by omega) h]
end GoV

/- The variables of a query's atoms, rising, alike. -/
namespace GoV
open Go
/-- The set of all variables of atoms. -/
def varsM (m : Nat) (l : List (Int × List Int)) : Nat := l.foldl (fun m a => maskN m a.2) m
def varB (x : Int) : Bool := decide (0 ≤ x) && decide (x < 6)
theorem varB_iff {x : Int} : varB x = true ↔ 0 ≤ x ∧ x < 6 := by simp [varB]
theorem spec_l10Var_eq (x : Int) : spec_l10Var x = some (varB x) := by
  refine spec_l10Var.eq x ?_
  simp only [spec_l10Var.t, varB]
  by_cases h : 0 ≤ x <;> simp [h]
theorem impl_isVar_eq (x : Int) : impl_isVar x = some (varB x) := by
  refine impl_isVar.eq x ?_
  simp only [impl_isVar.t, impl_within_eq, Option.bind_some, inB, varB]
  congr 2
  exact bool_eq (by simp; omega)
theorem maskN_acc : ∀ (l : List Int) (m : Nat), maskN m l = m ||| maskN 0 l
  | [], m => by simp [maskN]
  | x :: l, m => by rw [maskN_cons, maskN_cons, maskN_acc l (m ||| 2 ^ x.toNat), maskN_acc l (0 ||| 2 ^ x.toNat), Nat.zero_or, Nat.or_assoc]
section
variable {v1 : List (Int × List Int)} (h1 : v1.length ≤ 1073741824) (h2 : ∀ a, a ∈ v1 → a.2.length ≤ 1073741824) (hv : ∀ a, a ∈ v1 → ∀ x, x ∈ a.2 → 0 ≤ x ∧ x < 62)
include h1 h2 hv
theorem spec_l10Vars_eq (v0 : List Int) : spec_l10Vars v0 v1 = some (bitsF (varsM 0 v1) 0 62) := by
  refine spec_l10Vars.eq v0 v1 ?_
  simp only [spec_l10Vars.t]
  have key := fold_loop (σ := Nat) v1 ((0 : Int), []) (fun m i => spec_l10Vars.l3 (bitsF m 0 62) v1 (v1.length : Int) (i : Int)) (fun m a => maskN m a.2) (fun _ => True) (fun m => some (bitsF m 0 62)) ?_ (fun _ _ _ _ => trivial) ?_ 0 _ trivial rfl
  · exact key
  · intro m b _ hb
    exact spec_l10Vars.eq3 _ _ _ _ (by simp only [spec_l10Vars.t3, ix_lt, Nat.lt_irrefl, decide_false, cond_false]; exact hb)
  · intro m i b hi _ hb
    refine spec_l10Vars.eq3 _ _ _ _ ?_
    simp only [spec_l10Vars.t3, ix_lt, ix_nn, ix_nat, dec_t hi, cond_true]
    have hmem := getD_mem ((0 : Int), ([] : List Int)) hi
    have hlen := h2 _ hmem
    have hx := hv _ hmem
    have inner := fold_loop (σ := Nat) (v1.getD i ((0 : Int), [])).2 (0 : Int) (fun m j => spec_l10Vars.l6 (bitsF m 0 62) v1 (v1.length : Int) (i : Int) (v1.getD i ((0 : Int), [])).2 ((v1.getD i ((0 : Int), [])).2.length : Int) (j : Int)) (fun m x => m ||| 2 ^ x.toNat) (fun _ => True)
      (fun m => spec_l10Vars.l3 (bitsF m 0 62) v1 (v1.length : Int) ((i + 1 : Nat) : Int)) ?_ (fun _ _ _ _ => trivial) ?_ m b trivial hb
    · exact inner
    · intro m b _ hb
      exact spec_l10Vars.eq6 _ _ _ _ _ _ _ (by simp only [spec_l10Vars.t6, ix_lt, Nat.lt_irrefl, decide_false, cond_false, wrap_succ (show i < 9223372036854775807 by omega)]; exact hb)
    · intro m j b hj _ hb
      have hxj := hx _ (getD_mem 0 hj)
      obtain ⟨x, hxe⟩ : ∃ x : Nat, (v1.getD i ((0 : Int), [])).2.getD j 0 = (x : Int) := ⟨((v1.getD i ((0 : Int), [])).2.getD j 0).toNat, by omega⟩
      rw [hxe, ix_nat] at hb
      refine spec_l10Vars.eq6 _ _ _ _ _ _ _ ?_
      simp only [spec_l10Vars.t6, ix_lt, ix_nn, ix_nat, dec_t hj, cond_true, hxe, l7Put_bits (m := m) (show x < 62 by omega), Option.bind_some, wrap_succ (show j < 9223372036854775807 by omega)]
      exact hb
theorem impl_vars_eq : impl_vars v1 = some (bitsF (varsM 0 v1) 0 62) := by
  refine impl_vars.eq v1 ?_
  simp only [impl_vars.t]
  have key := fold_loop (σ := Nat) v1 ((0 : Int), []) (fun m i => impl_vars.l3 (m : Int) v1 (v1.length : Int) (i : Int)) (fun m a => maskN m a.2) (fun m => m < 4611686018427387904) (fun m => some (bitsF m 0 62)) ?_ ?_ ?_ 0 _ (by omega) rfl
  · exact key
  · intro m b hm hb
    exact impl_vars.eq3 _ _ _ _ (by simp only [impl_vars.t3, ix_lt, Nat.lt_irrefl, decide_false, cond_false, impl_set_list_eq m hm, Option.bind_some]; exact hb)
  · intro m i hi hm
    exact maskN_lt hm fun x hx => by have := hv _ (getD_mem _ hi) x hx; omega
  · intro m i b hi hm hb
    have hmem := getD_mem ((0 : Int), ([] : List Int)) hi
    have hx := hv _ hmem
    have e := impl_setOf_eq _ (h2 _ hmem) hx
    have hlt := maskN_lt (l := (v1.getD i ((0 : Int), [])).2) (m := 0) (by omega) (fun x h => by have := hx x h; omega)
    refine impl_vars.eq3 _ _ _ _ ?_
    simp only [impl_vars.t3, ix_lt, ix_nn, ix_nat, dec_t hi, cond_true, e, Option.bind_some, or_nat hm hlt, wrap_succ (show i < 9223372036854775807 by omega)]
    rw [maskN_acc] at hb
    exact hb
end
end GoV

/- GoodQuery: the program's answer is the specification's. -/
namespace GoV
open Go
def qatomB (v2 : List Int) (a : Int × List Int) : Bool := (decide (0 ≤ a.1) && decide (a.1 < (v2.length : Int))) && (decide ((a.2.length : Int) = v2.getD a.1.toNat 0) && a.2.all varB)
def tablesB (v2 : List Int) : Bool := v2.all (inB 1 3) && inB 1 4 (v2.length : Int)
theorem spec_l10Tables_eq (v : List Int) (hl : v.length ≤ 1073741824) : spec_l10Tables v = some (tablesB v) := by
  refine spec_l10Tables.eq v ?_
  simp only [spec_l10Tables.t]
  have := all_loop v 0 (fun i => spec_l10Tables.l2 v v (v.length : Int) (i : Int)) (inB 1 3) false (inB 1 4 (v.length : Int)) ?_ ?_ ?_
  · refine Eq.trans this ?_
    simp only [tablesB]
    cases v.all (inB 1 3) <;> rfl
  · exact spec_l10Tables.eq2 _ _ _ _ (by simp only [spec_l10Tables.t2, ix_lt, Nat.lt_irrefl, decide_false, cond_false, spec_l1In_eq, Option.bind_some])
  · intro i hi hb
    exact spec_l10Tables.eq2 _ _ _ _ (by simp only [spec_l10Tables.t2, ix_lt, ix_nn, ix_nat, dec_t hi, cond_true, spec_l1In_eq, Option.bind_some, hb, bang_f])
  · intro i c hi hb hc
    exact spec_l10Tables.eq2 _ _ _ _ (by simp only [spec_l10Tables.t2, ix_lt, ix_nn, ix_nat, dec_t hi, cond_true, cond_false, spec_l1In_eq, Option.bind_some, hb, bang_t, wrap_succ (show i < 9223372036854775807 by omega)]; exact hc)
theorem impl_areTables_1_eq (x : Int) : impl_areTables_1 x = some (inB 1 3 x) := impl_areTables_1.eq x (by simp only [impl_areTables_1.t, impl_within_eq, Option.bind_some])
theorem impl_areTables_eq (v : List Int) (hl : v.length ≤ 1073741824) : impl_areTables v = some (tablesB v) := by
  refine impl_areTables.eq v ?_
  simp only [impl_areTables.t, impl_within_eq, Option.bind_some, impl_areAll_int_impl_areTables_1_ok v (inB 1 3) (by omega) (fun x _ => impl_areTables_1_eq x), tablesB]
  cases inB 1 4 (v.length : Int) <;> cases v.all (inB 1 3) <;> rfl
theorem spec_l7All_eq (l v : List Int) (hl : l.length ≤ 1073741824) (hv : v.length ≤ 1073741824) : spec_l7All l v = some (v.all fun n => l.any fun x => x == n) := by
  refine spec_l7All.eq l v ?_
  simp only [spec_l7All.t]
  have := all_loop v 0 (fun i => spec_l7All.l2 l v (v.length : Int) (i : Int)) (fun n => l.any fun x => x == n) false true ?_ ?_ ?_
  · refine Eq.trans this ?_
    cases (v.all fun n => l.any fun x => x == n) <;> rfl
  · exact spec_l7All.eq2 _ _ _ _ (by simp only [spec_l7All.t2, ix_lt, Nat.lt_irrefl, decide_false, cond_false])
  · intro i hi hb
    exact spec_l7All.eq2 _ _ _ _ (by simp only [spec_l7All.t2, ix_lt, ix_nn, ix_nat, dec_t hi, cond_true, spec_l1Has_eq l _ hl, Option.bind_some, hb, bang_f])
  · intro i c hi hb hc
    exact spec_l7All.eq2 _ _ _ _ (by simp only [spec_l7All.t2, ix_lt, ix_nn, ix_nat, dec_t hi, cond_true, cond_false, spec_l1Has_eq l _ hl, Option.bind_some, hb, bang_t, wrap_succ (show i < 9223372036854775807 by omega)]; exact hc)
theorem slices_Contains_int_int_eq (l : List Int) (n : Int) (hl : l.length ≤ 1073741824) : slices_Contains_int_int l n = some (l.any fun x => x == n) := by
  have key : ∀ i, i ≤ l.length → ∃ r : Int, slices_Index_int_int.l2 l n (l.length : Int) (i : Int) = some r ∧ decide (r ≥ 0) = (l.drop i).any fun x => x == n := by
    refine upto ?_ ?_
    · exact ⟨-1, slices_Index_int_int.eq2 _ _ _ _ (by simp only [slices_Index_int_int.t2, ix_lt, Nat.lt_irrefl, decide_false, cond_false]), by simp⟩
    · intro i hi ih
      obtain ⟨r, g0, g1⟩ := ih
      rw [drop_getD 0 hi, List.any_cons]
      by_cases h : n = l.getD i 0
      · have h1 : (n == l.getD i 0) = true := by rw [h]; exact BEq.rfl
        have h2 : (l.getD i 0 == n) = true := by rw [h]; exact BEq.rfl
        exact ⟨i, slices_Index_int_int.eq2 _ _ _ _ (by simp only [slices_Index_int_int.t2, ix_lt, ix_nn, ix_nat, dec_t hi, cond_true, h1]), by rw [h2]; simp⟩
      · have h1 : (n == l.getD i 0) = false := beq_eq_false_iff_ne.2 h
        have h2 : (l.getD i 0 == n) = false := beq_eq_false_iff_ne.2 fun e => h e.symm
        exact ⟨r, slices_Index_int_int.eq2 _ _ _ _ (by simp only [slices_Index_int_int.t2, ix_lt, ix_nn, ix_nat, dec_t hi, cond_true, cond_false, h1, wrap_succ (show i < 9223372036854775807 by omega), g0]), by rw [g1, h2, Bool.false_or]⟩
  obtain ⟨r, g0, g1⟩ := key 0 (Nat.zero_le _)
  have g2 : slices_Index_int_int l n = some r := slices_Index_int_int.eq l n (by simp only [slices_Index_int_int.t]; exact g0)
  exact slices_Contains_int_int.eq l n (by simp only [slices_Contains_int_int.t, g2, Option.bind_some, g1, List.drop_zero])
theorem impl_isHead_1_eq (x : Int) (l : List Int) (hl : l.length ≤ 1073741824) : impl_isHead_1 x l = some (l.any fun y => y == x) := impl_isHead_1.eq x l (by simp only [impl_isHead_1.t, slices_Contains_int_int_eq l x hl, Option.bind_some])
theorem FnExactGoodQuery_same (v0 : List Int) (v1 : List (Int × List Int)) (v2 : List Int) (w0 : WfT (.pair (.sl (.int .i64)) (.sl (.pair (.int .i64) (.sl (.int .i64))))) (v0, v1)) (hz0 : szT (.pair (.sl (.int .i64)) (.sl (.pair (.int .i64) (.sl (.int .i64))))) (v0, v1) ≤ 1048576)
    (w1 : WfT (.sl (.int .i64)) v2) (hz1 : szT (.sl (.int .i64)) v2 ≤ 1048576) : ∃ b : Bool, spec_GoodQuery v0 v1 v2 = some b ∧ impl_GoodQuery v0 v1 v2 = some b ∧ True := by
  have h0 : v0.length ≤ 1073741824 := by simp only [szT] at hz0; omega
  have hv2 : v2.length ≤ 1073741824 := by simp only [szT] at hz1; omega
  have h1 : v1.length ≤ 1073741824 := by
    have := szT_len (t := .pair (.int .i64) (.sl (.int .i64))) (l := v1)
    simp only [szT] at hz0 this
    omega
  have h2 : ∀ a, a ∈ v1 → a.2.length ≤ 1073741824 := by
    intro a ha
    have := szT_mem (t := .pair (.int .i64) (.sl (.int .i64))) ha
    simp only [szT] at hz0 this
    omega
  have hw : IntKind.i64.wrap ((v2.length : Int) - 1) = (v2.length : Int) - 1 := wrap_id (by omega) (by omega)
  have ev : ∀ l : List Int, l.length ≤ 1073741824 → impl_areAll_int_impl_isVar l = some (l.all varB) := fun l hl => impl_areAll_int_impl_isVar_ok l varB (by omega) (fun x _ => impl_isVar_eq x)
  have ea : ∀ a : Int × List Int, a ∈ v1 → impl_isQuery_1 a.1 a.2 v2 = some (qatomB v2 a) := by
    intro a ha
    refine impl_isQuery_1.eq _ _ _ ?_
    simp only [impl_isQuery_1.t, impl_within_eq, hw, ev _ (h2 a ha), Option.bind_some, qatomB, inB]
    by_cases g1 : 0 ≤ a.1
    · by_cases g2 : a.1 < (v2.length : Int)
      · have g3 : a.1 ≤ (v2.length : Int) - 1 := by omega
        have g4 : a.1.toNat < v2.length := by omega
        simp only [dec_t g1, dec_t g2, dec_t g3, dec_t g4, Bool.and_true, cond_true]
        by_cases g5 : (a.2.length : Int) = v2.getD a.1.toNat 0
        · have : ((a.2.length : Int) == v2.getD a.1.toNat 0) = true := by rw [g5]; exact BEq.rfl
          simp only [this, dec_t g5, cond_true, Bool.true_and]
        · have : ((a.2.length : Int) == v2.getD a.1.toNat 0) = false := beq_eq_false_iff_ne.2 g5
          simp only [this, dec_f g5, cond_false, Bool.false_and, Bool.and_false]
      · have g3 : ¬ a.1 ≤ (v2.length : Int) - 1 := by omega
        simp only [dec_f g2, dec_f g3, Bool.and_false, Bool.false_and, cond_false]
    · simp only [dec_f g1, Bool.false_and, cond_false]
  have eall := impl_areAll_impl_Atom_impl_isQuery_1_ok v1 v2 (qatomB v2) (by omega) ea
  have e1 := spec_l10Tables_eq v2 hv2
  have e2 := impl_areTables_eq v2 hv2
  cases hT : tablesB v2 with
  | false => exact ⟨false, spec_GoodQuery.eq _ _ _ (by simp only [spec_GoodQuery.t, e1, hT, Option.bind_some, bang_f, cond_true]), impl_GoodQuery.eq _ _ _ (by simp only [impl_GoodQuery.t, e2, hT, Option.bind_some, cond_false]), trivial⟩
  | true =>
    cases hI : inB 1 5 (v1.length : Int) with
    | false => exact ⟨false, spec_GoodQuery.eq _ _ _ (by simp only [spec_GoodQuery.t, e1, hT, spec_l1In_eq, hI, Option.bind_some, bang_f, bang_t, cond_true, cond_false]),
        impl_GoodQuery.eq _ _ _ (by
          have := impl_isQuery.eq v0 v1 v2 (b := false) (by simp only [impl_isQuery.t, impl_within_eq, hI, Option.bind_some, cond_false])
          simp only [impl_GoodQuery.t, e2, hT, this, Option.bind_some, cond_true]), trivial⟩
    | true =>
      -- the specification's look at the atoms
      have inner : ∀ i, i < v1.length → (∀ c, spec_GoodQuery.l4 v2 v0 v1 v1 (v1.length : Int) ((i + 1 : Nat) : Int) = some c → (v1.getD i ((0 : Int), [])).2.all varB = true →
          spec_GoodQuery.l9 v2 v0 v1 v1 (v1.length : Int) (i : Int) (v1.getD i ((0 : Int), [])).2 ((v1.getD i ((0 : Int), [])).2.length : Int) ((0 : Nat) : Int) = some c) ∧
          ((v1.getD i ((0 : Int), [])).2.all varB = false → spec_GoodQuery.l9 v2 v0 v1 v1 (v1.length : Int) (i : Int) (v1.getD i ((0 : Int), [])).2 ((v1.getD i ((0 : Int), [])).2.length : Int) ((0 : Nat) : Int) = some false) := by
        intro i hi
        have hlen := h2 _ (getD_mem ((0 : Int), []) hi)
        have hs : ∀ j c, j < (v1.getD i ((0 : Int), [])).2.length → varB ((v1.getD i ((0 : Int), [])).2.getD j 0) = true →
            spec_GoodQuery.l9 v2 v0 v1 v1 (v1.length : Int) (i : Int) (v1.getD i ((0 : Int), [])).2 ((v1.getD i ((0 : Int), [])).2.length : Int) ((j + 1 : Nat) : Int) = some c →
            spec_GoodQuery.l9 v2 v0 v1 v1 (v1.length : Int) (i : Int) (v1.getD i ((0 : Int), [])).2 ((v1.getD i ((0 : Int), [])).2.length : Int) (j : Int) = some c := fun j c hj hb hc =>
          spec_GoodQuery.eq9 _ _ _ _ _ _ _ _ _ (by simp only [spec_GoodQuery.t9, ix_lt, ix_nn, ix_nat, dec_t hj, cond_true, cond_false, spec_l10Var_eq, Option.bind_some, hb, bang_t, wrap_succ (show j < 9223372036854775807 by omega)]; exact hc)
        refine ⟨fun c hc h => ?_, fun h => ?_⟩
        · refine good_loop (L := fun j => spec_GoodQuery.l9 v2 v0 v1 v1 (v1.length : Int) (i : Int) (v1.getD i ((0 : Int), [])).2 ((v1.getD i ((0 : Int), [])).2.length : Int) (j : Int)) (z := 0) hs h ?_
          exact spec_GoodQuery.eq9 _ _ _ _ _ _ _ _ _ (by simp only [spec_GoodQuery.t9, ix_lt, Nat.lt_irrefl, decide_false, cond_false, wrap_succ (show i < 9223372036854775807 by omega)]; exact hc)
        · refine bad_loop (L := fun j => spec_GoodQuery.l9 v2 v0 v1 v1 (v1.length : Int) (i : Int) (v1.getD i ((0 : Int), [])).2 ((v1.getD i ((0 : Int), [])).2.length : Int) (j : Int)) (z := 0) ?_ hs h
          intro j hj hb
          exact spec_GoodQuery.eq9 _ _ _ _ _ _ _ _ _ (by simp only [spec_GoodQuery.t9, ix_lt, ix_nn, ix_nat, dec_t hj, cond_true, spec_l10Var_eq, Option.bind_some, hb, bang_f])
      have step : ∀ i c, i < v1.length → qatomB v2 (v1.getD i ((0 : Int), [])) = true → spec_GoodQuery.l4 v2 v0 v1 v1 (v1.length : Int) ((i + 1 : Nat) : Int) = some c → spec_GoodQuery.l4 v2 v0 v1 v1 (v1.length : Int) (i : Int) = some c := by
        intro i c hi hb hc
        simp only [qatomB, Bool.and_eq_true, decide_eq_true_eq] at hb
        obtain ⟨⟨g1, g2⟩, g3, g4⟩ := hb
        have g1' : ¬ (v1.getD i ((0 : Int), [])).1 < 0 := by omega
        have g2' : ¬ (v1.getD i ((0 : Int), [])).1 ≥ (v2.length : Int) := by omega
        have g5 : (v1.getD i ((0 : Int), [])).1.toNat < v2.length := by omega
        refine spec_GoodQuery.eq4 _ _ _ _ _ _ ?_
        simp only [spec_GoodQuery.t4, ix_lt, ix_nn, ix_nat, dec_t hi, dec_f g1', dec_f g2', dec_t g1, dec_t g5, cond_true, cond_false, g3, bne_ref]
        rw [← g3]
        exact (inner i hi).1 c hc g4
      have bad : ∀ i, i < v1.length → qatomB v2 (v1.getD i ((0 : Int), [])) = false → spec_GoodQuery.l4 v2 v0 v1 v1 (v1.length : Int) (i : Int) = some false := by
        intro i hi hb
        refine spec_GoodQuery.eq4 _ _ _ _ _ _ ?_
        by_cases g1 : (v1.getD i ((0 : Int), [])).1 < 0
        · simp only [spec_GoodQuery.t4, ix_lt, ix_nn, ix_nat, dec_t hi, dec_t g1, cond_true]
        · by_cases g2 : (v1.getD i ((0 : Int), [])).1 ≥ (v2.length : Int)
          · simp only [spec_GoodQuery.t4, ix_lt, ix_nn, ix_nat, dec_t hi, dec_f g1, dec_t g2, cond_true, cond_false]
          · have g1' : 0 ≤ (v1.getD i ((0 : Int), [])).1 := by omega
            have g2' : (v1.getD i ((0 : Int), [])).1 < (v2.length : Int) := by omega
            have g5 : (v1.getD i ((0 : Int), [])).1.toNat < v2.length := by omega
            simp only [qatomB, dec_t g1', dec_t g2', Bool.true_and] at hb
            by_cases g3 : ((v1.getD i ((0 : Int), [])).2.length : Int) = v2.getD (v1.getD i ((0 : Int), [])).1.toNat 0
            · have g6 : (((v1.getD i ((0 : Int), [])).2.length : Int) != v2.getD (v1.getD i ((0 : Int), [])).1.toNat 0) = false := by rw [g3]; exact bne_ref _
              simp only [spec_GoodQuery.t4, ix_lt, ix_nn, ix_nat, dec_t hi, dec_f g1, dec_f g2, dec_t g1', dec_t g5, cond_true, cond_false, g6]
              rw [dec_t g3, Bool.true_and] at hb
              exact (inner i hi).2 hb
            · have g6 : (((v1.getD i ((0 : Int), [])).2.length : Int) != v2.getD (v1.getD i ((0 : Int), [])).1.toNat 0) = true := bne_iff_ne.2 g3
              simp only [spec_GoodQuery.t4, ix_lt, ix_nn, ix_nat, dec_t hi, dec_f g1, dec_f g2, dec_t g1', dec_t g5, cond_true, cond_false, g6]
      cases hA : v1.all (qatomB v2) with
      | false =>
        have hq := impl_isQuery.eq v0 v1 v2 (b := false) (by simp only [impl_isQuery.t, impl_within_eq, hI, eall, hA, Option.bind_some, cond_true, cond_false])
        refine ⟨false, spec_GoodQuery.eq _ _ _ ?_, impl_GoodQuery.eq _ _ _ (by simp only [impl_GoodQuery.t, e2, hT, hq, Option.bind_some, cond_true]), trivial⟩
        simp only [spec_GoodQuery.t, e1, hT, spec_l1In_eq, hI, Option.bind_some, bang_t, cond_false]
        cases decide ((v0.length : Int) > 6) with
        | true => rfl
        | false => exact bad_loop (L := fun i => spec_GoodQuery.l4 v2 v0 v1 v1 (v1.length : Int) (i : Int)) bad step hA
      | true =>
        have hall := List.all_eq_true.1 hA
        have hv : ∀ a, a ∈ v1 → ∀ x, x ∈ a.2 → 0 ≤ x ∧ x < 62 := by
          intro a ha x hx
          have := hall a ha
          simp only [qatomB, Bool.and_eq_true, List.all_eq_true] at this
          have := varB_iff.1 (this.2.2 x hx)
          omega
        have f1 := spec_l10Vars_eq h1 h2 hv v0
        have f2 := impl_vars_eq h1 h2 hv
        have hbl := bitsF_len (varsM 0 v1) 0 62
        have f3 := spec_l7All_eq (bitsF (varsM 0 v1) 0 62) v0 (by omega) h0
        have f4 := impl_areAll_int_impl_isHead_1_ok v0 (bitsF (varsM 0 v1) 0 62) (fun n => (bitsF (varsM 0 v1) 0 62).any fun x => x == n) (by omega) (fun x _ => impl_isHead_1_eq x _ (by omega))
        have hlen : decide ((v0.length : Int) > 6) = !decide ((v0.length : Int) ≤ 6) := by
          by_cases h : (v0.length : Int) ≤ 6
          · have : ¬ (v0.length : Int) > 6 := by omega
            rw [dec_t h, dec_f this]; rfl
          · have : (v0.length : Int) > 6 := by omega
            rw [dec_f h, dec_t this]; rfl
        have hH : impl_isHead v0 v1 = some (bif decide ((v0.length : Int) ≤ 6) then (v0.all fun n => (bitsF (varsM 0 v1) 0 62).any fun x => x == n) else false) := by
          refine impl_isHead.eq v0 v1 ?_
          simp only [impl_isHead.t, f2, f4, Option.bind_some]
          cases decide ((v0.length : Int) ≤ 6) <;> rfl
        have hq := impl_isQuery.eq v0 v1 v2 (b := _) (by simp only [impl_isQuery.t, impl_within_eq, hI, eall, hA, hH, Option.bind_some, cond_true]; rfl)
        refine ⟨_, ?_, impl_GoodQuery.eq _ _ _ (by simp only [impl_GoodQuery.t, e2, hT, hq, Option.bind_some, cond_true]; rfl), trivial⟩
        refine spec_GoodQuery.eq _ _ _ ?_
        simp only [spec_GoodQuery.t, e1, hT, spec_l1In_eq, hI, Option.bind_some, bang_t, cond_false, hlen]
        cases decide ((v0.length : Int) ≤ 6) with
        | false => rfl
        | true =>
          simp only [bang_t, cond_false, cond_true]
          refine good_loop (L := fun i => spec_GoodQuery.l4 v2 v0 v1 v1 (v1.length : Int) (i : Int)) step hA ?_
          exact spec_GoodQuery.eq4 _ _ _ _ _ _ (by simp only [spec_GoodQuery.t4, ix_lt, Nat.lt_irrefl, decide_false, cond_false, f1, f3, Option.bind_some])
end GoV

/- FnExactGoodQuery: the law out of its core. -/
namespace GoV
open Go
theorem FnExactGoodQuery_true (v0 : List Int) (v1 : List (Int × List Int)) (v2 : List Int) (w0 : WfT (.pair (.sl (.int .i64)) (.sl (.pair (.int .i64) (.sl (.int .i64))))) (v0, v1)) (w1 : WfT (.sl (.int .i64)) v2) : laws_FnExactGoodQuery v0 v1 v2 = some true := by
  by_cases b1 : ((v2.length : Int) > (1048576 : Int))
  · exact laws_FnExactGoodQuery.eq v0 v1 v2 (by simp only [laws_FnExactGoodQuery.t, dec_t b1, cond_true, cond_false, Option.bind_some])
  have z1 : szT (.sl (.int .i64)) v2 ≤ 1048576 := by rw [szT_sl_flat (t := (.int .i64)) v2 rfl]; omega
  obtain ⟨left2, e2, a2, b2z⟩ := laws_szQuery_ok (v0) (v1) ((1048576 : Int)) w0 (by omega) (by omega)
  by_cases n2 : left2 < 0
  · exact laws_FnExactGoodQuery.eq v0 v1 v2 (by simp only [laws_FnExactGoodQuery.t, dec_f b1, e2, dec_t n2, cond_true, cond_false, Option.bind_some])
  have z2a := b2z (by omega)
  have hz0 : szT (.pair (.sl (.int .i64)) (.sl (.pair (.int .i64) (.sl (.int .i64))))) (v0, v1) ≤ 1048576 := by omega
  have hz1 : szT (.sl (.int .i64)) v2 ≤ 1048576 := by omega
  obtain ⟨ga, hspec, himpl, hsm⟩ := FnExactGoodQuery_same v0 v1 v2 w0 hz0 w1 hz1
  -- the answer is small
  have e3 := laws_toQuery_id (v0) (v1) (by omega)
  have e4 := laws_toIntS_id (v2) (by omega)
  have e6 := laws_toQuery_id (v0) (v1) (by omega)
  have e7 := laws_toIntS_id (v2) (by omega)
  have e9 := laws_toQuery_id (v0) (v1) (by omega)
  have e10 := laws_eqQuery_rf (v0) (v1) (by first | omega | (simp only [szT] at *; omega))
  have e11 := laws_toIntS_id (v2) (by omega)
  have e12 := laws_eqIntS_rf (v2) (by first | omega | (simp only [szT] at *; omega))
  refine laws_FnExactGoodQuery.eq v0 v1 v2 ?_
  simp only [laws_FnExactGoodQuery.t, dec_f b1, e2, dec_f n2, e3, e4, e6, e7, e9, e10, e11, e12, hspec, himpl, cond_true, cond_false, Option.bind_some, bne_ref, beq_ref, bang_t]
end GoV
