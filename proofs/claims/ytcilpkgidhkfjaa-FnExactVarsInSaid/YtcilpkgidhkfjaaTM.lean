/- A part of the proof of FnExactVarsIn: an interpreter of the model over plain data, its soundness, and what it makes of the functions that the statement reaches. Conditions: none beyond what the given statement itself says. -/
import Derived.Test.YtcilpkgidhkfjaaTL
set_option linter.unusedVariables false
set_option linter.unusedSimpArgs false
set_option linter.unnecessarySimpa false
set_option linter.unusedSectionVars false
/- Rising numbers; sets as bits. -/
namespace GoV
open Go
theorem ix_pos (i : Nat) : decide ((i : Int) > (0 : Int)) = decide (0 < i) := by
  by_cases h : 0 < i <;> simp [h] <;> omega
/-- One of the places of rising numbers below n. -/
def placeB (n : Int) (l : List Int) (k : Nat) : Bool := (decide (0 ≤ l.getD k 0) && decide (l.getD k 0 < n)) && (decide (k = 0) || decide (l.getD (k - 1) 0 < l.getD k 0))
def someB (n : Int) (l : List Int) : Bool := allR (placeB n l) 0 l.length
theorem some_rises {n : Int} {l : List Int} (h : someB n l = true) : risesB (-1) l = true ∧ ∀ x, x ∈ l → 0 ≤ x ∧ x < n := by
  simp only [someB, allR_iff, placeB, Bool.and_eq_true, Bool.or_eq_true, decide_eq_true_eq] at h
  have key : ∀ (r pre : List Int), l = pre ++ r → risesB (if pre = [] then -1 else pre.getLastD 0) r = true := by
    intro r
    induction r with
    | nil => intro pre _; rfl
    | cons x r ih =>
      intro pre hl
      have hk := h pre.length (Nat.zero_le _) (by rw [hl]; simp)
      have hx : l.getD pre.length 0 = x := by rw [hl]; exact getD_mid pre r x 0
      rw [hx] at hk
      have ih' := ih (pre ++ [x]) (by rw [hl]; simp)
      simp only [risesB, Bool.and_eq_true, decide_eq_true_eq]
      refine ⟨?_, by simpa using ih'⟩
      cases pre with
      | nil => simp; omega
      | cons y pre =>
        simp only [List.cons_ne_nil, if_false]
        have h2 : l.getD ((y :: pre).length - 1) 0 = (y :: pre).getLastD 0 := by
          rw [hl]
          simp only [List.getLastD_eq_getLast?, List.getLast?_eq_getElem?, List.getD]
          rw [List.getElem?_append_left (by simp)]
        rw [h2] at hk
        rcases hk.2 with h3 | h3
        · simp at h3
        · exact h3
  refine ⟨by simpa using key l [] rfl, fun x hx => ?_⟩
  obtain ⟨i, hi, rfl⟩ := List.mem_iff_getElem.1 hx
  have := (h i (Nat.zero_le _) hi).1
  rwa [getD_of_lt hi] at this
theorem impl_setOf_eq (l : List Int) (hl : l.length ≤ 1073741824) (hr : ∀ x, x ∈ l → 0 ≤ x ∧ x < 62) : impl_setOf l = some ((maskN 0 l : Nat) : Int) := by
  have key : ∀ i, i ≤ l.length → ∀ m : Nat, m < 4611686018427387904 → impl_setOf.l3 (m : Int) l (l.length : Int) (i : Int) = some ((maskN m (l.drop i) : Nat) : Int) := by
    refine upto ?_ ?_
    · intro m _
      exact impl_setOf.eq3 _ _ _ _ (by simp only [impl_setOf.t3, ix_lt, Nat.lt_irrefl, decide_false, cond_false, List.drop_length]; rfl)
    · intro i hi ih m hm
      have hx := hr _ (getD_mem 0 hi)
      obtain ⟨x, hx'⟩ : ∃ x : Nat, l.getD i 0 = (x : Int) := ⟨(l.getD i 0).toNat, by omega⟩
      have hlt : x < 62 := by omega
      have g := ih (m ||| 2 ^ x) (or_lt hm (pow_lt hlt))
      refine impl_setOf.eq3 _ _ _ _ ?_
      rw [drop_getD 0 hi, maskN_cons]
      simp only [impl_setOf.t3, ix_lt, ix_nn, ix_nat, dec_t hi, cond_true, hx', one_shl hlt, or_nat hm (pow_lt hlt), wrap_succ (show i < 9223372036854775807 by omega)]
      exact g
  exact impl_setOf.eq l (by simp only [impl_setOf.t]; exact key 0 (Nat.zero_le _) 0 (by omega))
theorem impl_set_list_eq (m : Nat) (hm : m < 4611686018427387904) : impl_set_list (m : Int) = some (bitsF m 0 62) := by
  have key : ∀ i, i ≤ 62 → ∀ acc : List Int, acc.length + 62 ≤ 1073741824 + i → impl_set_list.l3 (m : Int) acc (i : Int) = some (acc ++ bitsF m i (62 - i)) := by
    refine upto ?_ ?_
    · intro acc _
      refine impl_set_list.eq3 _ _ _ ?_
      have e : m >>> 62 = 0 := by rw [Nat.shiftRight_eq_div_pow]; omega
      simp only [impl_set_list.t3, ix_nn, ix_nat, cond_true, shr_nat m 62 (by omega), e]
      simp [bitsF]
    · intro i hi ih acc hacc
      refine impl_set_list.eq3 _ _ _ ?_
      simp only [impl_set_list.t3, ix_nn, ix_nat, cond_true, shr_nat m i (show i ≤ 64 by omega)]
      by_cases h0 : m >>> i = 0
      · rw [h0, bitsF_none h0]
        simp
      · have e1 : (((m >>> i : Nat) : Int) != (0 : Int)) = true := by
          have : ((m >>> i : Nat) : Int) ≠ 0 := by omega
          simpa using this
        have hs : m >>> i < 4611686018427387904 := Nat.lt_of_le_of_lt (by rw [Nat.shiftRight_eq_div_pow]; exact Nat.div_le_self _ _) hm
        have e2 := and_nat (m := m >>> i) (n := 1) hs (by omega)
        have e3 : (m >>> i &&& 1) = if m.testBit i then 1 else 0 := by
          rw [Nat.and_one_is_mod, Nat.testBit, Nat.one_and_eq_mod_two]
          rcases Nat.mod_two_eq_zero_or_one (m >>> i) with h | h <;> simp [h]
        rw [e3] at e2
        have e4 : ((1 : Nat) : Int) = (1 : Int) := rfl
        rw [e4] at e2
        have e5 : 62 - i = (62 - (i + 1)) + 1 := by omega
        rw [e5, bitsF_step]
        simp only [e1, cond_true, e2, wrap_succ (show i < 9223372036854775807 by omega)]
        cases hb : m.testBit i with
        | true =>
          have hlen : acc.length + [((i : Nat) : Int)].length ≤ 4294967296 := by simp only [List.length_cons, List.length_nil]; omega
          have g := ih (acc ++ [(i : Int)]) (by simp only [List.length_append, List.length_cons, List.length_nil]; omega)
          simp only [if_true, dec_t hlen, cond_true]
          rw [g]
          simp
        | false =>
          have g := ih acc (by omega)
          simp only [Bool.false_eq_true, if_false]
          rw [g]
          simp
  refine impl_set_list.eq _ ?_
  simp only [impl_set_list.t]
  have g := key 0 (Nat.zero_le _) [] (by simp)
  simpa using g
/-- The numbers of the set of rising numbers are they. -/
theorem set_list_rises {n : Int} {l : List Int} (h : someB n l = true) (hn : n ≤ 62) : impl_set_list ((maskN 0 l : Nat) : Int) = some l := by
  obtain ⟨h1, h2⟩ := some_rises h
  rw [impl_set_list_eq _ (maskN_lt (by omega) fun x hx => by have := h2 x hx; omega), bitsF_mask h1 fun x hx => by have := h2 x hx; omega]
end GoV

/- Sets as rising lists: numbers put to their place. -/
namespace GoV
open Go
theorem spec_l1Has_eq (l : List Int) (n : Int) (hl : l.length ≤ 1073741824) : spec_l1Has l n = some (l.any fun x => x == n) := by
  have key : ∀ i, i ≤ l.length → spec_l1Has.l2 n l (l.length : Int) (i : Int) = some ((l.drop i).any fun x => x == n) := by
    refine upto ?_ ?_
    · exact spec_l1Has.eq2 _ _ _ _ (by simp only [spec_l1Has.t2, ix_lt, Nat.lt_irrefl, decide_false, cond_false, List.drop_length, List.any_nil])
    · intro i hi ih
      refine spec_l1Has.eq2 _ _ _ _ ?_
      rw [drop_getD 0 hi, List.any_cons]
      simp only [spec_l1Has.t2, ix_lt, ix_nn, ix_nat, dec_t hi, cond_true, wrap_succ (show i < 9223372036854775807 by omega), ih]
      cases (l.getD i 0 == n) <;> rfl
  exact spec_l1Has.eq l n (by simp only [spec_l1Has.t]; exact key 0 (Nat.zero_le _))
theorem spec_l7Put_eq (l : List Int) (n : Int) (hl : l.length ≤ 1073741824) : spec_l7Put l n = some (bif l.any (fun x => x == n) then l else putS n l) := by
  have key : ∀ k, k ≤ l.length → spec_l7Put.l4 l n (k : Int) = some (l.take k ++ (l.drop k).takeWhile (fun x => decide (x < n)) ++ [n] ++ (l.drop k).dropWhile (fun x => decide (x < n))) := by
    have fin : ∀ k, k ≤ l.length → (decide ((none : Option Int).getD (0 : Int) ≤ (k : Int)) = true ∧ decide ((k : Int) ≤ (l.length : Int)) = true ∧ decide ((l.take k).length ≤ 4294967296) = true ∧ decide ((l.take k).length + [n].length ≤ 4294967296) = true ∧
        decide ((l.take k ++ [n]).length + (l.drop k).length ≤ 4294967296) = true) := by
      intro k hk
      refine ⟨by simp, by simpa using hk, ?_, ?_, ?_⟩ <;> simp <;> omega
    refine upto ?_ ?_
    · obtain ⟨f1, f2, f3, f4, f5⟩ := fin l.length (Nat.le_refl _)
      refine spec_l7Put.eq4 _ _ _ ?_
      simp only [spec_l7Put.t4, ix_lt, ix_nn, ix_nat, Nat.lt_irrefl, decide_false, cond_false, cond_true, Option.getD_none, Option.getD_some, Int.sub_zero, Int.toNat_zero, List.drop_zero, f2, f3, f4, f5]
      simp
    · intro k hk ih
      obtain ⟨f1, f2, f3, f4, f5⟩ := fin k (by omega)
      refine spec_l7Put.eq4 _ _ _ ?_
      rw [drop_getD 0 hk]
      simp only [spec_l7Put.t4, ix_lt, ix_nn, ix_nat, dec_t hk, cond_true, wrap_succ (show k < 9223372036854775807 by omega), ih, List.takeWhile_cons, List.dropWhile_cons]
      by_cases h : l.getD k 0 < n
      · simp only [dec_t h, cond_true, if_true]
        congr 1
        have : l.take (k + 1) = l.take k ++ [l.getD k 0] := by rw [List.take_add_one]; simp [List.getD, hk]
        rw [this]
        simp
      · simp only [dec_f h, cond_false, cond_true, Option.getD_none, Option.getD_some, Int.sub_zero, Int.toNat_zero, List.drop_zero, ix_nn, ix_nat, f2, f3, f4, f5, Bool.false_eq_true, if_false]
        simp only [List.append_nil]
        rw [drop_getD 0 hk]
  refine spec_l7Put.eq l n ?_
  simp only [spec_l7Put.t, spec_l1Has_eq l n hl, Option.bind_some]
  cases h : l.any (fun x => x == n) with
  | true => rfl
  | false =>
    simp only [cond_false]
    have := key 0 (Nat.zero_le _)
    simpa [putS] using this
/-- A number put into a set that is told as a rising list. -/
theorem l7Put_bits {m x : Nat} (hx : x < 62) : spec_l7Put (bitsF m 0 62) (x : Int) = some (bitsF (m ||| 2 ^ x) 0 62) := by
  have hl := bitsF_len m 0 62
  rw [spec_l7Put_eq _ _ (by omega)]
  cases h : m.testBit x with
  | true =>
    have : (bitsF m 0 62).any (fun y => y == (x : Int)) = true := by
      rw [List.any_eq_true]
      exact ⟨(x : Int), bitsF_mem.2 ⟨x, rfl, by omega, by omega, h⟩, by simp⟩
    rw [this, or_same h]
    rfl
  | false =>
    have : (bitsF m 0 62).any (fun y => y == (x : Int)) = false := by
      rw [Bool.eq_false_iff]
      intro ha
      rw [List.any_eq_true] at ha
      obtain ⟨y, hy, he⟩ := ha
      obtain ⟨k, rfl, _, _, hk⟩ := bitsF_mem.1 hy
      have : k = x := by
        have he2 : (k : Int) = (x : Int) := by simpa using he
        omega
      rw [this, h] at hk
      cases hk
    rw [this]
    simp only [cond_false]
    rw [putS_bits 62 0 m x (by omega) (by omega) h]
end GoV

/- The variables of a query's atoms, rising, alike. -/
namespace GoV
open Go
/-- The set of all variables of atoms. -/
def varsM (m : Nat) (l : List (Int × List Int)) : Nat := l.foldl (fun m a => maskN m a.2) m
def varB (x : Int) : Bool := decide (0 ≤ x) && decide (x < 6)
theorem varB_iff {x : Int} : varB x = true ↔ 0 ≤ x ∧ x < 6 := by simp [varB]
theorem spec_l10Var_eq (x : Int) : spec_l10Var x = some (varB x) := by
  refine spec_l10Var.eq x ?_
  simp only [spec_l10Var.t, varB]
  by_cases h : 0 ≤ x <;> simp [h]
theorem impl_isVar_eq (x : Int) : impl_isVar x = some (varB x) := by
  refine impl_isVar.eq x ?_
  simp only [impl_isVar.t, impl_within_eq, Option.bind_some, inB, varB]
  congr 2
  exact bool_eq (by simp; omega)
theorem maskN_acc : ∀ (l : List Int) (m : Nat), maskN m l = m ||| maskN 0 l
  | [], m => by simp [maskN]
  | x :: l, m => by rw [maskN_cons, maskN_cons, maskN_acc l (m ||| 2 ^ x.toNat), maskN_acc l (0 ||| 2 ^ x.toNat), Nat.zero_or, Nat.or_assoc]
section
variable {v1 : List (Int × List Int)} (h1 : v1.length ≤ 1073741824) (h2 : ∀ a, a ∈ v1 → a.2.length ≤ 1073741824) (hv : ∀ a, a ∈ v1 → ∀ x, x ∈ a.2 → 0 ≤ x ∧ x < 62)
include h1 h2 hv
theorem spec_l10Vars_eq (v0 : List Int) : spec_l10Vars v0 v1 = some (bitsF (varsM 0 v1) 0 62) := by
  refine spec_l10Vars.eq v0 v1 ?_
  simp only [spec_l10Vars.t]
  have key := fold_loop (σ := Nat) v1 ((0 : Int), []) (fun m i => spec_l10Vars.l3 (bitsF m 0 62) v1 (v1.length : Int) (i : Int)) (fun m a => maskN m a.2) (fun _ => True) (fun m => some (bitsF m 0 62)) ?_ (fun _ _ _ _ => trivial) ?_ 0 _ trivial rfl
  · exact key
  · intro m b _ hb
    exact spec_l10Vars.eq3 _ _ _ _ (by simp only [spec_l10Vars.t3, ix_lt, Nat.lt_irrefl, decide_false, cond_false]; exact hb)
  · intro m i b hi _ hb
    refine spec_l10Vars.eq3 _ _ _ _ ?_
    simp only [spec_l10Vars.t3, ix_lt, ix_nn, ix_nat, dec_t hi, cond_true]
    have hmem := getD_mem ((0 : Int), ([] : List Int)) hi
    have hlen := h2 _ hmem
    have hx := hv _ hmem
    have inner := fold_loop (σ := Nat) (v1.getD i ((0 : Int), [])).2 (0 : Int) (fun m j => spec_l10Vars.l6 (bitsF m 0 62) v1 (v1.length : Int) (i : Int) (v1.getD i ((0 : Int), [])).2 ((v1.getD i ((0 : Int), [])).2.length : Int) (j : Int)) (fun m x => m ||| 2 ^ x.toNat) (fun _ => True)
      (fun m => spec_l10Vars.l3 (bitsF m 0 62) v1 (v1.length : Int) ((i + 1 : Nat) : Int)) ?_ (fun _ _ _ _ => trivial) ?_ m b trivial hb
    · exact inner
    · intro m b _ hb
      exact spec_l10Vars.eq6 _ _ _ _ _ _ _ (by simp only [spec_l10Vars.t6, ix_lt, Nat.lt_irrefl, decide_false, cond_false, wrap_succ (show i < 9223372036854775807 by omega)]; exact hb)
    · intro m j b hj _ hb
      have hxj := hx _ (getD_mem 0 hj)
      obtain ⟨x, hxe⟩ : ∃ x : Nat, (v1.getD i ((0 : Int), [])).2.getD j 0 = (x : Int) := ⟨((v1.getD i ((0 : Int), [])).2.getD j 0).toNat, by omega⟩
      rw [hxe, ix_nat] at hb
      refine spec_l10Vars.eq6 _ _ _ _ _ _ _ ?_
      simp only [spec_l10Vars.t6, ix_lt, ix_nn, ix_nat, dec_t hj, cond_true, hxe, l7Put_bits (m := m) (show x < 62 by omega), Option.bind_some, wrap_succ (show j < 9223372036854775807 by omega)]
      exact hb
theorem impl_vars_eq : impl_vars v1 = some (bitsF (varsM 0 v1) 0 62) := by
  refine impl_vars.eq v1 ?_
  simp only [impl_vars.t]
  have key := fold_loop (σ := Nat) v1 ((0 : Int), []) (fun m i => impl_vars.l3 (m : Int) v1 (v1.length : Int) (i : Int)) (fun m a => maskN m a.2) (fun m => m < 4611686018427387904) (fun m => some (bitsF m 0 62)) ?_ ?_ ?_ 0 _ (by omega) rfl
  · exact key
  · intro m b hm hb
    exact impl_vars.eq3 _ _ _ _ (by simp only [impl_vars.t3, ix_lt, Nat.lt_irrefl, decide_false, cond_false, impl_set_list_eq m hm, Option.bind_some]; exact hb)
  · intro m i hi hm
    exact maskN_lt hm fun x hx => by have := hv _ (getD_mem _ hi) x hx; omega
  · intro m i b hi hm hb
    have hmem := getD_mem ((0 : Int), ([] : List Int)) hi
    have hx := hv _ hmem
    have e := impl_setOf_eq _ (h2 _ hmem) hx
    have hlt := maskN_lt (l := (v1.getD i ((0 : Int), [])).2) (m := 0) (by omega) (fun x h => by have := hx x h; omega)
    refine impl_vars.eq3 _ _ _ _ ?_
    simp only [impl_vars.t3, ix_lt, ix_nn, ix_nat, dec_t hi, cond_true, e, Option.bind_some, or_nat hm hlt, wrap_succ (show i < 9223372036854775807 by omega)]
    rw [maskN_acc] at hb
    exact hb
end
end GoV

/- VarsIn: the program's answer is the specification's. -/
namespace GoV
open Go
def atomB (a : Int × List Int) : Bool := a.2.all varB && decide (a.2.length ≤ 6)
theorem FnExactVarsIn_same (v0 : List Int) (v1 : List (Int × List Int)) (w0 : WfT (.pair (.sl (.int .i64)) (.sl (.pair (.int .i64) (.sl (.int .i64))))) (v0, v1)) (hz0 : szT (.pair (.sl (.int .i64)) (.sl (.pair (.int .i64) (.sl (.int .i64))))) (v0, v1) ≤ 1048576) :
    ∃ (a : List Int) (b : Bool), spec_VarsIn v0 v1 = some (a, b) ∧ impl_VarsIn v0 v1 = some (a, b) ∧ szT (.sl (.int .i64)) a ≤ 1073741824 := by
  have h1 : v1.length ≤ 1073741824 := by
    have := szT_len (t := .pair (.int .i64) (.sl (.int .i64))) (l := v1)
    simp only [szT] at hz0 this
    omega
  have h2 : ∀ a, a ∈ v1 → a.2.length ≤ 1073741824 := by
    intro a ha
    have := szT_mem (t := .pair (.int .i64) (.sl (.int .i64))) ha
    simp only [szT] at hz0 this
    omega
  have ev : ∀ l : List Int, l.length ≤ 1073741824 → impl_areAll_int_impl_isVar l = some (l.all varB) := fun l hl => impl_areAll_int_impl_isVar_ok l varB (by omega) (fun x _ => impl_isVar_eq x)
  have ea : ∀ a : Int × List Int, a ∈ v1 → impl_VarsIn_1 a.1 a.2 = some (atomB a) := by
    intro a ha
    refine impl_VarsIn_1.eq _ _ ?_
    simp only [impl_VarsIn_1.t, ev _ (h2 a ha), Option.bind_some, atomB]
    by_cases h : a.2.length ≤ 6
    · have : (a.2.length : Int) ≤ 6 := by omega
      simp [this, h]
    · have : ¬ (a.2.length : Int) ≤ 6 := by omega
      simp [this, h]
  have eall := impl_areAll_impl_Atom_impl_VarsIn_1_ok v1 atomB (by omega) ea
  -- the specification's own look
  have hspec : spec_VarsIn v0 v1 = (bif v1.all atomB then (bif decide ((v1.length : Int) > (5 : Int)) then some ([], false) else some (bitsF (varsM 0 v1) 0 62, true)) else some ([], false)) := by
    have inner : ∀ i, i < v1.length → ∀ j, j ≤ (v1.getD i ((0 : Int), [])).2.length → (((v1.getD i ((0 : Int), [])).2.drop j).all varB && decide ((v1.getD i ((0 : Int), [])).2.length ≤ 6)) = false →
        spec_VarsIn.l5 v0 v1 (v1.getD i ((0 : Int), [])).1 (v1.getD i ((0 : Int), [])).2 v1 (v1.length : Int) (i : Int) (v1.getD i ((0 : Int), [])).2 ((v1.getD i ((0 : Int), [])).2.length : Int) (j : Int) = some ([], false) := by
      intro i hi
      have hlen := h2 _ (getD_mem ((0 : Int), []) hi)
      refine upto ?_ ?_
      · intro hb
        rw [List.drop_length] at hb
        have h6 : ¬ (v1.getD i ((0 : Int), [])).2.length ≤ 6 := by simpa using hb
        have h6' : (((v1.getD i ((0 : Int), [])).2.length : Nat) : Int) > (6 : Int) := by omega
        exact spec_VarsIn.eq5 _ _ _ _ _ _ _ _ _ _ (by simp only [spec_VarsIn.t5, ix_lt, Nat.lt_irrefl, decide_false, cond_false, dec_t h6', cond_true])
      · intro j hj ih hb
        rw [drop_getD 0 hj, List.all_cons] at hb
        refine spec_VarsIn.eq5 _ _ _ _ _ _ _ _ _ _ ?_
        simp only [spec_VarsIn.t5, ix_lt, ix_nn, ix_nat, dec_t hj, cond_true, spec_l10Var_eq, Option.bind_some, wrap_succ (show j < 9223372036854775807 by omega)]
        cases hx : varB ((v1.getD i ((0 : Int), [])).2.getD j 0) with
        | false => rfl
        | true =>
          rw [hx, Bool.true_and] at hb
          exact ih hb
    have inner2 : ∀ i, i < v1.length → ∀ c, spec_VarsIn.l2 v0 v1 v1 (v1.length : Int) ((i + 1 : Nat) : Int) = some c → ∀ j, j ≤ (v1.getD i ((0 : Int), [])).2.length → (((v1.getD i ((0 : Int), [])).2.drop j).all varB && decide ((v1.getD i ((0 : Int), [])).2.length ≤ 6)) = true →
        spec_VarsIn.l5 v0 v1 (v1.getD i ((0 : Int), [])).1 (v1.getD i ((0 : Int), [])).2 v1 (v1.length : Int) (i : Int) (v1.getD i ((0 : Int), [])).2 ((v1.getD i ((0 : Int), [])).2.length : Int) (j : Int) = some c := by
      intro i hi c hc
      have hlen := h2 _ (getD_mem ((0 : Int), []) hi)
      refine upto ?_ ?_
      · intro hb
        rw [List.drop_length] at hb
        have h6 : (v1.getD i ((0 : Int), [])).2.length ≤ 6 := by simpa using hb
        have h6' : ¬ (((v1.getD i ((0 : Int), [])).2.length : Nat) : Int) > (6 : Int) := by omega
        exact spec_VarsIn.eq5 _ _ _ _ _ _ _ _ _ _ (by simp only [spec_VarsIn.t5, ix_lt, Nat.lt_irrefl, decide_false, cond_false, dec_f h6', wrap_succ (show i < 9223372036854775807 by omega)]; exact hc)
      · intro j hj ih hb
        rw [drop_getD 0 hj, List.all_cons] at hb
        simp only [Bool.and_eq_true] at hb
        refine spec_VarsIn.eq5 _ _ _ _ _ _ _ _ _ _ ?_
        simp only [spec_VarsIn.t5, ix_lt, ix_nn, ix_nat, dec_t hj, cond_true, spec_l10Var_eq, Option.bind_some, wrap_succ (show j < 9223372036854775807 by omega), hb.1.1, bang_t, cond_false]
        exact ih (by simp only [Bool.and_eq_true]; exact ⟨hb.1.2, hb.2⟩)
    have atom : ∀ i, atomB (v1.getD i ((0 : Int), [])) = ((((v1.getD i ((0 : Int), [])).2.drop 0).all varB) && decide ((v1.getD i ((0 : Int), [])).2.length ≤ 6)) := fun i => by rw [List.drop_zero]; rfl
    have bad : ∀ i, i < v1.length → atomB (v1.getD i ((0 : Int), [])) = false → spec_VarsIn.l2 v0 v1 v1 (v1.length : Int) (i : Int) = some ([], false) := by
      intro i hi hb
      refine spec_VarsIn.eq2 _ _ _ _ _ ?_
      simp only [spec_VarsIn.t2, ix_lt, ix_nn, ix_nat, dec_t hi, cond_true]
      exact inner i hi 0 (Nat.zero_le _) (by rw [← atom]; exact hb)
    have step : ∀ i c, i < v1.length → atomB (v1.getD i ((0 : Int), [])) = true → spec_VarsIn.l2 v0 v1 v1 (v1.length : Int) ((i + 1 : Nat) : Int) = some c → spec_VarsIn.l2 v0 v1 v1 (v1.length : Int) (i : Int) = some c := by
      intro i c hi hb hc
      refine spec_VarsIn.eq2 _ _ _ _ _ ?_
      simp only [spec_VarsIn.t2, ix_lt, ix_nn, ix_nat, dec_t hi, cond_true]
      exact inner2 i hi c hc 0 (Nat.zero_le _) (by rw [← atom]; exact hb)
    cases hA : v1.all atomB with
    | false =>
      refine spec_VarsIn.eq v0 v1 ?_
      simp only [spec_VarsIn.t, cond_false]
      -- the first bad atom
      have key : ∀ i, i ≤ v1.length → (v1.drop i).all atomB = false → spec_VarsIn.l2 v0 v1 v1 (v1.length : Int) (i : Int) = some ([], false) := by
        refine upto ?_ ?_
        · intro h; simp at h
        · intro i hi ih h
          rw [drop_getD ((0 : Int), []) hi, List.all_cons] at h
          cases hb : atomB (v1.getD i ((0 : Int), [])) with
          | false => exact bad i hi hb
          | true => rw [hb, Bool.true_and] at h; exact step i _ hi hb (ih h)
      exact key 0 (Nat.zero_le _) (by rw [List.drop_zero]; exact hA)
    | true =>
      have hall : ∀ a, a ∈ v1 → atomB a = true := List.all_eq_true.1 hA
      have hv : ∀ a, a ∈ v1 → ∀ x, x ∈ a.2 → 0 ≤ x ∧ x < 62 := by
        intro a ha x hx
        have := hall a ha
        simp only [atomB, Bool.and_eq_true, List.all_eq_true] at this
        have := varB_iff.1 (this.1 x hx)
        omega
      have e := spec_l10Vars_eq h1 h2 hv v0
      have hend : ∀ c, (bif decide ((v1.length : Int) > (5 : Int)) then some ([], false) else some (bitsF (varsM 0 v1) 0 62, true)) = some c → spec_VarsIn.l2 v0 v1 v1 (v1.length : Int) (v1.length : Int) = some c := by
        intro c hc
        refine spec_VarsIn.eq2 _ _ _ _ _ ?_
        simp only [spec_VarsIn.t2, ix_lt, Nat.lt_irrefl, decide_false, cond_false, e, Option.bind_some]
        exact hc
      have key : ∀ c, (bif decide ((v1.length : Int) > (5 : Int)) then some ([], false) else some (bitsF (varsM 0 v1) 0 62, true)) = some c → ∀ i, i ≤ v1.length → spec_VarsIn.l2 v0 v1 v1 (v1.length : Int) (i : Int) = some c := by
        intro c hc
        exact upto (hend c hc) fun i hi ih => step i c hi (hall _ (getD_mem _ hi)) ih
      simp only [cond_true]
      cases h5 : decide ((v1.length : Int) > (5 : Int)) with
      | true => exact spec_VarsIn.eq v0 v1 (by simp only [spec_VarsIn.t]; exact key _ (by rw [h5]; rfl) 0 (Nat.zero_le _))
      | false => exact spec_VarsIn.eq v0 v1 (by simp only [spec_VarsIn.t]; exact key _ (by rw [h5]; rfl) 0 (Nat.zero_le _))
  have hnil : szT (.sl (.int .i64)) ([] : List Int) ≤ 1073741824 := by simp [szT]
  cases hA : v1.all atomB with
  | false =>
    refine ⟨[], false, by rw [hspec, hA]; rfl, impl_VarsIn.eq v0 v1 ?_, hnil⟩
    simp only [impl_VarsIn.t, eall, hA, Option.bind_some, bang_f, cond_true]
    cases decide ((v1.length : Int) > (5 : Int)) <;> rfl
  | true =>
    cases h5 : decide ((v1.length : Int) > (5 : Int)) with
    | true =>
      refine ⟨[], false, by rw [hspec, hA, h5]; rfl, impl_VarsIn.eq v0 v1 ?_, hnil⟩
      simp only [impl_VarsIn.t, h5, cond_true]
    | false =>
      have hall : ∀ a, a ∈ v1 → atomB a = true := List.all_eq_true.1 hA
      have hv : ∀ a, a ∈ v1 → ∀ x, x ∈ a.2 → 0 ≤ x ∧ x < 62 := by
        intro a ha x hx
        have := hall a ha
        simp only [atomB, Bool.and_eq_true, List.all_eq_true] at this
        have := varB_iff.1 (this.1 x hx)
        omega
      have e := impl_vars_eq h1 h2 hv
      refine ⟨bitsF (varsM 0 v1) 0 62, true, by rw [hspec, hA, h5]; rfl, impl_VarsIn.eq v0 v1 ?_, ?_⟩
      · simp only [impl_VarsIn.t, h5, cond_false, eall, hA, Option.bind_some, bang_t, e]
      · rw [szT_sl_flat (t := .int .i64) _ rfl]
        have := bitsF_len (varsM 0 v1) 0 62
        omega
end GoV

/- FnExactVarsIn: the law out of its core. -/
namespace GoV
open Go
theorem FnExactVarsIn_true (v0 : List Int) (v1 : List (Int × List Int)) (w0 : WfT (.pair (.sl (.int .i64)) (.sl (.pair (.int .i64) (.sl (.int .i64))))) (v0, v1)) : laws_FnExactVarsIn v0 v1 = some true := by
  obtain ⟨left1, e1, a1, b1z⟩ := laws_szQuery_ok (v0) (v1) ((1048576 : Int)) w0 (by omega) (by omega)
  by_cases n1 : left1 < 0
  · exact laws_FnExactVarsIn.eq v0 v1 (by simp only [laws_FnExactVarsIn.t, e1, dec_t n1, cond_true, cond_false, Option.bind_some])
  have z1a := b1z (by omega)
  have hz0 : szT (.pair (.sl (.int .i64)) (.sl (.pair (.int .i64) (.sl (.int .i64))))) (v0, v1) ≤ 1048576 := by omega
  obtain ⟨ga, gb, hspec, himpl, hsm⟩ := FnExactVarsIn_same v0 v1 w0 hz0
  -- the answer is small
  have e2 := laws_toQuery_id (v0) (v1) (by omega)
  have e4 := laws_toQuery_id (v0) (v1) (by omega)
  have e6 := laws_eqIntS_rf (ga) (by first | omega | (simp only [szT] at *; omega))
  have e7 := laws_toQuery_id (v0) (v1) (by omega)
  have e8 := laws_eqQuery_rf (v0) (v1) (by first | omega | (simp only [szT] at *; omega))
  have q9 := cntT_le (T := (.pair (.sl (.int .i64)) (.sl (.pair (.int .i64) (.sl (.int .i64)))))) (v0, v1) rfl
  simp only [Ty.size] at q9
  have e9 := laws_markQuery_fb1_ok (v0) (v1) ((1 : Int)) (by omega) (by omega) (by omega)
  have p9 := mrT_cnt (.pair (.sl (.int .i64)) (.sl (.pair (.int .i64) (.sl (.int .i64))))) (v0, v1) (1 : Int)
  have g9 : ¬ (mrT (.pair (.sl (.int .i64)) (.sl (.pair (.int .i64) (.sl (.int .i64))))) (v0, v1) (1 : Int)).2 < 0 := by omega
  have e10 := laws_eqIntS_rf (ga) (by first | omega | (simp only [szT] at *; omega))
  have q11 := cntT_le (T := (.sl (.int .i64))) ga rfl
  simp only [Ty.size] at q11
  have e11 := laws_markIntS_83f_ok (ga) ((1 : Int)) (by omega) (by omega) (by omega)
  have p11 := mrL_cnt (t := (.int .i64)) ga (1 : Int)
  have g11 : ¬ (mrL (mrE (.int .i64)) ga (1 : Int)).2 < 0 := by omega
  have e12 := laws_heldIntS_ok (ga) (1 : Int) (by omega) (by omega) (by omega)
  have e13 := laws_toQuery_id (v0) (v1) (by omega)
  have e15 := laws_eqIntS_rf (ga) (by first | omega | (simp only [szT] at *; omega))
  have e16 := laws_heldIntS_ok (ga) (1 : Int) (by omega) (by omega) (by omega)
  refine laws_FnExactVarsIn.eq v0 v1 ?_
  simp only [laws_FnExactVarsIn.t, e1, dec_f n1, e2, e4, e6, e7, e8, e9, dec_f g9, e10, e11, dec_f g11, e12, e13, e15, e16, hspec, himpl, cond_true, cond_false, Option.bind_some, bne_ref, beq_ref, bang_t]
end GoV
