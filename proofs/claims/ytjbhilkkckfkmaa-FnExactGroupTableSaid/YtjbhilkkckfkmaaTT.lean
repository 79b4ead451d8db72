/- A part of the proof of FnExactGroupTable: an interpreter of the model over plain data, its soundness, and what it makes of the functions that the statement reaches. Conditions: none beyond what the given statement itself says. -/
import Derived.Test.YtjbhilkkckfkmaaTS
set_option linter.unusedVariables false
set_option linter.unusedSimpArgs false
set_option linter.unnecessarySimpa false
set_option linter.unusedSectionVars false
/- Good groups: alike for the program and its specification. -/
namespace GoV
open Go
theorem toNat0g : Int.toNat (0 : Int) = 0 := rfl
theorem spec_l5Sum_eq (n : Int) : spec_l5Sum n = some (sumB n) := spec_l5Sum.eq n (by simp only [spec_l5Sum.t, spec_l1In_eq, Option.bind_some]; rfl)
theorem impl_isSum_eq (n : Int) : impl_isSum n = some (sumB n) := impl_isSum.eq n (by simp only [impl_isSum.t, impl_within_eq, Option.bind_some]; rfl)
theorem impl_keyLength_eq (l : List GRow) : impl_keyLength l = some (klen l : Int) := by
  refine impl_keyLength.eq l ?_
  simp only [impl_keyLength.t, toNat0g]
  cases l with
  | nil => rfl
  | cons g l =>
    have h1 : (((g :: l).length : Int) == 0) = false := beq_eq_false_iff_ne.2 (by simp only [List.length_cons]; omega)
    have h2 : 0 < (g :: l).length := by simp
    simp only [h1, cond_false, dec_t h2, cond_true]
    rfl
theorem gatB_split (l : List GRow) (i : Nat) : gatB l i = (goodR (l.getD i ([], 0, 0)).1 && (((l.getD i ([], 0, 0)).1.length : Int) == (klen l : Int)) && sumB (l.getD i ([], 0, 0)).2.1 && sumB (l.getD i ([], 0, 0)).2.2 && !((l.getD i ([], 0, 0)).2.1 == 0 && (l.getD i ([], 0, 0)).2.2 == 0) && (decide (i = 0) || decide (cmpL (l.getD (i - 1) ([], 0, 0)).1 (l.getD i ([], 0, 0)).1 < 0))) := by
  simp only [gatB, grB, nzB]
  refine bool_eq ?_
  simp only [Bool.and_eq_true, decide_eq_true_eq, beq_iff_eq, and_assoc]
  constructor
  · rintro ⟨h1, h2, h3⟩; exact ⟨h1, by omega, h3⟩
  · rintro ⟨h1, h2, h3⟩; exact ⟨h1, by omega, h3⟩
section
variable {l : List GRow} (hl : l.length ≤ 1073741824) (hr : ∀ w, w ∈ l → w.1.length ≤ 1073741824)
include hl hr
theorem spec_GoodGroups_eq : spec_GoodGroups l = some (goodG l) := by
  have key : ∀ i, i ≤ l.length → spec_GoodGroups.l2 l l (l.length : Int) (i : Int) = some (allR (gatB l) i l.length && decide (l.length ≤ 60)) := by
    refine upto ?_ ?_
    · refine spec_GoodGroups.eq2 _ _ _ _ ?_
      have : decide ((l.length : Int) ≤ 60) = decide (l.length ≤ 60) := bool_eq (by simp only [decide_eq_true_eq]; omega)
      simp only [spec_GoodGroups.t2, ix_lt, Nat.lt_irrefl, decide_false, cond_false, allR_end, Bool.true_and, this]
    · intro i hi ih
      have h1 := hr _ (getD_mem ([], 0, 0) hi)
      have hpos : 0 < l.length := by omega
      refine spec_GoodGroups.eq2 _ _ _ _ ?_
      rw [allR_step _ hi, gatB_split]
      simp only [spec_GoodGroups.t2, ix_lt, ix_nn, ix_nat, dec_t hi, cond_true, toNat0g, dec_t hpos, spec_GoodRow_eq _ h1, spec_l5Sum_eq, Option.bind_some, wrap_succ (show i < 9223372036854775807 by omega), ih, bne, klen]
      cases goodR (l.getD i ([], 0, 0)).1
      · rfl
      · cases ((l.getD i ([], 0, 0)).1.length : Int) == ((l.getD 0 ([], 0, 0)).1.length : Int)
        · rfl
        · cases sumB (l.getD i ([], 0, 0)).2.1
          · rfl
          · cases sumB (l.getD i ([], 0, 0)).2.2
            · rfl
            · by_cases h0 : i = 0
              · subst h0
                cases (l.getD 0 ([], 0, 0)).2.1 == 0 <;> cases (l.getD 0 ([], 0, 0)).2.2 == 0 <;> simp
              · have h2 : 0 < i := by omega
                have h3 : i - 1 < l.length := by omega
                have h4 : (i : Int) > 0 := by omega
                have h5 := hr _ (getD_mem ([], 0, 0) h3)
                simp only [dec_t h4, dec_f h0, bang_t, bang_f, cond_true, cond_false, wrap_pred h2 (by omega), ix_nn, ix_nat, dec_t h3, spec_l1Compare_eq _ _ h5 h1, Option.bind_some, Bool.true_and, Bool.false_or]
                by_cases h6 : cmpL (l.getD (i - 1) ([], 0, 0)).1 (l.getD i ([], 0, 0)).1 ≥ 0
                · have h7 : ¬ cmpL (l.getD (i - 1) ([], 0, 0)).1 (l.getD i ([], 0, 0)).1 < 0 := by omega
                  simp only [dec_t h6, dec_f h7, cond_true]
                  cases (l.getD i ([], 0, 0)).2.1 == 0 <;> cases (l.getD i ([], 0, 0)).2.2 == 0 <;> rfl
                · have h7 : cmpL (l.getD (i - 1) ([], 0, 0)).1 (l.getD i ([], 0, 0)).1 < 0 := by omega
                  simp only [dec_f h6, dec_t h7, cond_false]
                  cases (l.getD i ([], 0, 0)).2.1 == 0 <;> cases (l.getD i ([], 0, 0)).2.2 == 0 <;> simp
  exact spec_GoodGroups.eq l (by simp only [spec_GoodGroups.t]; exact key 0 (Nat.zero_le _))
theorem impl_GoodGroups_eq : impl_GoodGroups l = some (goodG l) := by
  have key : ∀ i, i ≤ l.length → impl_GoodGroups.l2 l l (l.length : Int) (i : Int) = some (allR (gatB l) i l.length && decide (l.length ≤ 60)) := by
    refine upto ?_ ?_
    · refine impl_GoodGroups.eq2 _ _ _ _ ?_
      have : decide ((l.length : Int) ≤ 60) = decide (l.length ≤ 60) := bool_eq (by simp only [decide_eq_true_eq]; omega)
      simp only [impl_GoodGroups.t2, ix_lt, Nat.lt_irrefl, decide_false, cond_false, allR_end, Bool.true_and, this]
    · intro i hi ih
      have h1 := hr _ (getD_mem ([], 0, 0) hi)
      refine impl_GoodGroups.eq2 _ _ _ _ ?_
      rw [allR_step _ hi, gatB_split]
      simp only [impl_GoodGroups.t2, ix_lt, ix_nn, ix_nat, dec_t hi, cond_true, impl_keyLength_eq, impl_isRowOf_eq _ _ h1, impl_isSum_eq, Option.bind_some, wrap_succ (show i < 9223372036854775807 by omega), ih]
      cases goodR (l.getD i ([], 0, 0)).1
      · rfl
      · cases ((l.getD i ([], 0, 0)).1.length : Int) == (klen l : Int)
        · rfl
        · cases sumB (l.getD i ([], 0, 0)).2.1
          · rfl
          · cases sumB (l.getD i ([], 0, 0)).2.2
            · rfl
            · by_cases h0 : i = 0
              · subst h0
                cases (l.getD 0 ([], 0, 0)).2.1 == 0 <;> cases (l.getD 0 ([], 0, 0)).2.2 == 0 <;> simp
              · have h2 : 0 < i := by omega
                have h3 : i - 1 < l.length := by omega
                have h4 : (i : Int) > 0 := by omega
                have h5 := hr _ (getD_mem ([], 0, 0) h3)
                simp only [dec_t h4, dec_f h0, bang_t, bang_f, cond_true, cond_false, wrap_pred h2 (by omega), ix_nn, ix_nat, dec_t h3, impl_compareRows_eq _ _ h5 h1, Option.bind_some, Bool.true_and, Bool.false_or]
                by_cases h6 : cmpL (l.getD (i - 1) ([], 0, 0)).1 (l.getD i ([], 0, 0)).1 ≥ 0
                · have h7 : ¬ cmpL (l.getD (i - 1) ([], 0, 0)).1 (l.getD i ([], 0, 0)).1 < 0 := by omega
                  simp only [dec_t h6, dec_f h7, cond_true]
                  cases (l.getD i ([], 0, 0)).2.1 == 0 <;> cases (l.getD i ([], 0, 0)).2.2 == 0 <;> rfl
                · have h7 : cmpL (l.getD (i - 1) ([], 0, 0)).1 (l.getD i ([], 0, 0)).1 < 0 := by omega
                  simp only [dec_f h6, dec_t h7, cond_false]
                  cases (l.getD i ([], 0, 0)).2.1 == 0 <;> cases (l.getD i ([], 0, 0)).2.2 == 0 <;> simp
  exact impl_GoodGroups.eq l (by simp only [impl_GoodGroups.t]; exact key 0 (Nat.zero_le _))
end
end GoV

/- A group put into sorted groups; groups handed on if they are good: the specification's ways. -/
namespace GoV
open Go
theorem pick_one {pre rest : List GRow} {r : List Int} {n1 n2 : Int} :
    (bif n1 != 0 then some (pre ++ [(r, n1, n2)] ++ rest) else bif n2 != 0 then some (pre ++ [(r, n1, n2)] ++ rest) else some (pre ++ rest)) = some (pre ++ (oneG r (n1, n2) ++ rest)) := by
  by_cases h1 : n1 = 0
  · have e1 : (n1 != 0) = false := by rw [h1]; rfl
    by_cases h2 : n2 = 0
    · have e2 : (n2 != 0) = false := by rw [h2]; rfl
      rw [e1, e2, cond_false, cond_false, oneG, if_pos (by rw [h1, h2]), List.nil_append]
    · have e2 : (n2 != 0) = true := bne_iff_ne.2 h2
      rw [e1, e2, cond_false, cond_true, oneG, if_neg (fun h => h2 (Prod.mk.inj h).2), List.append_assoc]
  · have e1 : (n1 != 0) = true := bne_iff_ne.2 h1
    rw [e1, cond_true, oneG, if_neg (fun h => h1 (Prod.mk.inj h).1), List.append_assoc]
section
variable {l : List GRow} {r : List Int} {n : Int × Int} (hl : l.length ≤ 1073741824) (hr : ∀ w, w ∈ l → w.1.length ≤ 1073741824) (hx : r.length ≤ 1073741824) (hn : ∀ w, w ∈ l → IntKind.i64.wrap (n.1 + w.2.1) = n.1 + w.2.1 ∧ IntKind.i64.wrap (n.2 + w.2.2) = n.2 + w.2.2)
include hl hr hx hn
theorem spec_l5Put_eq : spec_l5Put l r n.1 n.2 = some (putG l r n) := by
  have key : ∀ (rest pre : List GRow), l = pre ++ rest → spec_l5Put.l2 l r n.1 n.2 (pre.length : Int) = some (pre ++ putG rest r n) := by
    intro rest
    induction rest with
    | nil =>
      intro pre hp
      have e : pre = l := by rw [hp]; simp
      subst e
      refine spec_l5Put.eq2 _ _ _ _ _ ?_
      have h1 : (0 : Int) ≤ (pre.length : Int) := by omega
      have h2 : (pre.length : Int) ≤ (pre.length : Int) := Int.le_refl _
      have h3 : List.take ((pre.length : Int) - 0).toNat (List.drop (0 : Int).toNat pre) = pre := by
        rw [show ((pre.length : Int) - 0).toNat = pre.length by omega, show (0 : Int).toNat = 0 from rfl, List.drop_zero, List.take_length]
      have h4 : pre.length ≤ 4294967296 := by omega
      have h5 : pre.length + [(r, n.1, n.2)].length ≤ 4294967296 := by simp only [List.length_cons, List.length_nil]; omega
      have h6 : (pre ++ [(r, n.1, n.2)]).length + ([] : List GRow).length ≤ 4294967296 := by simp only [List.length_append, List.length_cons, List.length_nil]; omega
      have h7 : pre.length + ([] : List GRow).length ≤ 4294967296 := by simp only [List.length_nil]; omega
      simp only [spec_l5Put.t2, ix_lt, Nat.lt_irrefl, decide_false, cond_false, Option.getD_none, Option.getD_some, dec_t h1, dec_t h2, h3, dec_t h4, cond_true, spec_l2OwnRow_eq _ hx, Option.bind_some, ix_nat, List.drop_length, dec_t h5, dec_t h6, dec_t h7]
      refine pick_one.trans ?_
      rw [putG, List.append_nil]
    | cons w rest ih =>
      intro pre hp
      have hi : pre.length < l.length := by rw [hp]; simp
      have hg : l.getD pre.length ([], 0, 0) = w := by rw [hp]; exact getD_mid pre rest w _
      have hwm : w ∈ l := by rw [hp]; simp
      have hw := hr w hwm
      have hwr := hn w hwm
      have h1 : (0 : Int) ≤ (pre.length : Int) := by omega
      have h2 : (pre.length : Int) ≤ (l.length : Int) := by omega
      have h2' : ((pre.length + 1 : Nat) : Int) ≤ (l.length : Int) := by omega
      have h2'' : (0 : Int) ≤ ((pre.length + 1 : Nat) : Int) := by omega
      have h3 : List.take ((pre.length : Int) - 0).toNat (List.drop (0 : Int).toNat l) = pre := by
        rw [show ((pre.length : Int) - 0).toNat = pre.length by omega, show (0 : Int).toNat = 0 from rfl, List.drop_zero, hp, List.take_left]
      have h4 : pre.length ≤ 4294967296 := by omega
      have hdr : List.drop pre.length l = w :: rest := by rw [hp, List.drop_left]
      have hdr1 : List.drop (pre.length + 1) l = rest := by rw [← List.drop_drop, hdr]; rfl
      have hrl : rest.length + 1 + pre.length = l.length := by rw [hp]; simp; omega
      have hone : ∀ m k : Int, pre.length + [(r, m, k)].length ≤ 4294967296 := fun m k => by simp only [List.length_cons, List.length_nil]; omega
      have hall : ∀ (m k : Int), (pre ++ [(r, m, k)]).length + (w :: rest).length ≤ 4294967296 := fun m k => by simp only [List.length_append, List.length_cons, List.length_nil]; omega
      have hall1 : ∀ (m k : Int), (pre ++ [(r, m, k)]).length + rest.length ≤ 4294967296 := fun m k => by simp only [List.length_append, List.length_cons, List.length_nil]; omega
      have hsh : pre.length + (w :: rest).length ≤ 4294967296 := by simp only [List.length_cons]; omega
      have hsh1 : pre.length + rest.length ≤ 4294967296 := by omega
      refine spec_l5Put.eq2 _ _ _ _ _ ?_
      simp only [spec_l5Put.t2, ix_lt, ix_nn, ix_nat, dec_t hi, cond_true, hg, spec_l1Compare_eq _ _ hw hx, Option.bind_some, wrap_succ (show pre.length < 9223372036854775807 by omega), Option.getD_none, Option.getD_some, dec_t h1, dec_t h2, dec_t h2', dec_t h2'', h3, dec_t h4, spec_l2OwnRow_eq _ hx, hwr.1, hwr.2, hdr, hdr1, dec_t (hone _ _), dec_t (hall _ _), dec_t (hall1 _ _), dec_t hsh, dec_t hsh1, putG]
      by_cases hc : cmpL w.1 r < 0
      · simp only [dec_t hc, cond_true, if_pos hc]
        have := ih (pre ++ [w]) (by rw [hp]; simp)
        rw [List.length_append, List.length_singleton, List.append_assoc] at this
        exact this
      · simp only [dec_f hc, cond_false, if_neg hc]
        by_cases hz : cmpL w.1 r = 0
        · have : (cmpL w.1 r == 0) = true := by rw [hz]; rfl
          simp only [this, cond_true, if_pos hz]
          exact pick_one
        · have : (cmpL w.1 r == 0) = false := beq_eq_false_iff_ne.2 hz
          simp only [this, cond_false, if_neg hz]
          exact pick_one
  refine spec_l5Put.eq _ _ _ _ ?_
  simp only [spec_l5Put.t]
  exact key l [] rfl
end
theorem PutGK.wraps {M m : Int} {N : Nat} {l : List GRow} (h : PutGK M N l) {n : Int × Int} (hn : boxG m n) (hM : M + m ≤ 9223372036854775807) : ∀ w, w ∈ l → IntKind.i64.wrap (n.1 + w.2.1) = n.1 + w.2.1 ∧ IntKind.i64.wrap (n.2 + w.2.2) = n.2 + w.2.2 := fun w hw => by
  obtain ⟨⟨a1, a2⟩, a3, a4⟩ := h.wt w hw
  obtain ⟨⟨b1, b2⟩, b3, b4⟩ := hn
  exact ⟨wrap_id (by omega) (by omega), wrap_id (by omega) (by omega)⟩
theorem spec_l5Tell_eq {l : List GRow} (hl : l.length ≤ 1073741824) (hr : ∀ w, w ∈ l → w.1.length ≤ 1073741824) : spec_l5Tell l = some (bif goodG l then (l, true) else ([], false)) := by
  have e := spec_GoodGroups_eq hl hr
  refine spec_l5Tell.eq _ ?_
  simp only [spec_l5Tell.t, e, Option.bind_some]
  cases hg : goodG l with
  | false => simp only [bang_f, cond_true, cond_false]
  | true =>
    simp only [bang_t, cond_true, cond_false]
    have key : ∀ (r a : List GRow), a ++ r = l → spec_l5Tell.l5 a l (l.length : Int) (a.length : Int) = some (l, true) := by
      intro r
      induction r with
      | nil =>
        intro a ha
        rw [List.append_nil] at ha
        subst ha
        exact spec_l5Tell.eq5 _ _ _ _ (by simp only [spec_l5Tell.t5, ix_lt, Nat.lt_irrefl, decide_false, cond_false])
      | cons x r ih =>
        intro a ha
        have g : a.length < l.length := by rw [← ha, List.length_append, List.length_cons]; omega
        have hx : l.getD a.length ([], 0, 0) = x := by rw [← ha]; simp
        have hxl := hr x (by rw [← ha]; simp)
        have g2 : a.length + [(x.1, x.2.1, x.2.2)].length ≤ 4294967296 := by simp only [List.length_cons, List.length_nil]; omega
        have k := ih (a ++ [x]) (by rw [List.append_assoc]; exact ha)
        rw [List.length_append, List.length_singleton] at k
        refine spec_l5Tell.eq5 _ _ _ _ ?_
        simp only [spec_l5Tell.t5, ix_lt, ix_nn, ix_nat, dec_t g, cond_true, hx, spec_l2OwnRow_eq _ hxl, Option.bind_some, dec_t g2, wrap_succ (show a.length < 9223372036854775807 by omega)]
        exact k
    exact key l [] rfl
end GoV

/- Groups summed: what the program's 'grouped' gives. -/
namespace GoV
open Go
theorem slices_Grow_G_eq (n : Nat) (h : n ≤ 1073741824) : xs0c (n : Int) = some [] := by
  refine xs0c.eq _ ?_
  have h0 : ¬ (n : Int) < 0 := by omega
  have hw : IntKind.i64.wrap (n : Int) = (n : Int) := wrap_id (by omega) (by omega)
  simp only [xs0c.t, dec_f h0, cond_false, grow_n, hw]
  by_cases h1 : (n : Int) > 0
  · have h2 : (1 : Int) ≤ (n : Int) := by omega
    have h3 : (n : Int) ≤ ((4294967296 : Nat) : Int) := by omega
    simp only [dec_t h1, dec_t h2, dec_t h3, cond_true, Option.getD_none]
    rfl
  · simp only [dec_f h1, cond_false]
theorem slices_Concat_G_eq (ls : List (List GRow)) (h : ls.flatten.length ≤ 1073741824) (hl : ls.length ≤ 1073741824) : xs0e ls = some ls.flatten := by
  have k2 : ∀ i, i ≤ ls.length → ∀ acc : List GRow, acc.length + (ls.drop i).flatten.length ≤ 1073741824 → xs0e.l11 acc ls (ls.length : Int) (i : Int) = some (acc ++ (ls.drop i).flatten) := by
    refine upto ?_ ?_
    · intro acc _
      refine xs0e.eq11 _ _ _ _ ?_
      rw [List.drop_length, List.flatten_nil, List.append_nil]
      simp only [xs0e.t11, ix_lt, Nat.lt_irrefl, decide_false, cond_false]
    · intro i hi ih acc ha
      rw [flatten_drop hi, List.length_append] at ha
      refine xs0e.eq11 _ _ _ _ ?_
      have hb : acc.length + (ls.getD i []).length ≤ 4294967296 := by omega
      simp only [xs0e.t11, ix_lt, ix_nn, ix_nat, dec_t hi, cond_true, dec_t hb, wrap_succ (show i < 9223372036854775807 by omega)]
      rw [ih _ (by rw [List.length_append]; omega), flatten_drop hi, List.append_assoc]
  have k1 : ∀ i, i ≤ ls.length → ∀ n : Nat, n + (ls.drop i).flatten.length ≤ 1073741824 → xs0e.l3 ls (n : Int) ls (ls.length : Int) (i : Int) = some ls.flatten := by
    refine upto ?_ ?_
    · intro n hn
      refine xs0e.eq3 _ _ _ _ _ ?_
      have := k2 0 (Nat.zero_le _) [] (by simpa using h)
      rw [List.drop_zero, List.nil_append] at this
      simp only [xs0e.t3, ix_lt, Nat.lt_irrefl, decide_false, cond_false, slices_Grow_G_eq n (by omega), Option.bind_some]
      exact this
    · intro i hi ih n hn
      rw [flatten_drop hi, List.length_append] at hn
      refine xs0e.eq3 _ _ _ _ _ ?_
      have hw : IntKind.i64.wrap ((n : Int) + ((ls.getD i []).length : Int)) = ((n + (ls.getD i []).length : Nat) : Int) := by rw [wrap_id] <;> omega
      have h0 : ¬ ((n + (ls.getD i []).length : Nat) : Int) < 0 := by omega
      simp only [xs0e.t3, ix_lt, ix_nn, ix_nat, dec_t hi, cond_true, hw, dec_f h0, cond_false, wrap_succ (show i < 9223372036854775807 by omega)]
      exact ih _ (by omega)
  refine xs0e.eq ls ?_
  simp only [xs0e.t]
  exact k1 0 (Nat.zero_le _) 0 (by simpa using h)
theorem g2_eq (w : GRow) : impl_grouped_2 w.1 w.2.1 w.2.2 = some (!nzB w) := by
  refine impl_grouped_2.eq _ _ _ ?_
  simp only [impl_grouped_2.t, nzB, Bool.not_not]
  cases w.2.1 == 0 <;> rfl
theorem gidx_ok {l : List GRow} (hl : l.length ≤ 1073741824) : ∀ (n i : Nat), i + n = l.length → (∀ m, m < i → nzB (l.getD m ([], 0, 0)) = true) →
    (∃ k, k < l.length ∧ nzB (l.getD k ([], 0, 0)) = false ∧ (∀ m, m < k → nzB (l.getD m ([], 0, 0)) = true) ∧ xs07.l2 l (l.length : Int) (i : Int) = some (k : Int)) ∨
    ((∀ m, m < l.length → nzB (l.getD m ([], 0, 0)) = true) ∧ xs07.l2 l (l.length : Int) (i : Int) = some (-1))
  | 0, i, hi, h => by
    have e : i = l.length := by omega
    subst e
    exact .inr ⟨h, xs07.eq2 _ _ _ (by simp only [xs07.t2, ix_lt, Nat.lt_irrefl, decide_false, cond_false])⟩
  | n + 1, i, hi, h => by
    have g : i < l.length := by omega
    cases hk : nzB (l.getD i ([], 0, 0)) with
    | false => exact .inl ⟨i, g, hk, h, xs07.eq2 _ _ _ (by simp only [xs07.t2, ix_lt, ix_nn, ix_nat, dec_t g, cond_true, g2_eq, hk, Option.bind_some, bang_f])⟩
    | true =>
      have e : ∀ b, xs07.l2 l (l.length : Int) ((i + 1 : Nat) : Int) = some b → xs07.l2 l (l.length : Int) (i : Int) = some b := fun b hb =>
        xs07.eq2 _ _ _ (by
          simp only [xs07.t2, ix_lt, ix_nn, ix_nat, dec_t g, cond_true, cond_false, g2_eq, hk, Option.bind_some, bang_t, wrap_succ (show i < 9223372036854775807 by omega)]
          exact hb)
      rcases gidx_ok hl n (i + 1) (by omega) (fun m hm => by
        by_cases c : m < i
        · exact h m c
        · have : m = i := by omega
          rw [this]; exact hk) with ⟨k, k1, k2, k3, k4⟩ | ⟨k1, k2⟩
      · exact .inl ⟨k, k1, k2, k3, e _ k4⟩
      · exact .inr ⟨k1, e _ k2⟩
theorem take_cut {α : Type} {i : Nat} {L R : List α} (h : i ≤ L.length) : List.take (((i : Nat) : Int) - 0).toNat (List.drop (Int.toNat 0) (List.take i L ++ R)) = L.take i := by
  rw [show (((i : Nat) : Int) - 0).toNat = i by omega, show Int.toNat 0 = 0 from rfl, List.drop_zero, List.take_append_of_le_length (by rw [List.length_take]; omega), List.take_take, Nat.min_self]
theorem filt_step {l : List GRow} {j : Nat} (h : j < l.length) : (l.take (j + 1)).filter nzB = (l.take j).filter nzB ++ (bif nzB (l.getD j ([], 0, 0)) then [l.getD j ([], 0, 0)] else []) := by
  rw [List.take_succ_eq_append_getElem h, List.filter_append, ← getD_of_lt (z := (([], 0, 0) : GRow)) h]
  cases hk : nzB (l.getD j ([], 0, 0)) with
  | false => rw [cond_false, List.filter_cons_of_neg (by rw [hk]; simp), List.filter_nil]
  | true => rw [cond_true, List.filter_cons_of_pos hk, List.filter_nil]
theorem beq00 : Nat.beq 0 0 = true := rfl
section
variable {o : List GRow} (hl : o.length ≤ 1073741824)
include hl
theorem del_loop : ∀ (n j hi : Nat) (L : List GRow) (i : Nat), j + n = o.length → hi ≤ j → i < j → L.length = o.length → L.take i = (o.take j).filter nzB → L.drop j = o.drop j →
    xs03.l1005 i hi L (i : Int) (j : Int) = some (o.filter nzB)
  | 0, j, hi, L, i, h1, h2, h3, h4, h5, h6 => by
    have e : j = L.length := by omega
    subst e
    rw [h4, List.take_length] at h5
    have g1 : (0 : Int) ≤ (i : Int) := by omega
    have g2 : (i : Int) ≤ (L.length : Int) := by omega
    have g3 : ¬ (List.drop i L).length = 0 := by rw [List.length_drop]; omega
    have g4 : (i : Int) ≤ ((List.take i L ++ List.replicate (L.length - i) (([], 0, 0) : GRow)).length : Int) := by rw [List.length_append, List.length_take, List.length_replicate]; omega
    refine xs03.eq1005 _ _ _ _ _ ?_
    simp only [xs03.t1005, ix_lt, Nat.lt_irrefl, decide_false, cond_false, Option.getD_some, Option.getD_none, dec_t g1, dec_t g2, ix_nat, Nat.le_refl, decide_true, cond_true, dec_f g3, bang_f, dec_t g4, take_cut (show i ≤ L.length by omega)]
    rw [h5]
  | n + 1, j, hi, L, i, h1, h2, h3, h4, h5, h6 => by
    have g : j < L.length := by omega
    have go : j < o.length := by omega
    have gi : i < L.length := by omega
    have hx : L.getD j ([], 0, 0) = o.getD j ([], 0, 0) := by
      have a1 := drop_getD (([], 0, 0) : GRow) g
      have a2 := drop_getD (([], 0, 0) : GRow) go
      rw [h6, a2] at a1
      exact (List.cons.inj a1).1.symm
    have hd : L.drop (j + 1) = o.drop (j + 1) := by
      have a1 := drop_getD (([], 0, 0) : GRow) g
      have a2 := drop_getD (([], 0, 0) : GRow) go
      rw [h6, a2] at a1
      exact (List.cons.inj a1).2.symm
    have hf := filt_step go
    refine xs03.eq1005 _ _ _ _ _ ?_
    cases hk : nzB (o.getD j ([], 0, 0)) with
    | false =>
      rw [hk, cond_false, List.append_nil] at hf
      have ih := del_loop n (j + 1) hi L i (by omega) (by omega) (by omega) h4 (by rw [h5, hf]) hd
      simp only [xs03.t1005, ix_lt, ix_nn, ix_nat, dec_t g, cond_true, g2_eq, hx, hk, Option.bind_some, bang_f, bang_t, cond_false, wrap_succ (show j < 9223372036854775807 by omega)]
      exact ih
    | true =>
      rw [hk, cond_true] at hf
      have ih := del_loop n (j + 1) (j + 1) (L.set i (o.getD j ([], 0, 0))) (i + 1) (by omega) (by omega) (by omega) (by rw [List.length_set]; exact h4)
        (by
          rw [hf, ← h5, List.take_succ_eq_append_getElem (by rw [List.length_set]; exact gi), List.getElem_set_self, List.take_set_of_le (Nat.le_refl _)])
        (by rw [List.drop_set_of_lt (by omega)]; exact hd)
      simp only [xs03.t1005, ix_lt, ix_nn, ix_nat, dec_t g, dec_t gi, dec_t h3, dec_t h2, cond_true, g2_eq, hx, hk, Option.bind_some, bang_f, bang_t, decide_true, beq00, Bool.and_self, wrap_succ (show j < 9223372036854775807 by omega), wrap_succ (show i < 9223372036854775807 by omega)]
      exact ih
theorem del5_loop : ∀ (n j i : Nat), j + n = o.length → i < j → o.take i = (o.take j).filter nzB →
    xs03.l5 o (i : Int) (j : Int) = some (o.filter nzB)
  | 0, j, i, h1, h3, h5 => by
    have e : j = o.length := by omega
    subst e
    rw [List.take_length] at h5
    have g1 : (0 : Int) ≤ (i : Int) := by omega
    have g2 : (i : Int) ≤ (o.length : Int) := by omega
    have g3 : ¬ (List.drop i o).length = 0 := by rw [List.length_drop]; omega
    have g4 : (i : Int) ≤ ((List.take i o ++ List.replicate (o.length - i) (([], 0, 0) : GRow)).length : Int) := by rw [List.length_append, List.length_take, List.length_replicate]; omega
    refine xs03.eq5 _ _ _ ?_
    simp only [xs03.t5, ix_lt, Nat.lt_irrefl, decide_false, cond_false, Option.getD_some, Option.getD_none, dec_t g1, dec_t g2, ix_nat, cond_true, dec_f g3, bang_f, dec_t g4, take_cut (show i ≤ o.length by omega)]
    rw [h5]
  | n + 1, j, i, h1, h3, h5 => by
    have go : j < o.length := by omega
    have gi : i < o.length := by omega
    have hij : i ≤ j := by omega
    have hf := filt_step go
    refine xs03.eq5 _ _ _ ?_
    cases hk : nzB (o.getD j ([], 0, 0)) with
    | false =>
      rw [hk, cond_false, List.append_nil] at hf
      have ih := del5_loop n (j + 1) i (by omega) (by omega) (by rw [h5, hf])
      simp only [xs03.t5, ix_lt, ix_nn, ix_nat, dec_t go, cond_true, g2_eq, hk, Option.bind_some, bang_f, bang_t, cond_false, wrap_succ (show j < 9223372036854775807 by omega)]
      exact ih
    | true =>
      rw [hk, cond_true] at hf
      have ih := del_loop hl n (j + 1) (j + 1) (o.set i (o.getD j ([], 0, 0))) (i + 1) (by omega) (by omega) (by omega) (by rw [List.length_set])
        (by
          rw [hf, ← h5, List.take_succ_eq_append_getElem (by rw [List.length_set]; exact gi), List.getElem_set_self, List.take_set_of_le (Nat.le_refl _)])
        (by rw [List.drop_set_of_lt (by omega)])
      simp only [xs03.t5, ix_lt, ix_nn, ix_nat, dec_t go, dec_t gi, dec_t h3, dec_t hij, cond_true, g2_eq, hk, Option.bind_some, bang_f, bang_t, decide_true, beq00, Bool.and_self, wrap_succ (show j < 9223372036854775807 by omega), wrap_succ (show i < 9223372036854775807 by omega)]
      exact ih
theorem delete_eq : xs03 o = some (o.filter nzB) := by
  refine xs03.eq _ ?_
  have hall : ∀ k, k ≤ o.length → (∀ m, m < k → nzB (o.getD m ([], 0, 0)) = true) → (o.take k).filter nzB = o.take k := by
    intro k hk h
    refine List.filter_eq_self.2 fun w hw => ?_
    obtain ⟨m, hm, e⟩ := List.getElem_of_mem hw
    rw [List.length_take] at hm
    have := h m (by omega)
    rw [getD_of_lt (by omega)] at this
    rw [List.getElem_take] at e
    rw [← e]; exact this
  rcases gidx_ok hl o.length 0 (by omega) (fun m hm => by omega) with ⟨k, k1, k2, k3, k4⟩ | ⟨k1, k2⟩
  · have e := xs07.eq o (b := (k : Int)) (by simp only [xs07.t]; exact k4)
    have hne : ((k : Int) == -1) = false := beq_eq_false_iff_ne.2 (by omega)
    simp only [xs03.t, e, Option.bind_some, hne, cond_false, wrap_succ (show k < 9223372036854775807 by omega)]
    refine del5_loop hl (o.length - (k + 1)) (k + 1) k (by omega) (by omega) ?_
    rw [filt_step k1, k2, cond_false, List.append_nil, hall k (by omega) k3]
  · have e := xs07.eq o (b := -1) (by simp only [xs07.t]; exact k2)
    have := hall o.length (Nat.le_refl _) k1
    rw [List.take_length] at this
    simp only [xs03.t, e, Option.bind_some, beq_ref, cond_true, this]
end
/-- What is told in the end. -/
def finG (l : List GRow) : List GRow × Bool := bif goodG (l.filter nzB) then (l.filter nzB, true) else ([], false)
theorem fin_eq {o : List GRow} (hl : o.length ≤ 1073741824) (hr : Rows o) :
    ((xs03 o).bind fun r5 => (impl_GoodGroups r5).bind fun r6 => bif !r6 then some (([] : List GRow), false) else some (r5, true)) = some (finG o) := by
  have e := impl_GoodGroups_eq (l := o.filter nzB) (Nat.le_trans (List.length_filter_le _ _) hl) (fun w hw => hr w (List.mem_filter.1 hw).1)
  rw [delete_eq hl, Option.bind_some, e, Option.bind_some, finG]
  cases goodG (o.filter nzB) <;> rfl
theorem grp_loop {d : List GRow} {M : Int} (hl : d.length ≤ 1073741824) (hr : Rows d) (hM : 0 ≤ M) (hw : ∀ w, w ∈ d → boxG M w.2) (hbig : M * (d.length : Int) ≤ 9223372036854775807) :
    ∀ (n k : Nat) (pre : List GRow) (r : List Int) (s : Int × Int), k + n = d.length → pre.length + 1 ≤ k → r.length ≤ 1073741824 → Rows pre → boxG (M * (k : Int)) s →
      impl_grouped.l5 d (pre ++ [(r, s.1, s.2)]) (d.length : Int) (k : Int) = some (finG (pre ++ runG r s (d.drop k)))
  | 0, k, pre, r, s, hk, hp, hrl, hpr, hs => by
    have e : k = d.length := by omega
    subst e
    refine impl_grouped.eq5 _ _ _ _ ?_
    rw [List.drop_length, runG]
    simp only [impl_grouped.t5, ix_lt, Nat.lt_irrefl, decide_false, cond_false]
    exact fin_eq (by rw [List.length_append, List.length_singleton]; omega) (fun w hw => by
      rcases List.mem_append.1 hw with hw | hw
      · exact hpr w hw
      · rw [List.mem_singleton.1 hw]; exact hrl)
  | n + 1, k, pre, r, s, hk, hp, hrl, hpr, hs => by
    have g : k < d.length := by omega
    have hm := getD_mem (([], 0, 0) : GRow) g
    have hxr := hr _ hm
    have hxw := hw _ hm
    have eM : M * ((k + 1 : Nat) : Int) = M * (k : Int) + M := by rw [Int.natCast_succ, Int.mul_add, Int.mul_one]
    have h0 : 0 ≤ M * (k : Int) := Int.mul_nonneg hM (by omega)
    have hle : M * ((k + 1 : Nat) : Int) ≤ M * (d.length : Int) := Int.mul_le_mul_of_nonneg_left (by omega) hM
    rw [drop_getD ([], 0, 0) g, runG]
    generalize hx : d.getD k ([], 0, 0) = x at hxr hxw
    have hlast : ∀ y : GRow, (pre ++ [y]).length = pre.length + 1 := fun y => by rw [List.length_append, List.length_singleton]
    have hw1 : ∀ y : GRow, IntKind.i64.wrap (((pre ++ [y]).length : Int) - 1) = (pre.length : Int) := fun y => by rw [hlast, wrap_id (by omega) (by omega)]; omega
    have hge : (pre.length : Int) ≥ 0 := by omega
    have hlt : ∀ y : GRow, pre.length < (pre ++ [y]).length := fun y => by rw [hlast]; omega
    have hget : ∀ y : GRow, (pre ++ [y]).getD pre.length ([], 0, 0) = y := fun y => getD_mid pre [] y _
    have hset : ∀ y y2 : GRow, (pre ++ [y]).set pre.length y2 = pre ++ [y2] := fun y y2 => set_mid pre [] y y2
    have hpush : ∀ y y2 : GRow, (pre ++ [y]).length + [y2].length ≤ 4294967296 := fun y y2 => by rw [hlast, List.length_singleton]; omega
    obtain ⟨⟨b1, b2⟩, b3, b4⟩ := hs
    obtain ⟨⟨c1, c2⟩, c3, c4⟩ := hxw
    have w1 : IntKind.i64.wrap (s.1 + x.2.1) = s.1 + x.2.1 := wrap_id (by omega) (by omega)
    have w2 : IntKind.i64.wrap (s.2 + x.2.2) = s.2 + x.2.2 := wrap_id (by omega) (by omega)
    refine impl_grouped.eq5 _ _ _ _ ?_
    simp only [impl_grouped.t5, ix_lt, ix_nn, ix_nat, dec_t g, cond_true, hx, hw1, dec_t hge, dec_t (hlt _), hget, hset, impl_compareRows_eq _ _ hrl hxr, Option.bind_some, w1, w2, impl_Row_own_eq _ hxr, dec_t (hpush _ _), wrap_succ (show k < 9223372036854775807 by omega)]
    by_cases hz : cmpL x.1 r = 0
    · have hz2 : (cmpL r x.1 == 0) = true := by rw [cmpL_zero.1 hz, cmpL_refl]; rfl
      rw [hz2, cond_true, if_pos hz]
      exact grp_loop hl hr hM hw hbig n (k + 1) pre r (addP s x.2) (by omega) (by omega) hrl hpr (by rw [eM, Int.add_comm]; exact boxG_add ⟨⟨b1, b2⟩, b3, b4⟩ ⟨⟨c1, c2⟩, c3, c4⟩)
    · have hz2 : (cmpL r x.1 == 0) = false := beq_eq_false_iff_ne.2 fun h => hz (cmpL_zero.2 (cmpL_zero.1 h).symm)
      rw [hz2, cond_false, if_neg hz]
      have ih := grp_loop hl hr hM hw hbig n (k + 1) (pre ++ [(r, s.1, s.2)]) x.1 x.2 (by omega) (by rw [hlast]; omega) hxr (fun w hw => by
        rcases List.mem_append.1 hw with hw | hw
        · exact hpr w hw
        · rw [List.mem_singleton.1 hw]; exact hrl) (boxG_mono ⟨⟨c1, c2⟩, c3, c4⟩ (by rw [eM]; omega))
      have ea : pre ++ [(r, s.1, s.2)] ++ runG x.1 x.2 (d.drop (k + 1)) = pre ++ (r, s) :: runG x.1 x.2 (d.drop (k + 1)) := by rw [List.append_assoc]; rfl
      rw [ea] at ih
      exact ih
theorem impl_grouped_eq {M : Int} {ls : List (List GRow)} {a b : List GRow} (he : ls.flatten = a ++ b) (hn : ls.length ≤ 1073741824) (hl : ls.flatten.length ≤ 1073741824) (hr : Rows ls.flatten) (hM : 0 ≤ M) (hw : ∀ w, w ∈ ls.flatten → boxG M w.2) (hbig : M * (ls.flatten.length : Int) ≤ 9223372036854775807)
    (h1 : sortedG a) (h2 : nzG a) : impl_grouped ls = some (bif goodG (putsG a b) then (putsG a b, true) else ([], false)) := by
  have e1 := slices_Concat_G_eq ls hl hn
  obtain ⟨d, e2, hp, hs⟩ := sort_ok (d := ls.flatten) hl hr
  have hlen : d.length = ls.flatten.length := hp.length_eq
  have hdr : Rows d := hr.perm hp
  have hdw : ∀ w, w ∈ d → boxG M w.2 := fun w hw' => hw w (hp.mem_iff.1 hw')
  have hfin : ∀ X : List GRow, X.filter nzB = putsG a b → finG X = (bif goodG (putsG a b) then (putsG a b, true) else ([], false)) := fun X h => by rw [finG, h]
  have hg := groupG_puts (by rw [← he]; exact hp) hs h1 h2
  refine impl_grouped.eq ls ?_
  simp only [impl_grouped.t, e1, e2, Option.bind_some]
  rw [← hfin _ hg]
  have hw1 : ¬ IntKind.i64.wrap ((([] : List GRow).length : Int) - 1) ≥ 0 := by decide
  refine impl_grouped.eq5 _ _ _ _ ?_
  cases d with
  | nil =>
    simp only [impl_grouped.t5, List.length_nil, ix_lt, Nat.lt_irrefl, decide_false, cond_false]
    first
      | exact fin_eq (o := []) (by simp) (fun w hw => by cases hw)
      | (simp only [groupG]; exact fin_eq (o := []) (by simp) (fun w hw => by cases hw))
  | cons x r =>
    have g : 0 < (x :: r).length := by simp
    have hx : (x :: r).getD 0 ([], 0, 0) = x := rfl
    have hxr := hdr x (by simp)
    have g2 : ([] : List GRow).length + [(x.1, x.2.1, x.2.2)].length ≤ 4294967296 := by simp
    have k := grp_loop (d := x :: r) (by omega) hdr hM hdw (by rw [hlen]; exact hbig) r.length 1 [] x.1 x.2 (by simp; omega) (by simp) hxr (fun w hw => by cases hw) (by
      have := hdw x (by simp)
      simpa using this)
    have g' : (0 : Int) < (((x :: r).length : Nat) : Int) := by omega
    have gz : Int.toNat 0 < (x :: r).length := g
    simp only [impl_grouped.t5, dec_t g', Int.le_refl, decide_true, cond_true, dec_t gz, dec_f hw1, cond_false, toNat0g, hx, impl_Row_own_eq _ hxr, Option.bind_some, dec_t g2]
    exact k
end GoV

/- Tables that are good, with as many columns. -/
namespace GoV
open Go
def alikeB (c : Int) (a : List WRow) (d : Int) (b : List WRow) : Bool := goodT c a && (goodT d b && (c == d))
end GoV

/- Some cells of a row; numbers of columns (beside groups). -/
namespace GoV
open Go
def pickR (r cs : List Int) : List Int := cs.map fun k => r.getD k.toNat 0
def pickG (r : List Int) (k : Int) : List Int := [r.getD k.toNat 0]
theorem pickG_map (r : List Int) : ∀ cs : List Int, cs.flatMap (pickG r) = pickR r cs
  | [] => rfl
  | k :: cs => by rw [List.flatMap_cons, pickG_map r cs]; rfl
theorem pickR_len (r cs : List Int) : (pickR r cs).length = cs.length := by simp [pickR]
theorem spec_l1Pick_eq {r cs : List Int} (hl : cs.length ≤ 1073741824) (h : ∀ k, k ∈ cs → 0 ≤ k ∧ k.toNat < r.length) : spec_l1Pick r cs = some (pickR r cs) := by
  refine spec_l1Pick.eq r cs ?_
  simp only [spec_l1Pick.t]
  rw [← pickG_map]
  refine push_loop cs 0 (fun acc i => spec_l1Pick.l3 r [] acc cs (cs.length : Int) (i : Int)) (pickG r) (fun _ => Nat.le_refl _) some ?_ ?_ _ rfl
  · intro acc b _ hb
    exact spec_l1Pick.eq3 _ _ _ _ _ _ (by simp only [spec_l1Pick.t3, ix_lt, Nat.lt_irrefl, decide_false, cond_false]; exact hb)
  · intro acc i b hi ha hb
    obtain ⟨h1, h2⟩ := h _ (getD_mem 0 hi)
    refine spec_l1Pick.eq3 _ _ _ _ _ _ ?_
    have h3 : acc.length + [r.getD (cs.getD i 0).toNat 0].length ≤ 4294967296 := by simp only [List.length_cons, List.length_nil]; omega
    simp only [spec_l1Pick.t3, ix_lt, ix_nn, ix_nat, dec_t hi, dec_t h1, dec_t h2, dec_t h3, cond_true, wrap_succ (show i < 9223372036854775807 by omega)]
    exact hb
theorem impl_Row_picked_eq {r cs : List Int} (hl : cs.length ≤ 1073741824) (h : ∀ k, k ∈ cs → 0 ≤ k ∧ k.toNat < r.length) : impl_Row_picked r cs = some (pickR r cs) := by
  refine impl_Row_picked.eq r cs ?_
  simp only [impl_Row_picked.t]
  rw [← pickG_map]
  refine push_loop cs 0 (fun acc i => impl_Row_picked.l3 r [] acc cs (cs.length : Int) (i : Int)) (pickG r) (fun _ => Nat.le_refl _) some ?_ ?_ _ rfl
  · intro acc b _ hb
    exact impl_Row_picked.eq3 _ _ _ _ _ _ (by simp only [impl_Row_picked.t3, ix_lt, Nat.lt_irrefl, decide_false, cond_false]; exact hb)
  · intro acc i b hi ha hb
    obtain ⟨h1, h2⟩ := h _ (getD_mem 0 hi)
    refine impl_Row_picked.eq3 _ _ _ _ _ _ ?_
    have h3 : acc.length + [r.getD (cs.getD i 0).toNat 0].length ≤ 4294967296 := by simp only [List.length_cons, List.length_nil]; omega
    simp only [impl_Row_picked.t3, ix_lt, ix_nn, ix_nat, dec_t hi, dec_t h1, dec_t h2, dec_t h3, cond_true, wrap_succ (show i < 9223372036854775807 by omega)]
    exact hb
def plB (n k : Int) : Bool := decide (0 ≤ k) && decide (k < n)
theorem plB_iff {n k : Int} : plB n k = true ↔ 0 ≤ k ∧ k < n := by simp [plB]
def colsB (n : Int) (cs : List Int) : Bool := cs.all (plB n) && decide (cs.length ≤ 6)
theorem impl_isPlace_eq' (x c : Int) : impl_isPlace x c = some (plB c x) := by
  refine impl_isPlace.eq x c ?_
  simp only [impl_isPlace.t, plB]
  by_cases h : 0 ≤ x
  · have h' : x ≥ 0 := h
    simp only [dec_t h, dec_t h', cond_true, Bool.true_and]
  · have h' : ¬ x ≥ 0 := h
    simp only [dec_f h, dec_f h', cond_false, Bool.false_and]
theorem lenDec (n k : Nat) : decide ((n : Int) ≤ (k : Int)) = decide (n ≤ k) := by
  by_cases h : n ≤ k
  · rw [dec_t h, dec_t (by omega)]
  · rw [dec_f h, dec_f (by omega)]
theorem spec_l1Columns_eq (cs : List Int) (n : Int) (hl : cs.length ≤ 1073741824) : spec_l1Columns cs n = some (colsB n cs) := by
  refine spec_l1Columns.eq cs n ?_
  simp only [spec_l1Columns.t]
  have := all_loop cs 0 (fun i => spec_l1Columns.l2 cs n cs (cs.length : Int) (i : Int)) (plB n) false (decide (cs.length ≤ 6)) ?_ ?_ ?_
  · refine Eq.trans this ?_
    simp only [colsB]
    cases cs.all (plB n) <;> rfl
  · exact spec_l1Columns.eq2 _ _ _ _ _ (by simp only [spec_l1Columns.t2, ix_lt, Nat.lt_irrefl, decide_false, cond_false]; exact congrArg some (lenDec cs.length 6))
  · intro i hi hb
    refine spec_l1Columns.eq2 _ _ _ _ _ ?_
    simp only [spec_l1Columns.t2, ix_lt, ix_nn, ix_nat, dec_t hi, cond_true]
    by_cases h1 : cs.getD i 0 < 0
    · simp only [dec_t h1, cond_true]
    · have h2 : cs.getD i 0 ≥ n := by
        apply Classical.byContradiction
        intro h2
        rw [plB_iff.2 ⟨by omega, by omega⟩] at hb
        cases hb
      simp only [dec_f h1, dec_t h2, cond_true, cond_false]
  · intro i c hi hb hc
    refine spec_l1Columns.eq2 _ _ _ _ _ ?_
    obtain ⟨h1, h2⟩ := plB_iff.1 hb
    have h3 : ¬ cs.getD i 0 < 0 := by omega
    have h4 : ¬ cs.getD i 0 ≥ n := by omega
    simp only [spec_l1Columns.t2, ix_lt, ix_nn, ix_nat, dec_t hi, cond_true, dec_f h3, dec_f h4, cond_false, wrap_succ (show i < 9223372036854775807 by omega)]
    exact hc
theorem impl_areColumns_eq (cs : List Int) (n : Int) (hl : cs.length ≤ 1073741824) : impl_areColumns cs n = some (colsB n cs) := by
  refine impl_areColumns.eq cs n ?_
  have e := xi0f_ok cs n (plB n) (by omega) (fun x _ => impl_areColumns_1.eq _ _ (by simp only [impl_areColumns_1.t, impl_isPlace_eq', Option.bind_some]))
  have e2 : decide ((cs.length : Int) ≤ 6) = decide (cs.length ≤ 6) := lenDec cs.length 6
  simp only [impl_areColumns.t, e, e2, Option.bind_some, colsB]
  by_cases h : cs.length ≤ 6
  · simp only [dec_t h, cond_true, Bool.and_true]
  · simp only [dec_f h, cond_false, Bool.and_false]
end GoV

/- Groups made of rows, and told: one way by putting in, the other by sorting. -/
namespace GoV
open Go
def tellG (l : List GRow) : List GRow × Bool := bif goodG l then (l, true) else ([], false)
theorem tellG_size (l : List GRow) : szT groupsTy (tellG l).1 ≤ 1073741824 := by
  unfold tellG
  cases h : goodG l with
  | false => simp [szT]
  | true => exact goodG_size h
theorem boxG_zero {m : Int} (hm : 0 ≤ m) : boxG m (0, 0) := ⟨⟨by show -m ≤ 0; omega, hm⟩, by show -m ≤ 0; omega, hm⟩
theorem group_rows {g : GRow} {l : List GRow} (h : goodG l = true) (hg : g ∈ l) : g.1.length = klen l ∧ g.1.length ≤ 6 ∧ boxG 100000000000000 g.2 := by
  have h1 := grB_iff.1 ((goodG_iff.1 h).2.1 g hg)
  have h2 := (goodG_rows h).2 g hg
  exact ⟨h1.2.1, h2.1, ⟨h2.2.1.1, h2.2.1.2⟩⟩
theorem PutGK.good {l : List GRow} (h : goodG l = true) : PutGK 100000000000000 60 l :=
  ⟨(goodG_rows h).1, fun w hw => by have := (group_rows h hw).2.1; omega, fun w hw => (group_rows h hw).2.2⟩
theorem grouped_one {m : Int} {l : List GRow} (hm : 0 ≤ m) (hl : l.length ≤ 1000) (hr : ∀ w, w ∈ l → w.1.length ≤ 1073741824) (hw : ∀ w, w ∈ l → boxG m w.2) (hbig : m ≤ 100000000000000) : impl_grouped [l] = some (tellG (putsG [] l)) := by
  have e : [l].flatten = [] ++ l := by simp
  have e2 : [l].flatten = l := by simp
  have hmul : m * ((l.length : Nat) : Int) ≤ 100000000000000 * 1000 := Int.le_trans (Int.mul_le_mul_of_nonneg_right hbig (by omega)) (Int.mul_le_mul_of_nonneg_left (by omega) (by omega))
  exact impl_grouped_eq (M := m) e (by simp) (by rw [e2]; omega) (by rw [e2]; exact hr) hm (by rw [e2]; exact hw) (by rw [e2]; omega) .nil (fun w hw => by cases hw)
theorem tell_eq {M : Int} {N : Nat} {l : List GRow} (h : PutGK M N l) (hN : N ≤ 1073741824) : spec_l5Tell l = some (tellG l) := spec_l5Tell_eq (by have := h.len; omega) h.row
end GoV

/- GroupTable: the program's answer is the specification's. -/
namespace GoV
open Go
def cellG (cs : List Int) (k : Int) (w : WRow) : GRow := (pickR w.1 cs, (w.2, w.2 * w.1.getD k.toNat 0))
section
variable {c : Int} {l : List WRow} {cs : List Int} {k : Int} (hg : goodT c l = true) (hc : colsB c cs = true) (hk : 0 ≤ k ∧ k < c)
include hg hc hk
theorem cell_fit : l.length ≤ 60 ∧ cs.length ≤ 6 ∧ ∀ w, w ∈ l → (∀ q, q ∈ cs → 0 ≤ q ∧ q.toNat < w.1.length) ∧ k.toNat < w.1.length ∧ boxG 100000000000 (cellG cs k w).2 := by
  obtain ⟨_, h1, h2, _⟩ := goodT_iff.1 hg
  simp only [colsB, Bool.and_eq_true, decide_eq_true_eq] at hc
  refine ⟨h1, hc.2, fun w hw => ?_⟩
  obtain ⟨h5, h3, h4, _⟩ := rowB_iff.1 (h2 w hw)
  have hkl : k.toNat < w.1.length := by omega
  have hcell : -100000 ≤ w.1.getD k.toNat 0 ∧ w.1.getD k.toNat 0 ≤ 100000 := by
    simp only [goodR, Bool.and_eq_true] at h5
    exact inB_iff.1 (List.all_eq_true.1 h5.1 _ (getD_mem (0 : Int) hkl))
  refine ⟨fun q hq => ?_, hkl, ?_⟩
  · have := plB_iff.1 (List.all_eq_true.1 hc.1 q hq)
    omega
  · have hm : (w.2 * w.1.getD k.toNat 0).natAbs ≤ 1000000 * 100000 := by
      rw [Int.natAbs_mul]
      exact Nat.mul_le_mul (by omega) (by omega)
    have hx : -100000000000 ≤ w.2 * w.1.getD k.toNat 0 ∧ w.2 * w.1.getD k.toNat 0 ≤ 100000000000 := by
      generalize w.2 * w.1.getD k.toNat 0 = y at hm
      omega
    exact ⟨⟨by show -100000000000 ≤ w.2; omega, by show w.2 ≤ 100000000000; omega⟩, hx⟩
theorem cells_spec : spec_GroupTable.l5 cs k [] l (l.length : Int) 0 = some (tellG (putsG [] (l.map (cellG cs k)))) := by
  obtain ⟨hb, hcl, hf⟩ := cell_fit hg hc hk
  have e : putsG [] (l.map (cellG cs k)) = l.foldl (fun acc w => putG acc (pickR w.1 cs) (cellG cs k w).2) [] := by rw [putsG, List.foldl_map]; rfl
  rw [e]
  refine putsG_loop l ([], 0) (fun w => pickR w.1 cs) (fun w => (cellG cs k w).2) (fun acc i => spec_GroupTable.l5 cs k acc l (l.length : Int) (i : Int)) (fun acc => some (tellG acc)) (M := 0) (m := 100000000000) (N := 0) (by omega) (by omega) (fun g _ => by rw [pickR_len]; omega) (fun w hw => (hf w hw).2.2) ?_ ?_ [] _ PutGK.nil rfl
  · intro acc r ha hr
    refine spec_GroupTable.eq5 _ _ _ _ _ _ ?_
    simp only [spec_GroupTable.t5, ix_lt, Nat.lt_irrefl, decide_false, cond_false, tell_eq ha (by omega), Option.bind_some]
    exact hr
  · intro acc i r hi ha hr
    have hm := getD_mem (([], 0) : WRow) hi
    obtain ⟨f1, f2, f3⟩ := hf _ hm
    have hw : IntKind.i64.wrap ((l.getD i ([], 0)).2 * (l.getD i ([], 0)).1.getD k.toNat 0) = (l.getD i ([], 0)).2 * (l.getD i ([], 0)).1.getD k.toNat 0 := by
      obtain ⟨_, q1, q2⟩ := f3
      simp only [cellG] at q1 q2
      exact wrap_id (by omega) (by omega)
    have e := spec_l5Put_eq (l := acc) (r := pickR (l.getD i ([], 0)).1 cs) (n := (cellG cs k (l.getD i ([], 0))).2) (by have := ha.len; omega) ha.row (by rw [pickR_len]; omega) (ha.wraps (m := 100000000000) f3 (by omega))
    simp only [cellG] at e
    refine spec_GroupTable.eq5 _ _ _ _ _ _ ?_
    simp only [spec_GroupTable.t5, ix_lt, ix_nn, ix_nat, dec_t hi, cond_true, spec_l1Pick_eq (show cs.length ≤ 1073741824 by omega) f1, dec_t hk.1, dec_t f2, hw, e, Option.bind_some, wrap_succ (show i < 9223372036854775807 by omega)]
    exact hr
theorem cells_impl : impl_GroupTable.l5 cs k [] l (l.length : Int) 0 = some (tellG (putsG [] (l.map (cellG cs k)))) := by
  obtain ⟨hb, hcl, hf⟩ := cell_fit hg hc hk
  have key : ∀ (n i : Nat) (acc : List GRow), i + n = l.length → acc = (l.take i).map (cellG cs k) → impl_GroupTable.l5 cs k acc l (l.length : Int) (i : Int) = some (tellG (putsG [] (l.map (cellG cs k)))) := by
    intro n
    induction n with
    | zero =>
      intro i acc hi ha
      have e : i = l.length := by omega
      subst e
      rw [List.take_length] at ha
      subst ha
      have e := grouped_one (m := 100000000000) (l := l.map (cellG cs k)) (by omega) (by rw [List.length_map]; omega) (fun w hw => by
        obtain ⟨g, _, rfl⟩ := List.mem_map.1 hw
        show (pickR g.1 cs).length ≤ _
        rw [pickR_len]; omega) (fun w hw => by
        obtain ⟨g, hg2, rfl⟩ := List.mem_map.1 hw
        exact (hf g hg2).2.2) (by omega)
      refine impl_GroupTable.eq5 _ _ _ _ _ _ ?_
      simp only [impl_GroupTable.t5, ix_lt, Nat.lt_irrefl, decide_false, cond_false, e, Option.bind_some]
    | succ n ih =>
      intro i acc hi ha
      have g : i < l.length := by omega
      have hm := getD_mem (([], 0) : WRow) g
      obtain ⟨f1, f2, f3⟩ := hf _ hm
      have hw : IntKind.i64.wrap ((l.getD i ([], 0)).2 * (l.getD i ([], 0)).1.getD k.toNat 0) = (l.getD i ([], 0)).2 * (l.getD i ([], 0)).1.getD k.toNat 0 := by
        obtain ⟨_, q1, q2⟩ := f3
        simp only [cellG] at q1 q2
        exact wrap_id (by omega) (by omega)
      have hal : acc.length ≤ i := by rw [ha, List.length_map, List.length_take]; omega
      have h2 : ∀ y : GRow, acc.length + [y].length ≤ 4294967296 := fun y => by rw [List.length_singleton]; omega
      refine impl_GroupTable.eq5 _ _ _ _ _ _ ?_
      simp only [impl_GroupTable.t5, ix_lt, ix_nn, ix_nat, dec_t g, cond_true, impl_Row_picked_eq (show cs.length ≤ 1073741824 by omega) f1, dec_t hk.1, dec_t f2, hw, Option.bind_some, dec_t (h2 _), wrap_succ (show i < 9223372036854775807 by omega)]
      refine ih (i + 1) _ (by omega) ?_
      rw [ha, List.take_succ_eq_append_getElem g, List.map_append, ← getD_of_lt (z := (([], 0) : WRow)) g]
      rfl
  exact key l.length 0 [] (by omega) rfl
end
theorem FnExactGroupTable_same (v0 : Int) (v1 : List (List Int × Int)) (v2 : List Int) (v3 : Int) (w0 : WfT (.pair (.int .i64) (.sl (.pair (.sl (.int .i64)) (.int .i64)))) (v0, v1)) (hz0 : szT (.pair (.int .i64) (.sl (.pair (.sl (.int .i64)) (.int .i64)))) (v0, v1) ≤ 1048576)
    (w1 : WfT (.sl (.int .i64)) v2) (hz1 : szT (.sl (.int .i64)) v2 ≤ 1048576) (w2 : WfT (.int .i64) v3) (hz2 : szT (.int .i64) v3 ≤ 1048576) :
    ∃ (a : List (List Int × Int × Int)) (ok : Bool), spec_GroupTable v0 v1 v2 v3 = some (a, ok) ∧ impl_GroupTable v0 v1 v2 v3 = some (a, ok) ∧ szT (.sl (.pair (.sl (.int .i64)) (.pair (.int .i64) (.int .i64)))) a ≤ 1073741824 := by
  obtain ⟨h1, h2⟩ := tab_len hz0
  have hl : v1.length ≤ 1073741824 := by omega
  have hr : ∀ w, w ∈ v1 → w.1.length ≤ 1073741824 := fun w hw => by have := h2 w hw; omega
  have hcl : v2.length ≤ 1073741824 := by
    have := szT_len (t := .int .i64) (l := v2)
    omega
  have e1 := spec_GoodTable_eq (c := v0) hl hr
  have e2 := impl_GoodTable_eq (c := v0) hl hr
  have e3 := spec_l1Columns_eq v2 v0 hcl
  have e4 := impl_areColumns_eq v2 v0 hcl
  have none : szT (.sl (.pair (.sl (.int .i64)) (.pair (.int .i64) (.int .i64)))) ([] : List GRow) ≤ 1073741824 := by simp [szT]
  cases hg : goodT v0 v1 with
  | false => exact ⟨[], false, spec_GroupTable.eq _ _ _ _ (by simp only [spec_GroupTable.t, e1, hg, Option.bind_some, bang_f, cond_true]), impl_GroupTable.eq _ _ _ _ (by simp only [impl_GroupTable.t, e2, hg, Option.bind_some, bang_f, cond_true]), none⟩
  | true =>
    cases hc : colsB v0 v2 with
    | false => exact ⟨[], false, spec_GroupTable.eq _ _ _ _ (by simp only [spec_GroupTable.t, e1, hg, e3, hc, Option.bind_some, bang_t, bang_f, cond_true, cond_false]), impl_GroupTable.eq _ _ _ _ (by simp only [impl_GroupTable.t, e2, hg, e4, hc, Option.bind_some, bang_t, bang_f, cond_true, cond_false]), none⟩
    | true =>
      obtain ⟨⟨q0, q6⟩, _⟩ := goodT_iff.1 hg
      have hw : IntKind.i64.wrap (v0 - 1) = v0 - 1 := wrap_id (by omega) (by omega)
      by_cases hk : 0 ≤ v3 ∧ v3 < v0
      · have es := cells_spec hg hc hk
        have ei := cells_impl hg hc hk
        have b1 : inB 0 (v0 - 1) v3 = true := inB_iff.2 (by omega)
        have n1 : ¬ v3 < 0 := by omega
        have n2 : ¬ v3 ≥ v0 := by omega
        exact ⟨_, _, spec_GroupTable.eq _ _ _ _ (by
          simp only [spec_GroupTable.t, e1, hg, e3, hc, dec_f n1, dec_f n2, Option.bind_some, bang_t, cond_false]
          exact es), impl_GroupTable.eq _ _ _ _ (by
          simp only [impl_GroupTable.t, e2, hg, e4, hc, impl_within_eq, hw, b1, Option.bind_some, bang_t, cond_false]
          exact ei), tellG_size _⟩
      · have b1 : inB 0 (v0 - 1) v3 = false := by
          cases h : inB 0 (v0 - 1) v3
          · rfl
          · have := inB_iff.1 h; omega
        have es : spec_GroupTable v0 v1 v2 v3 = some ([], false) := by
          refine spec_GroupTable.eq _ _ _ _ ?_
          by_cases n1 : v3 < 0
          · simp only [spec_GroupTable.t, e1, hg, e3, hc, dec_t n1, Option.bind_some, bang_t, cond_false, cond_true]
          · have n2 : v3 ≥ v0 := by omega
            simp only [spec_GroupTable.t, e1, hg, e3, hc, dec_f n1, dec_t n2, Option.bind_some, bang_t, cond_false, cond_true]
        exact ⟨[], false, es, impl_GroupTable.eq _ _ _ _ (by simp only [impl_GroupTable.t, e2, hg, e4, hc, impl_within_eq, hw, b1, Option.bind_some, bang_t, bang_f, cond_false, cond_true]), none⟩
end GoV

/- FnExactGroupTable: the law out of its core. -/
namespace GoV
open Go
theorem FnExactGroupTable_true (v0 : Int) (v1 : List (List Int × Int)) (v2 : List Int) (v3 : Int) (w0 : WfT (.pair (.int .i64) (.sl (.pair (.sl (.int .i64)) (.int .i64)))) (v0, v1)) (w1 : WfT (.sl (.int .i64)) v2) (w2 : WfT (.int .i64) v3) : xl0i v0 v1 v2 v3 = some true := by
  by_cases b1 : ((v2.length : Int) > (1048576 : Int))
  · exact xl0i.eq v0 v1 v2 v3 (by simp only [xl0i.t, dec_t b1, cond_true, cond_false, Option.bind_some])
  have z1 : szT (.sl (.int .i64)) v2 ≤ 1048576 := by rw [szT_sl_flat (t := (.int .i64)) v2 rfl]; omega
  obtain ⟨left2, e2, a2, b2z⟩ := laws_szTable_ok (v0) (v1) ((1048576 : Int)) w0 (by omega) (by omega)
  by_cases n2 : left2 < 0
  · exact xl0i.eq v0 v1 v2 v3 (by simp only [xl0i.t, dec_f b1, e2, dec_t n2, cond_true, cond_false, Option.bind_some])
  have z2a := b2z (by omega)
  have hz0 : szT (.pair (.int .i64) (.sl (.pair (.sl (.int .i64)) (.int .i64)))) (v0, v1) ≤ 1048576 := by omega
  have hz1 : szT (.sl (.int .i64)) v2 ≤ 1048576 := by omega
  have hz2 : szT (.int .i64) v3 ≤ 1048576 := by simp only [szT]; omega
  obtain ⟨ga, gb, hspec, himpl, hsm⟩ := FnExactGroupTable_same v0 v1 v2 v3 w0 hz0 w1 hz1 w2 hz2
  -- the answer is small
  have e3 := laws_toTable_id (v0) (v1) (by omega)
  have e4 := laws_toIntS_id (v2) (by omega)
  have e6 := laws_toTable_id (v0) (v1) (by omega)
  have e7 := laws_toIntS_id (v2) (by omega)
  have e9 := laws_eqGroupS_rf (ga) (by first | omega | (simp only [szT] at *; omega))
  have e10 := laws_toTable_id (v0) (v1) (by omega)
  have e11 := laws_eqTable_rf (v0) (v1) (by first | omega | (simp only [szT] at *; omega))
  have e12 := laws_toIntS_id (v2) (by omega)
  have e13 := laws_eqIntS_rf (v2) (by first | omega | (simp only [szT] at *; omega))
  have q14 := cntT_le (T := (.pair (.int .i64) (.sl (.pair (.sl (.int .i64)) (.int .i64))))) (v0, v1) rfl
  simp only [Ty.size] at q14
  have e14 := laws_markTable_d7a_ok (v0) (v1) ((1 : Int)) (by omega) (by omega) (by omega)
  have p14 := mrT_cnt (.pair (.int .i64) (.sl (.pair (.sl (.int .i64)) (.int .i64)))) (v0, v1) (1 : Int)
  have g14 : ¬ (mrT (.pair (.int .i64) (.sl (.pair (.sl (.int .i64)) (.int .i64)))) (v0, v1) (1 : Int)).2 < 0 := by omega
  have q15 := cntT_le (T := (.sl (.int .i64))) v2 rfl
  simp only [Ty.size] at q15
  have e15 := laws_markIntS_83f_ok (v2) ((mrT (.pair (.int .i64) (.sl (.pair (.sl (.int .i64)) (.int .i64)))) (v0, v1) (1 : Int)).2) (by omega) (by omega) (by omega)
  have p15 := mrL_cnt (t := (.int .i64)) v2 (mrT (.pair (.int .i64) (.sl (.pair (.sl (.int .i64)) (.int .i64)))) (v0, v1) (1 : Int)).2
  have g15 : ¬ (mrL (mrE (.int .i64)) v2 (mrT (.pair (.int .i64) (.sl (.pair (.sl (.int .i64)) (.int .i64)))) (v0, v1) (1 : Int)).2).2 < 0 := by omega
  have e16 := laws_eqGroupS_rf (ga) (by first | omega | (simp only [szT] at *; omega))
  have q17 := cntT_le (T := (.sl (.pair (.sl (.int .i64)) (.pair (.int .i64) (.int .i64))))) ga rfl
  simp only [Ty.size] at q17
  have e17 := xl0m_ok (ga) ((1 : Int)) (by omega) (by omega) (by omega)
  have p17 := mrL_cnt (t := (.pair (.sl (.int .i64)) (.pair (.int .i64) (.int .i64)))) ga (1 : Int)
  have g17 : ¬ (mrL (mrE (.pair (.sl (.int .i64)) (.pair (.int .i64) (.int .i64)))) ga (1 : Int)).2 < 0 := by omega
  have e18 : laws_heldGroupS ((mrL (mrE (.pair (.sl (.int .i64)) (.pair (.int .i64) (.int .i64)))) ga (1 : Int)).1) ((1 : Int)) = some (mrL (mrE (.pair (.sl (.int .i64)) (.pair (.int .i64) (.int .i64)))) ga (1 : Int)).2 := laws_heldGroupS_ok (ga) (1 : Int) (by omega) (by omega) (by omega)
  have e19 := laws_toTable_id (v0) (v1) (by omega)
  have e20 := laws_toIntS_id (v2) (by omega)
  have e22 := laws_eqGroupS_rf (ga) (by first | omega | (simp only [szT] at *; omega))
  have e23 : laws_heldGroupS ((mrL (mrE (.pair (.sl (.int .i64)) (.pair (.int .i64) (.int .i64)))) ga (1 : Int)).1) ((1 : Int)) = some (mrL (mrE (.pair (.sl (.int .i64)) (.pair (.int .i64) (.int .i64)))) ga (1 : Int)).2 := laws_heldGroupS_ok (ga) (1 : Int) (by omega) (by omega) (by omega)
  refine xl0i.eq v0 v1 v2 v3 ?_
  simp only [xl0i.t, dec_f b1, e2, dec_f n2, e3, e4, e6, e7, e9, e10, e11, e12, e13, e14, dec_f g14, e15, dec_f g15, e16, e17, dec_f g17, e18, e19, e20, e22, e23, hspec, himpl, cond_true, cond_false, Option.bind_some, bne_ref, beq_ref, bang_t]
end GoV
