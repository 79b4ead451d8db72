/- A part of the proof of FnRolled: an interpreter of the model over plain data, its soundness, and what it makes of the functions that the statement reaches. Conditions: none beyond what the given statement itself says. -/
import Derived.Test.YtjbhilkkckfkmaaTS
set_option linter.unusedVariables false
set_option linter.unusedSimpArgs false
set_option linter.unnecessarySimpa false
set_option linter.unusedSectionVars false
/- Good groups: alike for the program and its specification. -/
namespace GoV
open Go
theorem toNat0g : Int.toNat (0 : Int) = 0 := rfl
theorem xs2l_eq (n : Int) : xs2l n = some (sumB n) := xs2l.eq n (by simp only [xs2l.t, xs2n_eq, Option.bind_some]; rfl)
theorem xi2i_eq (n : Int) : xi2i n = some (sumB n) := xi2i.eq n (by simp only [xi2i.t, xi2d_eq, Option.bind_some]; rfl)
theorem xi1q_eq (l : List GRow) : xi1q l = some (klen l : Int) := by
  refine xi1q.eq l ?_
  simp only [xi1q.t, toNat0g]
  cases l with
  | nil => rfl
  | cons g l =>
    have h1 : (((g :: l).length : Int) == 0) = false := beq_eq_false_iff_ne.2 (by simp only [List.length_cons]; omega)
    have h2 : 0 < (g :: l).length := by simp
    simp only [h1, cond_false, dec_t h2, cond_true]
    rfl
theorem gatB_split (l : List GRow) (i : Nat) : gatB l i = (goodR (l.getD i ([], 0, 0)).1 && (((l.getD i ([], 0, 0)).1.length : Int) == (klen l : Int)) && sumB (l.getD i ([], 0, 0)).2.1 && sumB (l.getD i ([], 0, 0)).2.2 && !((l.getD i ([], 0, 0)).2.1 == 0 && (l.getD i ([], 0, 0)).2.2 == 0) && (decide (i = 0) || decide (cmpL (l.getD (i - 1) ([], 0, 0)).1 (l.getD i ([], 0, 0)).1 < 0))) := by
  simp only [gatB, grB, nzB]
  refine bool_eq ?_
  simp only [Bool.and_eq_true, decide_eq_true_eq, beq_iff_eq, and_assoc]
  constructor
  · rintro ⟨h1, h2, h3⟩; exact ⟨h1, by omega, h3⟩
  · rintro ⟨h1, h2, h3⟩; exact ⟨h1, by omega, h3⟩
section
variable {l : List GRow} (hl : l.length ≤ 1073741824) (hr : ∀ w, w ∈ l → w.1.length ≤ 1073741824)
include hl hr
theorem xs1j_eq : xs1j l = some (goodG l) := by
  have key : ∀ i, i ≤ l.length → xs1j.l2 l l (l.length : Int) (i : Int) = some (allR (gatB l) i l.length && decide (l.length ≤ 60)) := by
    refine upto ?_ ?_
    · refine xs1j.eq2 _ _ _ _ ?_
      have : decide ((l.length : Int) ≤ 60) = decide (l.length ≤ 60) := bool_eq (by simp only [decide_eq_true_eq]; omega)
      simp only [xs1j.t2, ix_lt, Nat.lt_irrefl, decide_false, cond_false, allR_end, Bool.true_and, this]
    · intro i hi ih
      have h1 := hr _ (getD_mem ([], 0, 0) hi)
      have hpos : 0 < l.length := by omega
      refine xs1j.eq2 _ _ _ _ ?_
      rw [allR_step _ hi, gatB_split]
      simp only [xs1j.t2, ix_lt, ix_nn, ix_nat, dec_t hi, cond_true, toNat0g, dec_t hpos, xs2a_eq _ h1, xs2l_eq, Option.bind_some, wrap_succ (show i < 9223372036854775807 by omega), ih, bne, klen]
      cases goodR (l.getD i ([], 0, 0)).1
      · rfl
      · cases ((l.getD i ([], 0, 0)).1.length : Int) == ((l.getD 0 ([], 0, 0)).1.length : Int)
        · rfl
        · cases sumB (l.getD i ([], 0, 0)).2.1
          · rfl
          · cases sumB (l.getD i ([], 0, 0)).2.2
            · rfl
            · by_cases h0 : i = 0
              · subst h0
                cases (l.getD 0 ([], 0, 0)).2.1 == 0 <;> cases (l.getD 0 ([], 0, 0)).2.2 == 0 <;> simp
              · have h2 : 0 < i := by omega
                have h3 : i - 1 < l.length := by omega
                have h4 : (i : Int) > 0 := by omega
                have h5 := hr _ (getD_mem ([], 0, 0) h3)
                simp only [dec_t h4, dec_f h0, bang_t, bang_f, cond_true, cond_false, wrap_pred h2 (by omega), ix_nn, ix_nat, dec_t h3, xs1t_eq _ _ h5 h1, Option.bind_some, Bool.true_and, Bool.false_or]
                by_cases h6 : cmpL (l.getD (i - 1) ([], 0, 0)).1 (l.getD i ([], 0, 0)).1 ≥ 0
                · have h7 : ¬ cmpL (l.getD (i - 1) ([], 0, 0)).1 (l.getD i ([], 0, 0)).1 < 0 := by omega
                  simp only [dec_t h6, dec_f h7, cond_true]
                  cases (l.getD i ([], 0, 0)).2.1 == 0 <;> cases (l.getD i ([], 0, 0)).2.2 == 0 <;> rfl
                · have h7 : cmpL (l.getD (i - 1) ([], 0, 0)).1 (l.getD i ([], 0, 0)).1 < 0 := by omega
                  simp only [dec_f h6, dec_t h7, cond_false]
                  cases (l.getD i ([], 0, 0)).2.1 == 0 <;> cases (l.getD i ([], 0, 0)).2.2 == 0 <;> simp
  exact xs1j.eq l (by simp only [xs1j.t]; exact key 0 (Nat.zero_le _))
theorem xi1d_eq : xi1d l = some (goodG l) := by
  have key : ∀ i, i ≤ l.length → xi1d.l2 l l (l.length : Int) (i : Int) = some (allR (gatB l) i l.length && decide (l.length ≤ 60)) := by
    refine upto ?_ ?_
    · refine xi1d.eq2 _ _ _ _ ?_
      have : decide ((l.length : Int) ≤ 60) = decide (l.length ≤ 60) := bool_eq (by simp only [decide_eq_true_eq]; omega)
      simp only [xi1d.t2, ix_lt, Nat.lt_irrefl, decide_false, cond_false, allR_end, Bool.true_and, this]
    · intro i hi ih
      have h1 := hr _ (getD_mem ([], 0, 0) hi)
      refine xi1d.eq2 _ _ _ _ ?_
      rw [allR_step _ hi, gatB_split]
      simp only [xi1d.t2, ix_lt, ix_nn, ix_nat, dec_t hi, cond_true, xi1q_eq, xi28_eq _ _ h1, xi2i_eq, Option.bind_some, wrap_succ (show i < 9223372036854775807 by omega), ih]
      cases goodR (l.getD i ([], 0, 0)).1
      · rfl
      · cases ((l.getD i ([], 0, 0)).1.length : Int) == (klen l : Int)
        · rfl
        · cases sumB (l.getD i ([], 0, 0)).2.1
          · rfl
          · cases sumB (l.getD i ([], 0, 0)).2.2
            · rfl
            · by_cases h0 : i = 0
              · subst h0
                cases (l.getD 0 ([], 0, 0)).2.1 == 0 <;> cases (l.getD 0 ([], 0, 0)).2.2 == 0 <;> simp
              · have h2 : 0 < i := by omega
                have h3 : i - 1 < l.length := by omega
                have h4 : (i : Int) > 0 := by omega
                have h5 := hr _ (getD_mem ([], 0, 0) h3)
                simp only [dec_t h4, dec_f h0, bang_t, bang_f, cond_true, cond_false, wrap_pred h2 (by omega), ix_nn, ix_nat, dec_t h3, xi1b_eq _ _ h5 h1, Option.bind_some, Bool.true_and, Bool.false_or]
                by_cases h6 : cmpL (l.getD (i - 1) ([], 0, 0)).1 (l.getD i ([], 0, 0)).1 ≥ 0
                · have h7 : ¬ cmpL (l.getD (i - 1) ([], 0, 0)).1 (l.getD i ([], 0, 0)).1 < 0 := by omega
                  simp only [dec_t h6, dec_f h7, cond_true]
                  cases (l.getD i ([], 0, 0)).2.1 == 0 <;> cases (l.getD i ([], 0, 0)).2.2 == 0 <;> rfl
                · have h7 : cmpL (l.getD (i - 1) ([], 0, 0)).1 (l.getD i ([], 0, 0)).1 < 0 := by omega
                  simp only [dec_f h6, dec_t h7, cond_false]
                  cases (l.getD i ([], 0, 0)).2.1 == 0 <;> cases (l.getD i ([], 0, 0)).2.2 == 0 <;> simp
  exact xi1d.eq l (by simp only [xi1d.t]; exact key 0 (Nat.zero_le _))
end
end GoV

/- A group put into sorted groups; groups handed on if they are good: the specification's ways. -/
namespace GoV
open Go
theorem pick_one {pre rest : List GRow} {r : List Int} {n1 n2 : Int} :
    (bif n1 != 0 then some (pre ++ [(r, n1, n2)] ++ rest) else bif n2 != 0 then some (pre ++ [(r, n1, n2)] ++ rest) else some (pre ++ rest)) = some (pre ++ (oneG r (n1, n2) ++ rest)) := by
  by_cases h1 : n1 = 0
  · have e1 : (n1 != 0) = false := by rw [h1]; rfl
    by_cases h2 : n2 = 0
    · have e2 : (n2 != 0) = false := by rw [h2]; rfl
      rw [e1, e2, cond_false, cond_false, oneG, if_pos (by rw [h1, h2]), List.nil_append]
    · have e2 : (n2 != 0) = true := bne_iff_ne.2 h2
      rw [e1, e2, cond_false, cond_true, oneG, if_neg (fun h => h2 (Prod.mk.inj h).2), List.append_assoc]
  · have e1 : (n1 != 0) = true := bne_iff_ne.2 h1
    rw [e1, cond_true, oneG, if_neg (fun h => h1 (Prod.mk.inj h).1), List.append_assoc]
section
variable {l : List GRow} {r : List Int} {n : Int × Int} (hl : l.length ≤ 1073741824) (hr : ∀ w, w ∈ l → w.1.length ≤ 1073741824) (hx : r.length ≤ 1073741824) (hn : ∀ w, w ∈ l → IntKind.i64.wrap (n.1 + w.2.1) = n.1 + w.2.1 ∧ IntKind.i64.wrap (n.2 + w.2.2) = n.2 + w.2.2)
include hl hr hx hn
theorem xs2k_eq : xs2k l r n.1 n.2 = some (putG l r n) := by
  have key : ∀ (rest pre : List GRow), l = pre ++ rest → xs2k.l2 l r n.1 n.2 (pre.length : Int) = some (pre ++ putG rest r n) := by
    intro rest
    induction rest with
    | nil =>
      intro pre hp
      have e : pre = l := by rw [hp]; simp
      subst e
      refine xs2k.eq2 _ _ _ _ _ ?_
      have h1 : (0 : Int) ≤ (pre.length : Int) := by omega
      have h2 : (pre.length : Int) ≤ (pre.length : Int) := Int.le_refl _
      have h3 : List.take ((pre.length : Int) - 0).toNat (List.drop (0 : Int).toNat pre) = pre := by
        rw [show ((pre.length : Int) - 0).toNat = pre.length by omega, show (0 : Int).toNat = 0 from rfl, List.drop_zero, List.take_length]
      have h4 : pre.length ≤ 4294967296 := by omega
      have h5 : pre.length + [(r, n.1, n.2)].length ≤ 4294967296 := by simp only [List.length_cons, List.length_nil]; omega
      have h6 : (pre ++ [(r, n.1, n.2)]).length + ([] : List GRow).length ≤ 4294967296 := by simp only [List.length_append, List.length_cons, List.length_nil]; omega
      have h7 : pre.length + ([] : List GRow).length ≤ 4294967296 := by simp only [List.length_nil]; omega
      simp only [xs2k.t2, ix_lt, Nat.lt_irrefl, decide_false, cond_false, Option.getD_none, Option.getD_some, dec_t h1, dec_t h2, h3, dec_t h4, cond_true, xs21_eq _ hx, Option.bind_some, ix_nat, List.drop_length, dec_t h5, dec_t h6, dec_t h7]
      refine pick_one.trans ?_
      rw [putG, List.append_nil]
    | cons w rest ih =>
      intro pre hp
      have hi : pre.length < l.length := by rw [hp]; simp
      have hg : l.getD pre.length ([], 0, 0) = w := by rw [hp]; exact getD_mid pre rest w _
      have hwm : w ∈ l := by rw [hp]; simp
      have hw := hr w hwm
      have hwr := hn w hwm
      have h1 : (0 : Int) ≤ (pre.length : Int) := by omega
      have h2 : (pre.length : Int) ≤ (l.length : Int) := by omega
      have h2' : ((pre.length + 1 : Nat) : Int) ≤ (l.length : Int) := by omega
      have h2'' : (0 : Int) ≤ ((pre.length + 1 : Nat) : Int) := by omega
      have h3 : List.take ((pre.length : Int) - 0).toNat (List.drop (0 : Int).toNat l) = pre := by
        rw [show ((pre.length : Int) - 0).toNat = pre.length by omega, show (0 : Int).toNat = 0 from rfl, List.drop_zero, hp, List.take_left]
      have h4 : pre.length ≤ 4294967296 := by omega
      have hdr : List.drop pre.length l = w :: rest := by rw [hp, List.drop_left]
      have hdr1 : List.drop (pre.length + 1) l = rest := by rw [← List.drop_drop, hdr]; rfl
      have hrl : rest.length + 1 + pre.length = l.length := by rw [hp]; simp; omega
      have hone : ∀ m k : Int, pre.length + [(r, m, k)].length ≤ 4294967296 := fun m k => by simp only [List.length_cons, List.length_nil]; omega
      have hall : ∀ (m k : Int), (pre ++ [(r, m, k)]).length + (w :: rest).length ≤ 4294967296 := fun m k => by simp only [List.length_append, List.length_cons, List.length_nil]; omega
      have hall1 : ∀ (m k : Int), (pre ++ [(r, m, k)]).length + rest.length ≤ 4294967296 := fun m k => by simp only [List.length_append, List.length_cons, List.length_nil]; omega
      have hsh : pre.length + (w :: rest).length ≤ 4294967296 := by simp only [List.length_cons]; omega
      have hsh1 : pre.length + rest.length ≤ 4294967296 := by omega
      refine xs2k.eq2 _ _ _ _ _ ?_
      simp only [xs2k.t2, ix_lt, ix_nn, ix_nat, dec_t hi, cond_true, hg, xs1t_eq _ _ hw hx, Option.bind_some, wrap_succ (show pre.length < 9223372036854775807 by omega), Option.getD_none, Option.getD_some, dec_t h1, dec_t h2, dec_t h2', dec_t h2'', h3, dec_t h4, xs21_eq _ hx, hwr.1, hwr.2, hdr, hdr1, dec_t (hone _ _), dec_t (hall _ _), dec_t (hall1 _ _), dec_t hsh, dec_t hsh1, putG]
      by_cases hc : cmpL w.1 r < 0
      · simp only [dec_t hc, cond_true, if_pos hc]
        have := ih (pre ++ [w]) (by rw [hp]; simp)
        rw [List.length_append, List.length_singleton, List.append_assoc] at this
        exact this
      · simp only [dec_f hc, cond_false, if_neg hc]
        by_cases hz : cmpL w.1 r = 0
        · have : (cmpL w.1 r == 0) = true := by rw [hz]; rfl
          simp only [this, cond_true, if_pos hz]
          exact pick_one
        · have : (cmpL w.1 r == 0) = false := beq_eq_false_iff_ne.2 hz
          simp only [this, cond_false, if_neg hz]
          exact pick_one
  refine xs2k.eq _ _ _ _ ?_
  simp only [xs2k.t]
  exact key l [] rfl
end
theorem PutGK.wraps {M m : Int} {N : Nat} {l : List GRow} (h : PutGK M N l) {n : Int × Int} (hn : boxG m n) (hM : M + m ≤ 9223372036854775807) : ∀ w, w ∈ l → IntKind.i64.wrap (n.1 + w.2.1) = n.1 + w.2.1 ∧ IntKind.i64.wrap (n.2 + w.2.2) = n.2 + w.2.2 := fun w hw => by
  obtain ⟨⟨a1, a2⟩, a3, a4⟩ := h.wt w hw
  obtain ⟨⟨b1, b2⟩, b3, b4⟩ := hn
  exact ⟨wrap_id (by omega) (by omega), wrap_id (by omega) (by omega)⟩
theorem xs2h_eq {l : List GRow} (hl : l.length ≤ 1073741824) (hr : ∀ w, w ∈ l → w.1.length ≤ 1073741824) : xs2h l = some (bif goodG l then (l, true) else ([], false)) := by
  have e := xs1j_eq hl hr
  refine xs2h.eq _ ?_
  simp only [xs2h.t, e, Option.bind_some]
  cases hg : goodG l with
  | false => simp only [bang_f, cond_true, cond_false]
  | true =>
    simp only [bang_t, cond_true, cond_false]
    have key : ∀ (r a : List GRow), a ++ r = l → xs2h.l5 a l (l.length : Int) (a.length : Int) = some (l, true) := by
      intro r
      induction r with
      | nil =>
        intro a ha
        rw [List.append_nil] at ha
        subst ha
        exact xs2h.eq5 _ _ _ _ (by simp only [xs2h.t5, ix_lt, Nat.lt_irrefl, decide_false, cond_false])
      | cons x r ih =>
        intro a ha
        have g : a.length < l.length := by rw [← ha, List.length_append, List.length_cons]; omega
        have hx : l.getD a.length ([], 0, 0) = x := by rw [← ha]; simp
        have hxl := hr x (by rw [← ha]; simp)
        have g2 : a.length + [(x.1, x.2.1, x.2.2)].length ≤ 4294967296 := by simp only [List.length_cons, List.length_nil]; omega
        have k := ih (a ++ [x]) (by rw [List.append_assoc]; exact ha)
        rw [List.length_append, List.length_singleton] at k
        refine xs2h.eq5 _ _ _ _ ?_
        simp only [xs2h.t5, ix_lt, ix_nn, ix_nat, dec_t g, cond_true, hx, xs21_eq _ hxl, Option.bind_some, dec_t g2, wrap_succ (show a.length < 9223372036854775807 by omega)]
        exact k
    exact key l [] rfl
end GoV

/- Groups summed: what the program's 'grouped' gives. -/
namespace GoV
open Go
theorem slices_Grow_G_eq (n : Nat) (h : n ≤ 1073741824) : xs0i (n : Int) = some [] := by
  refine xs0i.eq _ ?_
  have h0 : ¬ (n : Int) < 0 := by omega
  have hw : IntKind.i64.wrap (n : Int) = (n : Int) := wrap_id (by omega) (by omega)
  simp only [xs0i.t, dec_f h0, cond_false, grow_n, hw]
  by_cases h1 : (n : Int) > 0
  · have h2 : (1 : Int) ≤ (n : Int) := by omega
    have h3 : (n : Int) ≤ ((4294967296 : Nat) : Int) := by omega
    simp only [dec_t h1, dec_t h2, dec_t h3, cond_true, Option.getD_none]
    rfl
  · simp only [dec_f h1, cond_false]
theorem slices_Concat_G_eq (ls : List (List GRow)) (h : ls.flatten.length ≤ 1073741824) (hl : ls.length ≤ 1073741824) : xs0k ls = some ls.flatten := by
  have k2 : ∀ i, i ≤ ls.length → ∀ acc : List GRow, acc.length + (ls.drop i).flatten.length ≤ 1073741824 → xs0k.l11 acc ls (ls.length : Int) (i : Int) = some (acc ++ (ls.drop i).flatten) := by
    refine upto ?_ ?_
    · intro acc _
      refine xs0k.eq11 _ _ _ _ ?_
      rw [List.drop_length, List.flatten_nil, List.append_nil]
      simp only [xs0k.t11, ix_lt, Nat.lt_irrefl, decide_false, cond_false]
    · intro i hi ih acc ha
      rw [flatten_drop hi, List.length_append] at ha
      refine xs0k.eq11 _ _ _ _ ?_
      have hb : acc.length + (ls.getD i []).length ≤ 4294967296 := by omega
      simp only [xs0k.t11, ix_lt, ix_nn, ix_nat, dec_t hi, cond_true, dec_t hb, wrap_succ (show i < 9223372036854775807 by omega)]
      rw [ih _ (by rw [List.length_append]; omega), flatten_drop hi, List.append_assoc]
  have k1 : ∀ i, i ≤ ls.length → ∀ n : Nat, n + (ls.drop i).flatten.length ≤ 1073741824 → xs0k.l3 ls (n : Int) ls (ls.length : Int) (i : Int) = some ls.flatten := by
    refine upto ?_ ?_
    · intro n hn
      refine xs0k.eq3 _ _ _ _ _ ?_
      have := k2 0 (Nat.zero_le _) [] (by simpa using h)
      rw [List.drop_zero, List.nil_append] at this
      simp only [xs0k.t3, ix_lt, Nat.lt_irrefl, decide_false, cond_false, slices_Grow_G_eq n (by omega), Option.bind_some]
      exact this
    · intro i hi ih n hn
      rw [flatten_drop hi, List.length_append] at hn
      refine xs0k.eq3 _ _ _ _ _ ?_
      have hw : IntKind.i64.wrap ((n : Int) + ((ls.getD i []).length : Int)) = ((n + (ls.getD i []).length : Nat) : Int) := by rw [wrap_id] <;> omega
      have h0 : ¬ ((n + (ls.getD i []).length : Nat) : Int) < 0 := by omega
      simp only [xs0k.t3, ix_lt, ix_nn, ix_nat, dec_t hi, cond_true, hw, dec_f h0, cond_false, wrap_succ (show i < 9223372036854775807 by omega)]
      exact ih _ (by omega)
  refine xs0k.eq ls ?_
  simp only [xs0k.t]
  exact k1 0 (Nat.zero_le _) 0 (by simpa using h)
theorem g2_eq (w : GRow) : xi1o w.1 w.2.1 w.2.2 = some (!nzB w) := by
  refine xi1o.eq _ _ _ ?_
  simp only [xi1o.t, nzB, Bool.not_not]
  cases w.2.1 == 0 <;> rfl
theorem gidx_ok {l : List GRow} (hl : l.length ≤ 1073741824) : ∀ (n i : Nat), i + n = l.length → (∀ m, m < i → nzB (l.getD m ([], 0, 0)) = true) →
    (∃ k, k < l.length ∧ nzB (l.getD k ([], 0, 0)) = false ∧ (∀ m, m < k → nzB (l.getD m ([], 0, 0)) = true) ∧ xs0b.l2 l (l.length : Int) (i : Int) = some (k : Int)) ∨
    ((∀ m, m < l.length → nzB (l.getD m ([], 0, 0)) = true) ∧ xs0b.l2 l (l.length : Int) (i : Int) = some (-1))
  | 0, i, hi, h => by
    have e : i = l.length := by omega
    subst e
    exact .inr ⟨h, xs0b.eq2 _ _ _ (by simp only [xs0b.t2, ix_lt, Nat.lt_irrefl, decide_false, cond_false])⟩
  | n + 1, i, hi, h => by
    have g : i < l.length := by omega
    cases hk : nzB (l.getD i ([], 0, 0)) with
    | false => exact .inl ⟨i, g, hk, h, xs0b.eq2 _ _ _ (by simp only [xs0b.t2, ix_lt, ix_nn, ix_nat, dec_t g, cond_true, g2_eq, hk, Option.bind_some, bang_f])⟩
    | true =>
      have e : ∀ b, xs0b.l2 l (l.length : Int) ((i + 1 : Nat) : Int) = some b → xs0b.l2 l (l.length : Int) (i : Int) = some b := fun b hb =>
        xs0b.eq2 _ _ _ (by
          simp only [xs0b.t2, ix_lt, ix_nn, ix_nat, dec_t g, cond_true, cond_false, g2_eq, hk, Option.bind_some, bang_t, wrap_succ (show i < 9223372036854775807 by omega)]
          exact hb)
      rcases gidx_ok hl n (i + 1) (by omega) (fun m hm => by
        by_cases c : m < i
        · exact h m c
        · have : m = i := by omega
          rw [this]; exact hk) with ⟨k, k1, k2, k3, k4⟩ | ⟨k1, k2⟩
      · exact .inl ⟨k, k1, k2, k3, e _ k4⟩
      · exact .inr ⟨k1, e _ k2⟩
theorem take_cut {α : Type} {i : Nat} {L R : List α} (h : i ≤ L.length) : List.take (((i : Nat) : Int) - 0).toNat (List.drop (Int.toNat 0) (List.take i L ++ R)) = L.take i := by
  rw [show (((i : Nat) : Int) - 0).toNat = i by omega, show Int.toNat 0 = 0 from rfl, List.drop_zero, List.take_append_of_le_length (by rw [List.length_take]; omega), List.take_take, Nat.min_self]
theorem filt_step {l : List GRow} {j : Nat} (h : j < l.length) : (l.take (j + 1)).filter nzB = (l.take j).filter nzB ++ (bif nzB (l.getD j ([], 0, 0)) then [l.getD j ([], 0, 0)] else []) := by
  rw [List.take_succ_eq_append_getElem h, List.filter_append, ← getD_of_lt (z := (([], 0, 0) : GRow)) h]
  cases hk : nzB (l.getD j ([], 0, 0)) with
  | false => rw [cond_false, List.filter_cons_of_neg (by rw [hk]; simp), List.filter_nil]
  | true => rw [cond_true, List.filter_cons_of_pos hk, List.filter_nil]
theorem beq00 : Nat.beq 0 0 = true := rfl
section
variable {o : List GRow} (hl : o.length ≤ 1073741824)
include hl
theorem del_loop : ∀ (n j hi : Nat) (L : List GRow) (i : Nat), j + n = o.length → hi ≤ j → i < j → L.length = o.length → L.take i = (o.take j).filter nzB → L.drop j = o.drop j →
    xs06.l1005 i hi L (i : Int) (j : Int) = some (o.filter nzB)
  | 0, j, hi, L, i, h1, h2, h3, h4, h5, h6 => by
    have e : j = L.length := by omega
    subst e
    rw [h4, List.take_length] at h5
    have g1 : (0 : Int) ≤ (i : Int) := by omega
    have g2 : (i : Int) ≤ (L.length : Int) := by omega
    have g3 : ¬ (List.drop i L).length = 0 := by rw [List.length_drop]; omega
    have g4 : (i : Int) ≤ ((List.take i L ++ List.replicate (L.length - i) (([], 0, 0) : GRow)).length : Int) := by rw [List.length_append, List.length_take, List.length_replicate]; omega
    refine xs06.eq1005 _ _ _ _ _ ?_
    simp only [xs06.t1005, ix_lt, Nat.lt_irrefl, decide_false, cond_false, Option.getD_some, Option.getD_none, dec_t g1, dec_t g2, ix_nat, Nat.le_refl, decide_true, cond_true, dec_f g3, bang_f, dec_t g4, take_cut (show i ≤ L.length by omega)]
    rw [h5]
  | n + 1, j, hi, L, i, h1, h2, h3, h4, h5, h6 => by
    have g : j < L.length := by omega
    have go : j < o.length := by omega
    have gi : i < L.length := by omega
    have hx : L.getD j ([], 0, 0) = o.getD j ([], 0, 0) := by
      have a1 := drop_getD (([], 0, 0) : GRow) g
      have a2 := drop_getD (([], 0, 0) : GRow) go
      rw [h6, a2] at a1
      exact (List.cons.inj a1).1.symm
    have hd : L.drop (j + 1) = o.drop (j + 1) := by
      have a1 := drop_getD (([], 0, 0) : GRow) g
      have a2 := drop_getD (([], 0, 0) : GRow) go
      rw [h6, a2] at a1
      exact (List.cons.inj a1).2.symm
    have hf := filt_step go
    refine xs06.eq1005 _ _ _ _ _ ?_
    cases hk : nzB (o.getD j ([], 0, 0)) with
    | false =>
      rw [hk, cond_false, List.append_nil] at hf
      have ih := del_loop n (j + 1) hi L i (by omega) (by omega) (by omega) h4 (by rw [h5, hf]) hd
      simp only [xs06.t1005, ix_lt, ix_nn, ix_nat, dec_t g, cond_true, g2_eq, hx, hk, Option.bind_some, bang_f, bang_t, cond_false, wrap_succ (show j < 9223372036854775807 by omega)]
      exact ih
    | true =>
      rw [hk, cond_true] at hf
      have ih := del_loop n (j + 1) (j + 1) (L.set i (o.getD j ([], 0, 0))) (i + 1) (by omega) (by omega) (by omega) (by rw [List.length_set]; exact h4)
        (by
          rw [hf, ← h5, List.take_succ_eq_append_getElem (by rw [List.length_set]; exact gi), List.getElem_set_self, List.take_set_of_le (Nat.le_refl _)])
        (by rw [List.drop_set_of_lt (by omega)]; exact hd)
      simp only [xs06.t1005, ix_lt, ix_nn, ix_nat, dec_t g, dec_t gi, dec_t h3, dec_t h2, cond_true, g2_eq, hx, hk, Option.bind_some, bang_f, bang_t, decide_true, beq00, Bool.and_self, wrap_succ (show j < 9223372036854775807 by omega), wrap_succ (show i < 9223372036854775807 by omega)]
      exact ih
theorem del5_loop : ∀ (n j i : Nat), j + n = o.length → i < j → o.take i = (o.take j).filter nzB →
    xs06.l5 o (i : Int) (j : Int) = some (o.filter nzB)
  | 0, j, i, h1, h3, h5 => by
    have e : j = o.length := by omega
    subst e
    rw [List.take_length] at h5
    have g1 : (0 : Int) ≤ (i : Int) := by omega
    have g2 : (i : Int) ≤ (o.length : Int) := by omega
    have g3 : ¬ (List.drop i o).length = 0 := by rw [List.length_drop]; omega
    have g4 : (i : Int) ≤ ((List.take i o ++ List.replicate (o.length - i) (([], 0, 0) : GRow)).length : Int) := by rw [List.length_append, List.length_take, List.length_replicate]; omega
    refine xs06.eq5 _ _ _ ?_
    simp only [xs06.t5, ix_lt, Nat.lt_irrefl, decide_false, cond_false, Option.getD_some, Option.getD_none, dec_t g1, dec_t g2, ix_nat, cond_true, dec_f g3, bang_f, dec_t g4, take_cut (show i ≤ o.length by omega)]
    rw [h5]
  | n + 1, j, i, h1, h3, h5 => by
    have go : j < o.length := by omega
    have gi : i < o.length := by omega
    have hij : i ≤ j := by omega
    have hf := filt_step go
    refine xs06.eq5 _ _ _ ?_
    cases hk : nzB (o.getD j ([], 0, 0)) with
    | false =>
      rw [hk, cond_false, List.append_nil] at hf
      have ih := del5_loop n (j + 1) i (by omega) (by omega) (by rw [h5, hf])
      simp only [xs06.t5, ix_lt, ix_nn, ix_nat, dec_t go, cond_true, g2_eq, hk, Option.bind_some, bang_f, bang_t, cond_false, wrap_succ (show j < 9223372036854775807 by omega)]
      exact ih
    | true =>
      rw [hk, cond_true] at hf
      have ih := del_loop hl n (j + 1) (j + 1) (o.set i (o.getD j ([], 0, 0))) (i + 1) (by omega) (by omega) (by omega) (by rw [List.length_set])
        (by
          rw [hf, ← h5, List.take_succ_eq_append_getElem (by rw [List.length_set]; exact gi), List.getElem_set_self, List.take_set_of_le (Nat.le_refl _)])
        (by rw [List.drop_set_of_lt (by omega)])
      simp only [xs06.t5, ix_lt, ix_nn, ix_nat, dec_t go, dec_t gi, dec_t h3, dec_t hij, cond_true, g2_eq, hk, Option.bind_some, bang_f, bang_t, decide_true, beq00, Bool.and_self, wrap_succ (show j < 9223372036854775807 by omega), wrap_succ (show i < 9223372036854775807 by omega)]
      exact ih
theorem delete_eq : xs06 o = some (o.filter nzB) := by
  refine xs06.eq _ ?_
  have hall : ∀ k, k ≤ o.length → (∀ m, m < k → nzB (o.getD m ([], 0, 0)) = true) → (o.take k).filter nzB = o.take k := by
    intro k hk h
    refine List.filter_eq_self.2 fun w hw => ?_
    obtain ⟨m, hm, e⟩ := List.getElem_of_mem hw
    rw [List.length_take] at hm
    have := h m (by omega)
    rw [getD_of_lt (by omega)] at this
    rw [List.getElem_take] at e
    rw [← e]; exact this
  rcases gidx_ok hl o.length 0 (by omega) (fun m hm => by omega) with ⟨k, k1, k2, k3, k4⟩ | ⟨k1, k2⟩
  · have e := xs0b.eq o (b := (k : Int)) (by simp only [xs0b.t]; exact k4)
    have hne : ((k : Int) == -1) = false := beq_eq_false_iff_ne.2 (by omega)
    simp only [xs06.t, e, Option.bind_some, hne, cond_false, wrap_succ (show k < 9223372036854775807 by omega)]
    refine del5_loop hl (o.length - (k + 1)) (k + 1) k (by omega) (by omega) ?_
    rw [filt_step k1, k2, cond_false, List.append_nil, hall k (by omega) k3]
  · have e := xs0b.eq o (b := -1) (by simp only [xs0b.t]; exact k2)
    have := hall o.length (Nat.le_refl _) k1
    rw [List.take_length] at this
    simp only [xs06.t, e, Option.bind_some, beq_ref, cond_true, this]
end
/-- What is told in the end. -/
def finG (l : List GRow) : List GRow × Bool := bif goodG (l.filter nzB) then (l.filter nzB, true) else ([], false)
theorem fin_eq {o : List GRow} (hl : o.length ≤ 1073741824) (hr : Rows o) :
    ((xs06 o).bind fun r5 => (xi1d r5).bind fun r6 => bif !r6 then some (([] : List GRow), false) else some (r5, true)) = some (finG o) := by
  have e := xi1d_eq (l := o.filter nzB) (Nat.le_trans (List.length_filter_le _ _) hl) (fun w hw => hr w (List.mem_filter.1 hw).1)
  rw [delete_eq hl, Option.bind_some, e, Option.bind_some, finG]
  cases goodG (o.filter nzB) <;> rfl
theorem grp_loop {d : List GRow} {M : Int} (hl : d.length ≤ 1073741824) (hr : Rows d) (hM : 0 ≤ M) (hw : ∀ w, w ∈ d → boxG M w.2) (hbig : M * (d.length : Int) ≤ 9223372036854775807) :
    ∀ (n k : Nat) (pre : List GRow) (r : List Int) (s : Int × Int), k + n = d.length → pre.length + 1 ≤ k → r.length ≤ 1073741824 → Rows pre → boxG (M * (k : Int)) s →
      xi26.l5 d (pre ++ [(r, s.1, s.2)]) (d.length : Int) (k : Int) = some (finG (pre ++ runG r s (d.drop k)))
  | 0, k, pre, r, s, hk, hp, hrl, hpr, hs => by
    have e : k = d.length := by omega
    subst e
    refine xi26.eq5 _ _ _ _ ?_
    rw [List.drop_length, runG]
    simp only [xi26.t5, ix_lt, Nat.lt_irrefl, decide_false, cond_false]
    exact fin_eq (by rw [List.length_append, List.length_singleton]; omega) (fun w hw => by
      rcases List.mem_append.1 hw with hw | hw
      · exact hpr w hw
      · rw [List.mem_singleton.1 hw]; exact hrl)
  | n + 1, k, pre, r, s, hk, hp, hrl, hpr, hs => by
    have g : k < d.length := by omega
    have hm := getD_mem (([], 0, 0) : GRow) g
    have hxr := hr _ hm
    have hxw := hw _ hm
    have eM : M * ((k + 1 : Nat) : Int) = M * (k : Int) + M := by rw [Int.natCast_succ, Int.mul_add, Int.mul_one]
    have h0 : 0 ≤ M * (k : Int) := Int.mul_nonneg hM (by omega)
    have hle : M * ((k + 1 : Nat) : Int) ≤ M * (d.length : Int) := Int.mul_le_mul_of_nonneg_left (by omega) hM
    rw [drop_getD ([], 0, 0) g, runG]
    generalize hx : d.getD k ([], 0, 0) = x at hxr hxw
    have hlast : ∀ y : GRow, (pre ++ [y]).length = pre.length + 1 := fun y => by rw [List.length_append, List.length_singleton]
    have hw1 : ∀ y : GRow, IntKind.i64.wrap (((pre ++ [y]).length : Int) - 1) = (pre.length : Int) := fun y => by rw [hlast, wrap_id (by omega) (by omega)]; omega
    have hge : (pre.length : Int) ≥ 0 := by omega
    have hlt : ∀ y : GRow, pre.length < (pre ++ [y]).length := fun y => by rw [hlast]; omega
    have hget : ∀ y : GRow, (pre ++ [y]).getD pre.length ([], 0, 0) = y := fun y => getD_mid pre [] y _
    have hset : ∀ y y2 : GRow, (pre ++ [y]).set pre.length y2 = pre ++ [y2] := fun y y2 => set_mid pre [] y y2
    have hpush : ∀ y y2 : GRow, (pre ++ [y]).length + [y2].length ≤ 4294967296 := fun y y2 => by rw [hlast, List.length_singleton]; omega
    obtain ⟨⟨b1, b2⟩, b3, b4⟩ := hs
    obtain ⟨⟨c1, c2⟩, c3, c4⟩ := hxw
    have w1 : IntKind.i64.wrap (s.1 + x.2.1) = s.1 + x.2.1 := wrap_id (by omega) (by omega)
    have w2 : IntKind.i64.wrap (s.2 + x.2.2) = s.2 + x.2.2 := wrap_id (by omega) (by omega)
    refine xi26.eq5 _ _ _ _ ?_
    simp only [xi26.t5, ix_lt, ix_nn, ix_nat, dec_t g, cond_true, hx, hw1, dec_t hge, dec_t (hlt _), hget, hset, xi1b_eq _ _ hrl hxr, Option.bind_some, w1, w2, xi25_eq _ hxr, dec_t (hpush _ _), wrap_succ (show k < 9223372036854775807 by omega)]
    by_cases hz : cmpL x.1 r = 0
    · have hz2 : (cmpL r x.1 == 0) = true := by rw [cmpL_zero.1 hz, cmpL_refl]; rfl
      rw [hz2, cond_true, if_pos hz]
      exact grp_loop hl hr hM hw hbig n (k + 1) pre r (addP s x.2) (by omega) (by omega) hrl hpr (by rw [eM, Int.add_comm]; exact boxG_add ⟨⟨b1, b2⟩, b3, b4⟩ ⟨⟨c1, c2⟩, c3, c4⟩)
    · have hz2 : (cmpL r x.1 == 0) = false := beq_eq_false_iff_ne.2 fun h => hz (cmpL_zero.2 (cmpL_zero.1 h).symm)
      rw [hz2, cond_false, if_neg hz]
      have ih := grp_loop hl hr hM hw hbig n (k + 1) (pre ++ [(r, s.1, s.2)]) x.1 x.2 (by omega) (by rw [hlast]; omega) hxr (fun w hw => by
        rcases List.mem_append.1 hw with hw | hw
        · exact hpr w hw
        · rw [List.mem_singleton.1 hw]; exact hrl) (boxG_mono ⟨⟨c1, c2⟩, c3, c4⟩ (by rw [eM]; omega))
      have ea : pre ++ [(r, s.1, s.2)] ++ runG x.1 x.2 (d.drop (k + 1)) = pre ++ (r, s) :: runG x.1 x.2 (d.drop (k + 1)) := by rw [List.append_assoc]; rfl
      rw [ea] at ih
      exact ih
theorem xi26_eq {M : Int} {ls : List (List GRow)} {a b : List GRow} (he : ls.flatten = a ++ b) (hn : ls.length ≤ 1073741824) (hl : ls.flatten.length ≤ 1073741824) (hr : Rows ls.flatten) (hM : 0 ≤ M) (hw : ∀ w, w ∈ ls.flatten → boxG M w.2) (hbig : M * (ls.flatten.length : Int) ≤ 9223372036854775807)
    (h1 : sortedG a) (h2 : nzG a) : xi26 ls = some (bif goodG (putsG a b) then (putsG a b, true) else ([], false)) := by
  have e1 := slices_Concat_G_eq ls hl hn
  obtain ⟨d, e2, hp, hs⟩ := sort_ok (d := ls.flatten) hl hr
  have hlen : d.length = ls.flatten.length := hp.length_eq
  have hdr : Rows d := hr.perm hp
  have hdw : ∀ w, w ∈ d → boxG M w.2 := fun w hw' => hw w (hp.mem_iff.1 hw')
  have hfin : ∀ X : List GRow, X.filter nzB = putsG a b → finG X = (bif goodG (putsG a b) then (putsG a b, true) else ([], false)) := fun X h => by rw [finG, h]
  have hg := groupG_puts (by rw [← he]; exact hp) hs h1 h2
  refine xi26.eq ls ?_
  simp only [xi26.t, e1, e2, Option.bind_some]
  rw [← hfin _ hg]
  have hw1 : ¬ IntKind.i64.wrap ((([] : List GRow).length : Int) - 1) ≥ 0 := by decide
  refine xi26.eq5 _ _ _ _ ?_
  cases d with
  | nil =>
    simp only [xi26.t5, List.length_nil, ix_lt, Nat.lt_irrefl, decide_false, cond_false]
    first
      | exact fin_eq (o := []) (by simp) (fun w hw => by cases hw)
      | (simp only [groupG]; exact fin_eq (o := []) (by simp) (fun w hw => by cases hw))
  | cons x r =>
    have g : 0 < (x :: r).length := by simp
    have hx : (x :: r).getD 0 ([], 0, 0) = x := rfl
    have hxr := hdr x (by simp)
    have g2 : ([] : List GRow).length + [(x.1, x.2.1, x.2.2)].length ≤ 4294967296 := by simp
    have k := grp_loop (d := x :: r) (by omega) hdr hM hdw (by rw [hlen]; exact hbig) r.length 1 [] x.1 x.2 (by simp; omega) (by simp) hxr (fun w hw => by cases hw) (by
      have := hdw x (by simp)
      simpa using this)
    have g' : (0 : Int) < (((x :: r).length : Nat) : Int) := by omega
    have gz : Int.toNat 0 < (x :: r).length := g
    simp only [xi26.t5, dec_t g', Int.le_refl, decide_true, cond_true, dec_t gz, dec_f hw1, cond_false, toNat0g, hx, xi25_eq _ hxr, Option.bind_some, dec_t g2]
    exact k
end GoV

/- Tables that are good, with as many columns. -/
namespace GoV
open Go
def alikeB (c : Int) (a : List WRow) (d : Int) (b : List WRow) : Bool := goodT c a && (goodT d b && (c == d))
end GoV

/- Some cells of a row; numbers of columns (beside groups). -/
namespace GoV
open Go
def pickR (r cs : List Int) : List Int := cs.map fun k => r.getD k.toNat 0
def pickG (r : List Int) (k : Int) : List Int := [r.getD k.toNat 0]
theorem pickG_map (r : List Int) : ∀ cs : List Int, cs.flatMap (pickG r) = pickR r cs
  | [] => rfl
  | k :: cs => by rw [List.flatMap_cons, pickG_map r cs]; rfl
theorem pickR_len (r cs : List Int) : (pickR r cs).length = cs.length := by simp [pickR]
theorem xs2f_eq {r cs : List Int} (hl : cs.length ≤ 1073741824) (h : ∀ k, k ∈ cs → 0 ≤ k ∧ k.toNat < r.length) : xs2f r cs = some (pickR r cs) := by
  refine xs2f.eq r cs ?_
  simp only [xs2f.t]
  rw [← pickG_map]
  refine push_loop cs 0 (fun acc i => xs2f.l3 r [] acc cs (cs.length : Int) (i : Int)) (pickG r) (fun _ => Nat.le_refl _) some ?_ ?_ _ rfl
  · intro acc b _ hb
    exact xs2f.eq3 _ _ _ _ _ _ (by simp only [xs2f.t3, ix_lt, Nat.lt_irrefl, decide_false, cond_false]; exact hb)
  · intro acc i b hi ha hb
    obtain ⟨h1, h2⟩ := h _ (getD_mem 0 hi)
    refine xs2f.eq3 _ _ _ _ _ _ ?_
    have h3 : acc.length + [r.getD (cs.getD i 0).toNat 0].length ≤ 4294967296 := by simp only [List.length_cons, List.length_nil]; omega
    simp only [xs2f.t3, ix_lt, ix_nn, ix_nat, dec_t hi, dec_t h1, dec_t h2, dec_t h3, cond_true, wrap_succ (show i < 9223372036854775807 by omega)]
    exact hb
theorem xi1e_eq {r cs : List Int} (hl : cs.length ≤ 1073741824) (h : ∀ k, k ∈ cs → 0 ≤ k ∧ k.toNat < r.length) : xi1e r cs = some (pickR r cs) := by
  refine xi1e.eq r cs ?_
  simp only [xi1e.t]
  rw [← pickG_map]
  refine push_loop cs 0 (fun acc i => xi1e.l3 r [] acc cs (cs.length : Int) (i : Int)) (pickG r) (fun _ => Nat.le_refl _) some ?_ ?_ _ rfl
  · intro acc b _ hb
    exact xi1e.eq3 _ _ _ _ _ _ (by simp only [xi1e.t3, ix_lt, Nat.lt_irrefl, decide_false, cond_false]; exact hb)
  · intro acc i b hi ha hb
    obtain ⟨h1, h2⟩ := h _ (getD_mem 0 hi)
    refine xi1e.eq3 _ _ _ _ _ _ ?_
    have h3 : acc.length + [r.getD (cs.getD i 0).toNat 0].length ≤ 4294967296 := by simp only [List.length_cons, List.length_nil]; omega
    simp only [xi1e.t3, ix_lt, ix_nn, ix_nat, dec_t hi, dec_t h1, dec_t h2, dec_t h3, cond_true, wrap_succ (show i < 9223372036854775807 by omega)]
    exact hb
def plB (n k : Int) : Bool := decide (0 ≤ k) && decide (k < n)
theorem plB_iff {n k : Int} : plB n k = true ↔ 0 ≤ k ∧ k < n := by simp [plB]
def colsB (n : Int) (cs : List Int) : Bool := cs.all (plB n) && decide (cs.length ≤ 6)
theorem xi27_eq' (x c : Int) : xi27 x c = some (plB c x) := by
  refine xi27.eq x c ?_
  simp only [xi27.t, plB]
  by_cases h : 0 ≤ x
  · have h' : x ≥ 0 := h
    simp only [dec_t h, dec_t h', cond_true, Bool.true_and]
  · have h' : ¬ x ≥ 0 := h
    simp only [dec_f h, dec_f h', cond_false, Bool.false_and]
theorem lenDec (n k : Nat) : decide ((n : Int) ≤ (k : Int)) = decide (n ≤ k) := by
  by_cases h : n ≤ k
  · rw [dec_t h, dec_t (by omega)]
  · rw [dec_f h, dec_f (by omega)]
theorem xs1s_eq (cs : List Int) (n : Int) (hl : cs.length ≤ 1073741824) : xs1s cs n = some (colsB n cs) := by
  refine xs1s.eq cs n ?_
  simp only [xs1s.t]
  have := all_loop cs 0 (fun i => xs1s.l2 cs n cs (cs.length : Int) (i : Int)) (plB n) false (decide (cs.length ≤ 6)) ?_ ?_ ?_
  · refine Eq.trans this ?_
    simp only [colsB]
    cases cs.all (plB n) <;> rfl
  · exact xs1s.eq2 _ _ _ _ _ (by simp only [xs1s.t2, ix_lt, Nat.lt_irrefl, decide_false, cond_false]; exact congrArg some (lenDec cs.length 6))
  · intro i hi hb
    refine xs1s.eq2 _ _ _ _ _ ?_
    simp only [xs1s.t2, ix_lt, ix_nn, ix_nat, dec_t hi, cond_true]
    by_cases h1 : cs.getD i 0 < 0
    · simp only [dec_t h1, cond_true]
    · have h2 : cs.getD i 0 ≥ n := by
        apply Classical.byContradiction
        intro h2
        rw [plB_iff.2 ⟨by omega, by omega⟩] at hb
        cases hb
      simp only [dec_f h1, dec_t h2, cond_true, cond_false]
  · intro i c hi hb hc
    refine xs1s.eq2 _ _ _ _ _ ?_
    obtain ⟨h1, h2⟩ := plB_iff.1 hb
    have h3 : ¬ cs.getD i 0 < 0 := by omega
    have h4 : ¬ cs.getD i 0 ≥ n := by omega
    simp only [xs1s.t2, ix_lt, ix_nn, ix_nat, dec_t hi, cond_true, dec_f h3, dec_f h4, cond_false, wrap_succ (show i < 9223372036854775807 by omega)]
    exact hc
theorem xi1f_eq (cs : List Int) (n : Int) (hl : cs.length ≤ 1073741824) : xi1f cs n = some (colsB n cs) := by
  refine xi1f.eq cs n ?_
  have e := xi0l_ok cs n (plB n) (by omega) (fun x _ => xi1a.eq _ _ (by simp only [xi1a.t, xi27_eq', Option.bind_some]))
  have e2 : decide ((cs.length : Int) ≤ 6) = decide (cs.length ≤ 6) := lenDec cs.length 6
  simp only [xi1f.t, e, e2, Option.bind_some, colsB]
  by_cases h : cs.length ≤ 6
  · simp only [dec_t h, cond_true, Bool.and_true]
  · simp only [dec_f h, cond_false, Bool.and_false]
end GoV

/- A row that is put in counts with a bound for all (beside groups). -/
namespace GoV
open Go
/-- A row that is put in counts with a bound for all. -/
theorem puts_all_loop {α β : Type} (l : List α) (z : α) (p : α → Bool) (row : α → List Int) (wt : α → Int) (L : List WRow → Nat → Option β) (res : List WRow → Option β) (bad : β) {M m : Int} {N : Nat} (hM : 0 ≤ M) (hm : 0 ≤ m)
    (hp : ∀ x, x ∈ l → p x = true → (row x).length ≤ 1073741824 ∧ (-m ≤ wt x ∧ wt x ≤ m))
    (he : ∀ acc b, PutOK (M + m * l.length) (N + l.length) acc → res acc = some b → L acc l.length = some b)
    (hf : ∀ acc i, i < l.length → p (l.getD i z) = false → L acc i = some bad)
    (hs : ∀ acc i b, i < l.length → p (l.getD i z) = true → PutOK (M + m * i) (N + i) acc → L (putL acc (row (l.getD i z)) (wt (l.getD i z))) (i + 1) = some b → L acc i = some b) :
    ∀ acc b, PutOK M N acc → (bif l.all p then res (l.foldl (fun acc x => putL acc (row x) (wt x)) acc) else some bad) = some b → L acc 0 = some b := by
  have key : ∀ i, i ≤ l.length → ∀ acc b, PutOK (M + m * i) (N + i) acc → (bif (l.drop i).all p then res ((l.drop i).foldl (fun acc x => putL acc (row x) (wt x)) acc) else some bad) = some b → L acc i = some b := by
    refine upto ?_ ?_
    · intro acc b ha hb
      rw [List.drop_length] at hb
      exact he acc b ha hb
    · intro i hi ih acc b ha hb
      rw [drop_getD z hi, List.foldl_cons, List.all_cons] at hb
      cases hq : p (l.getD i z) with
      | false =>
        rw [hq, Bool.false_and, cond_false] at hb
        rw [← hb]
        exact hf acc i hi hq
      | true =>
        rw [hq, Bool.true_and] at hb
        refine hs acc i b hi hq ha (ih _ b ?_ hb)
        obtain ⟨k1, k2⟩ := hp _ (getD_mem z hi) hq
        have h0 : 0 ≤ m * (i : Int) := Int.mul_nonneg hm (by omega)
        have := ha.put k1 k2 (by omega) hm
        have e : M + m * ((i + 1 : Nat) : Int) = M + m * (i : Int) + m := by
          rw [Int.natCast_succ, Int.mul_add, Int.mul_one]; omega
        rw [e]
        exact this
  intro acc b ha hb
  refine key 0 (Nat.zero_le _) acc b ?_ (by rw [List.drop_zero]; exact hb)
  simpa using ha
theorem PutOK.nil : PutOK 0 0 [] := ⟨Nat.le_refl _, fun _ h => (by cases h), fun _ h => (by cases h)⟩
theorem putsL_rows {c : Nat} {b : List WRow} (h : ∀ w, w ∈ b → w.1.length ≤ c) : (putsL [] b).length ≤ b.length ∧ ∀ w, w ∈ putsL [] b → w.1.length ≤ c := by
  obtain ⟨_, _, _, h1, h2⟩ := putsL_ok b (l := []) .nil (fun _ h => (by cases h))
  refine ⟨by simpa using h2, fun w hw => ?_⟩
  rcases h1 w hw with h3 | ⟨u, hu, e⟩
  · cases h3
  · rw [e]; exact h u hu
end GoV

/- Groups made of rows, and told: one way by putting in, the other by sorting. -/
namespace GoV
open Go
def tellG (l : List GRow) : List GRow × Bool := bif goodG l then (l, true) else ([], false)
theorem tellG_size (l : List GRow) : szT groupsTy (tellG l).1 ≤ 1073741824 := by
  unfold tellG
  cases h : goodG l with
  | false => simp [szT]
  | true => exact goodG_size h
theorem boxG_zero {m : Int} (hm : 0 ≤ m) : boxG m (0, 0) := ⟨⟨by show -m ≤ 0; omega, hm⟩, by show -m ≤ 0; omega, hm⟩
theorem group_rows {g : GRow} {l : List GRow} (h : goodG l = true) (hg : g ∈ l) : g.1.length = klen l ∧ g.1.length ≤ 6 ∧ boxG 100000000000000 g.2 := by
  have h1 := grB_iff.1 ((goodG_iff.1 h).2.1 g hg)
  have h2 := (goodG_rows h).2 g hg
  exact ⟨h1.2.1, h2.1, ⟨h2.2.1.1, h2.2.1.2⟩⟩
theorem PutGK.good {l : List GRow} (h : goodG l = true) : PutGK 100000000000000 60 l :=
  ⟨(goodG_rows h).1, fun w hw => by have := (group_rows h hw).2.1; omega, fun w hw => (group_rows h hw).2.2⟩
theorem grouped_one {m : Int} {l : List GRow} (hm : 0 ≤ m) (hl : l.length ≤ 1000) (hr : ∀ w, w ∈ l → w.1.length ≤ 1073741824) (hw : ∀ w, w ∈ l → boxG m w.2) (hbig : m ≤ 100000000000000) : xi26 [l] = some (tellG (putsG [] l)) := by
  have e : [l].flatten = [] ++ l := by simp
  have e2 : [l].flatten = l := by simp
  have hmul : m * ((l.length : Nat) : Int) ≤ 100000000000000 * 1000 := Int.le_trans (Int.mul_le_mul_of_nonneg_right hbig (by omega)) (Int.mul_le_mul_of_nonneg_left (by omega) (by omega))
  exact xi26_eq (M := m) e (by simp) (by rw [e2]; omega) (by rw [e2]; exact hr) hm (by rw [e2]; exact hw) (by rw [e2]; omega) .nil (fun w hw => by cases hw)
theorem tell_eq {M : Int} {N : Nat} {l : List GRow} (h : PutGK M N l) (hN : N ≤ 1073741824) : xs2h l = some (tellG l) := xs2h_eq (by have := h.len; omega) h.row
end GoV

/- GroupTable: the program's answer is the specification's. -/
namespace GoV
open Go
def cellG (cs : List Int) (k : Int) (w : WRow) : GRow := (pickR w.1 cs, (w.2, w.2 * w.1.getD k.toNat 0))
section
variable {c : Int} {l : List WRow} {cs : List Int} {k : Int} (hg : goodT c l = true) (hc : colsB c cs = true) (hk : 0 ≤ k ∧ k < c)
include hg hc hk
theorem cell_fit : l.length ≤ 60 ∧ cs.length ≤ 6 ∧ ∀ w, w ∈ l → (∀ q, q ∈ cs → 0 ≤ q ∧ q.toNat < w.1.length) ∧ k.toNat < w.1.length ∧ boxG 100000000000 (cellG cs k w).2 := by
  obtain ⟨_, h1, h2, _⟩ := goodT_iff.1 hg
  simp only [colsB, Bool.and_eq_true, decide_eq_true_eq] at hc
  refine ⟨h1, hc.2, fun w hw => ?_⟩
  obtain ⟨h5, h3, h4, _⟩ := rowB_iff.1 (h2 w hw)
  have hkl : k.toNat < w.1.length := by omega
  have hcell : -100000 ≤ w.1.getD k.toNat 0 ∧ w.1.getD k.toNat 0 ≤ 100000 := by
    simp only [goodR, Bool.and_eq_true] at h5
    exact inB_iff.1 (List.all_eq_true.1 h5.1 _ (getD_mem (0 : Int) hkl))
  refine ⟨fun q hq => ?_, hkl, ?_⟩
  · have := plB_iff.1 (List.all_eq_true.1 hc.1 q hq)
    omega
  · have hm : (w.2 * w.1.getD k.toNat 0).natAbs ≤ 1000000 * 100000 := by
      rw [Int.natAbs_mul]
      exact Nat.mul_le_mul (by omega) (by omega)
    have hx : -100000000000 ≤ w.2 * w.1.getD k.toNat 0 ∧ w.2 * w.1.getD k.toNat 0 ≤ 100000000000 := by
      generalize w.2 * w.1.getD k.toNat 0 = y at hm
      omega
    exact ⟨⟨by show -100000000000 ≤ w.2; omega, by show w.2 ≤ 100000000000; omega⟩, hx⟩
theorem cells_spec : xs1k.l5 cs k [] l (l.length : Int) 0 = some (tellG (putsG [] (l.map (cellG cs k)))) := by
  obtain ⟨hb, hcl, hf⟩ := cell_fit hg hc hk
  have e : putsG [] (l.map (cellG cs k)) = l.foldl (fun acc w => putG acc (pickR w.1 cs) (cellG cs k w).2) [] := by rw [putsG, List.foldl_map]; rfl
  rw [e]
  refine putsG_loop l ([], 0) (fun w => pickR w.1 cs) (fun w => (cellG cs k w).2) (fun acc i => xs1k.l5 cs k acc l (l.length : Int) (i : Int)) (fun acc => some (tellG acc)) (M := 0) (m := 100000000000) (N := 0) (by omega) (by omega) (fun g _ => by rw [pickR_len]; omega) (fun w hw => (hf w hw).2.2) ?_ ?_ [] _ PutGK.nil rfl
  · intro acc r ha hr
    refine xs1k.eq5 _ _ _ _ _ _ ?_
    simp only [xs1k.t5, ix_lt, Nat.lt_irrefl, decide_false, cond_false, tell_eq ha (by omega), Option.bind_some]
    exact hr
  · intro acc i r hi ha hr
    have hm := getD_mem (([], 0) : WRow) hi
    obtain ⟨f1, f2, f3⟩ := hf _ hm
    have hw : IntKind.i64.wrap ((l.getD i ([], 0)).2 * (l.getD i ([], 0)).1.getD k.toNat 0) = (l.getD i ([], 0)).2 * (l.getD i ([], 0)).1.getD k.toNat 0 := by
      obtain ⟨_, q1, q2⟩ := f3
      simp only [cellG] at q1 q2
      exact wrap_id (by omega) (by omega)
    have e := xs2k_eq (l := acc) (r := pickR (l.getD i ([], 0)).1 cs) (n := (cellG cs k (l.getD i ([], 0))).2) (by have := ha.len; omega) ha.row (by rw [pickR_len]; omega) (ha.wraps (m := 100000000000) f3 (by omega))
    simp only [cellG] at e
    refine xs1k.eq5 _ _ _ _ _ _ ?_
    simp only [xs1k.t5, ix_lt, ix_nn, ix_nat, dec_t hi, cond_true, xs2f_eq (show cs.length ≤ 1073741824 by omega) f1, dec_t hk.1, dec_t f2, hw, e, Option.bind_some, wrap_succ (show i < 9223372036854775807 by omega)]
    exact hr
end
end GoV

/- RollUp: the program's answer is the specification's. -/
namespace GoV
open Go
def rollG (cs : List Int) (g : GRow) : GRow := (pickR g.1 cs, g.2)
section
variable {l : List GRow} {cs : List Int} (hg : goodG l = true) (hc : cs.length ≤ 6) (hp : ∀ g, g ∈ l → ∀ k, k ∈ cs → 0 ≤ k ∧ k.toNat < g.1.length)
include hg hc hp
theorem roll_spec : xs2e.l14 cs [] l (l.length : Int) 0 = some (tellG (putsG [] (l.map (rollG cs)))) := by
  have hb := (goodG_rows hg).1
  have e : putsG [] (l.map (rollG cs)) = l.foldl (fun acc g => putG acc (pickR g.1 cs) g.2) [] := by rw [putsG, List.foldl_map]; rfl
  rw [e]
  refine putsG_loop l ([], 0, 0) (fun g => pickR g.1 cs) (fun g => g.2) (fun acc i => xs2e.l14 cs acc l (l.length : Int) (i : Int)) (fun acc => some (tellG acc)) (M := 0) (m := 100000000000000) (N := 0) (by omega) (by omega) (fun g _ => by rw [pickR_len]; omega) (fun g hg2 => (group_rows hg hg2).2.2) ?_ ?_ [] _ PutGK.nil rfl
  · intro acc r ha hr
    refine xs2e.eq14 _ _ _ _ _ ?_
    simp only [xs2e.t14, ix_lt, Nat.lt_irrefl, decide_false, cond_false, tell_eq ha (by omega), Option.bind_some]
    exact hr
  · intro acc i r hi ha hr
    have hm := getD_mem (([], 0, 0) : GRow) hi
    have e := xs2k_eq (l := acc) (r := pickR (l.getD i ([], 0, 0)).1 cs) (n := (l.getD i ([], 0, 0)).2) (by have := ha.len; omega) ha.row (by rw [pickR_len]; omega) (ha.wraps (m := 100000000000000) (group_rows hg hm).2.2 (by omega))
    refine xs2e.eq14 _ _ _ _ _ ?_
    simp only [xs2e.t14, ix_lt, ix_nn, ix_nat, dec_t hi, cond_true, xs2f_eq (show cs.length ≤ 1073741824 by omega) (hp _ hm), e, Option.bind_some, wrap_succ (show i < 9223372036854775807 by omega)]
    exact hr
theorem roll_impl : xi2b.l8 cs [] l (l.length : Int) 0 = some (tellG (putsG [] (l.map (rollG cs)))) := by
  have hb := (goodG_rows hg).1
  have key : ∀ (n i : Nat) (acc : List GRow), i + n = l.length → acc = (l.take i).map (rollG cs) → xi2b.l8 cs acc l (l.length : Int) (i : Int) = some (tellG (putsG [] (l.map (rollG cs)))) := by
    intro n
    induction n with
    | zero =>
      intro i acc hi ha
      have e : i = l.length := by omega
      subst e
      rw [List.take_length] at ha
      subst ha
      have e := grouped_one (m := 100000000000000) (l := l.map (rollG cs)) (by omega) (by rw [List.length_map]; omega) (fun w hw => by
        obtain ⟨g, _, rfl⟩ := List.mem_map.1 hw
        show (pickR g.1 cs).length ≤ _
        rw [pickR_len]; omega) (fun w hw => by
        obtain ⟨g, hg2, rfl⟩ := List.mem_map.1 hw
        exact (group_rows hg hg2).2.2) (by omega)
      refine xi2b.eq8 _ _ _ _ _ ?_
      simp only [xi2b.t8, ix_lt, Nat.lt_irrefl, decide_false, cond_false, e, Option.bind_some]
    | succ n ih =>
      intro i acc hi ha
      have g : i < l.length := by omega
      have hm := getD_mem (([], 0, 0) : GRow) g
      have hal : acc.length ≤ i := by rw [ha, List.length_map, List.length_take]; omega
      have h2 : acc.length + [(pickR (l.getD i ([], 0, 0)).1 cs, (l.getD i ([], 0, 0)).2.1, (l.getD i ([], 0, 0)).2.2)].length ≤ 4294967296 := by rw [List.length_singleton]; omega
      refine xi2b.eq8 _ _ _ _ _ ?_
      simp only [xi2b.t8, ix_lt, ix_nn, ix_nat, dec_t g, cond_true, xi1e_eq (show cs.length ≤ 1073741824 by omega) (hp _ hm), Option.bind_some, dec_t h2, wrap_succ (show i < 9223372036854775807 by omega)]
      refine ih (i + 1) _ (by omega) ?_
      rw [ha, List.take_succ_eq_append_getElem g, List.map_append, ← getD_of_lt (z := (([], 0, 0) : GRow)) g]
      rfl
  exact key l.length 0 [] (by omega) rfl
end
/-- What the specification looks at before it rolls up. -/
def lookB (l : List GRow) (w : Int) (k : Int) : Bool := decide (0 ≤ k) && (decide (l.length = 0) || decide (k < w))
theorem spec_roll (l : List GRow) (cs : List Int) (w : Int) (hl : l.length ≤ 1073741824) (hr : ∀ g, g ∈ l → g.1.length ≤ 1073741824) (hcl : cs.length ≤ 1073741824) :
    (cs.all (lookB l w) = true → ∀ b, (bif goodG l then (bif decide ((cs.length : Int) > 6) then some ([], false) else xs2e.l14 cs [] l (l.length : Int) 0) else some ([], false)) = some b → xs2e.l5 l cs w cs (cs.length : Int) 0 = some b) ∧
    (cs.all (lookB l w) = false → xs2e.l5 l cs w cs (cs.length : Int) 0 = some ([], false)) := by
  have e0 := xs1j_eq hl hr
  have step : ∀ i, i < cs.length → ∀ b, (lookB l w (cs.getD i 0) = false → b = ([], false)) → (lookB l w (cs.getD i 0) = true → xs2e.l5 l cs w cs (cs.length : Int) ((i + 1 : Nat) : Int) = some b) → xs2e.l5 l cs w cs (cs.length : Int) (i : Int) = some b := by
    intro i hi b hf ht
    refine xs2e.eq5 _ _ _ _ _ _ ?_
    simp only [xs2e.t5, ix_lt, ix_nn, ix_nat, dec_t hi, cond_true, wrap_succ (show i < 9223372036854775807 by omega)]
    simp only [lookB] at hf ht
    by_cases h1 : cs.getD i 0 < 0
    · simp only [dec_f (show ¬ 0 ≤ cs.getD i 0 by omega), Bool.false_and] at hf
      rw [dec_t h1, cond_true, hf trivial]
    · have h1' : 0 ≤ cs.getD i 0 := by omega
      simp only [dec_t h1', Bool.true_and] at hf ht
      rw [dec_f h1, cond_false]
      by_cases h2 : (l.length : Int) > 0
      · simp only [dec_f (show ¬ l.length = 0 by omega), Bool.false_or] at hf ht
        rw [dec_t h2, cond_true]
        by_cases h3 : cs.getD i 0 ≥ w
        · rw [dec_t h3, cond_true, hf (dec_f (by omega))]
        · rw [dec_f h3, cond_false]
          exact ht (dec_t (by omega))
      · simp only [dec_t (show l.length = 0 by omega), Bool.true_or] at ht
        rw [dec_f h2, cond_false]
        exact ht trivial
  constructor
  · intro ha b hb
    have hall : ∀ i, i ≤ cs.length → xs2e.l5 l cs w cs (cs.length : Int) (i : Int) = some b := by
      refine upto ?_ ?_
      · refine xs2e.eq5 _ _ _ _ _ _ ?_
        simp only [xs2e.t5, ix_lt, Nat.lt_irrefl, decide_false, cond_false, e0, Option.bind_some]
        cases hg : goodG l with
        | false => rw [hg] at hb; exact hb
        | true => rw [hg] at hb; exact hb
      · intro i hi ih
        have hk := List.all_eq_true.1 ha _ (getD_mem (0 : Int) hi)
        exact step i hi b (fun h => by rw [hk] at h; cases h) (fun _ => ih)
    exact hall 0 (Nat.zero_le _)
  · intro ha
    have hbad : ∀ i, i ≤ cs.length → (cs.drop i).all (lookB l w) = false → xs2e.l5 l cs w cs (cs.length : Int) (i : Int) = some ([], false) := by
      refine upto ?_ ?_
      · intro h
        rw [List.drop_length] at h
        cases h
      · intro i hi ih h
        rw [drop_getD (0 : Int) hi, List.all_cons] at h
        refine step i hi _ (fun _ => rfl) (fun hk => ih ?_)
        rw [hk, Bool.true_and] at h
        exact h
    have := hbad 0 (Nat.zero_le _)
    rw [List.drop_zero] at this
    exact this ha
theorem tellG_good (l : List GRow) : goodG (tellG l).1 = true := by
  unfold tellG
  cases h : goodG l with
  | false => rfl
  | true => exact h
theorem tellG_ok {l : List GRow} (h : (tellG l).2 = true) : (tellG l).1 = l := by
  unfold tellG at h ⊢
  cases hg : goodG l with
  | false => rw [hg] at h; cases h
  | true => rfl
theorem rollUp_both (v0 : List GRow) (v1 : List Int) (a1 : v0.length ≤ 1048576) (a2 : ∀ g, g ∈ v0 → g.1.length ≤ 1048576) (hcl : v1.length ≤ 1048576) :
    ∃ (a : List GRow) (ok : Bool), xs2e v0 v1 = some (a, ok) ∧ xi2b v0 v1 = some (a, ok) ∧ szT groupsTy a ≤ 1073741824 ∧ goodG a = true ∧ (ok = true → goodG v0 = true ∧ a = putsG [] (v0.map (rollG v1))) := by
  have hr : ∀ g, g ∈ v0 → g.1.length ≤ 1073741824 := fun w hw => by have := a2 w hw; omega
  have i0 := xi1d_eq (l := v0) (by omega) hr
  have none : ∀ {P : Prop}, szT groupsTy ([] : List GRow) ≤ 1073741824 ∧ goodG ([] : List GRow) = true ∧ (false = true → P) := ⟨by simp [szT], rfl, fun h => by cases h⟩
  have ik := xi1q_eq v0
  have ic := xi1f_eq v1 (klen v0 : Int) (by omega)
  have ia := xi0o_ok v1 (fun k => decide (k ≥ 0)) (by omega) (fun x _ => xi1v.eq x rfl)
  -- the specification's way in
  obtain ⟨s1, s2⟩ := spec_roll v0 v1 (if v0.length = 0 then 1073741824 else (klen v0 : Int)) (by omega) hr (by omega)
  have sin : ∀ b, xs2e.l5 v0 v1 (if v0.length = 0 then 1073741824 else (klen v0 : Int)) v1 (v1.length : Int) 0 = some b → xs2e v0 v1 = some b := by
    intro b hb
    refine xs2e.eq _ _ ?_
    by_cases h : v0.length = 0
    · have h2 : ¬ (v0.length : Int) > 0 := by omega
      rw [if_pos h] at hb
      simp only [xs2e.t, dec_f h2, cond_false]
      exact hb
    · have h2 : (v0.length : Int) > 0 := by omega
      have h3 : Int.toNat 0 < v0.length := by rw [toNat0g]; omega
      rw [if_neg h] at hb
      simp only [xs2e.t, dec_t h2, dec_t h3, cond_true]
      exact hb
  -- when it goes through
  have yes : goodG v0 = true → v1.length ≤ 6 → (∀ g, g ∈ v0 → ∀ k, k ∈ v1 → 0 ≤ k ∧ k.toNat < g.1.length) → ∃ (a : List (List Int × Int × Int)) (ok : Bool), xs2e.l14 v1 [] v0 (v0.length : Int) 0 = some (a, ok) ∧ xi2b.l8 v1 [] v0 (v0.length : Int) 0 = some (a, ok) ∧ szT groupsTy a ≤ 1073741824 ∧ goodG a = true ∧ (ok = true → goodG v0 = true ∧ a = putsG [] (v0.map (rollG v1))) :=
    fun hg hc hp => ⟨_, _, roll_spec hg hc hp, roll_impl hg hc hp, tellG_size _, tellG_good _, fun h => ⟨hg, tellG_ok h⟩⟩
  by_cases h0 : v0.length = 0
  · have e0 : v0 = [] := List.length_eq_zero_iff.1 h0
    have hgood : goodG v0 = true := by rw [e0]; rfl
    have z0 : ((v0.length : Int) == 0) = true := by rw [h0]; rfl
    have hlook : v1.all (lookB v0 (if v0.length = 0 then 1073741824 else (klen v0 : Int))) = v1.all fun k => decide (k ≥ 0) := by
      congr 1
      funext k
      simp only [lookB, h0, decide_true, Bool.true_or, Bool.and_true]
      try rfl
    by_cases h6 : v1.length ≤ 6
    · have h6' : (v1.length : Int) ≤ 6 := by omega
      have h6'' : ¬ (v1.length : Int) > 6 := by omega
      cases hall : v1.all fun k => decide (k ≥ 0) with
      | false => exact ⟨[], false, sin _ (s2 (hlook.trans hall)), xi2b.eq _ _ (by simp only [xi2b.t, ik, ic, z0, dec_t h6', ia, hall, i0, hgood, Option.bind_some, bang_t, bang_f, cond_true, cond_false]), none⟩
      | true =>
        obtain ⟨a, ok, es, ei, hz⟩ := yes hgood h6 (fun g hg => by rw [e0] at hg; cases hg)
        exact ⟨a, ok, sin _ (s1 (hlook.trans hall) _ (by rw [hgood, cond_true, dec_f h6'', cond_false]; exact es)), xi2b.eq _ _ (by
          simp only [xi2b.t, ik, ic, z0, dec_t h6', ia, hall, i0, hgood, Option.bind_some, bang_t, bang_f, cond_true, cond_false]
          exact ei), hz⟩
    · have h6' : ¬ (v1.length : Int) ≤ 6 := by omega
      have h6'' : (v1.length : Int) > 6 := by omega
      have es : xs2e v0 v1 = some ([], false) := by
        cases hall : v1.all fun k => decide (k ≥ 0) with
        | false => exact sin _ (s2 (hlook.trans hall))
        | true => exact sin _ (s1 (hlook.trans hall) _ (by rw [hgood, cond_true, dec_t h6'', cond_true]))
      exact ⟨[], false, es, xi2b.eq _ _ (by simp only [xi2b.t, ik, ic, z0, dec_f h6', i0, hgood, Option.bind_some, bang_t, bang_f, cond_true, cond_false]), none⟩
  · have z0 : ((v0.length : Int) == 0) = false := beq_eq_false_iff_ne.2 (by omega)
    have hlook : v1.all (lookB v0 (if v0.length = 0 then 1073741824 else (klen v0 : Int))) = v1.all (plB (klen v0 : Int)) := by
      congr 1
      funext k
      simp only [lookB, h0, decide_false, Bool.false_or, if_false, plB]
    cases hg : goodG v0 with
    | false =>
      have es : xs2e v0 v1 = some ([], false) := by
        cases hall : v1.all (plB (klen v0 : Int)) with
        | false => exact sin _ (s2 (hlook.trans hall))
        | true => exact sin _ (s1 (hlook.trans hall) _ (by rw [hg, cond_false]))
      exact ⟨[], false, es, xi2b.eq _ _ (by simp only [xi2b.t, ik, ic, z0, i0, hg, Option.bind_some, bang_f, cond_true, cond_false]), none⟩
    | true =>
      cases hc : colsB (klen v0 : Int) v1 with
      | false =>
        have es : xs2e v0 v1 = some ([], false) := by
          cases hall : v1.all (plB (klen v0 : Int)) with
          | false => exact sin _ (s2 (hlook.trans hall))
          | true =>
            have h6 : (v1.length : Int) > 6 := by
              simp only [colsB, hall, Bool.true_and, decide_eq_false_iff_not] at hc
              omega
            exact sin _ (s1 (hlook.trans hall) _ (by rw [hg, cond_true, dec_t h6, cond_true]))
        exact ⟨[], false, es, xi2b.eq _ _ (by simp only [xi2b.t, ik, ic, z0, i0, hg, hc, Option.bind_some, bang_t, bang_f, cond_true, cond_false]), none⟩
      | true =>
        have hc2 := hc
        simp only [colsB, Bool.and_eq_true, decide_eq_true_eq] at hc2
        have h6 : ¬ (v1.length : Int) > 6 := by omega
        obtain ⟨a, ok, es, ei, hz⟩ := yes hg hc2.2 (fun g hgm k hk => by
          have h1 := plB_iff.1 (List.all_eq_true.1 hc2.1 k hk)
          have h2 := (group_rows hg hgm).1
          omega)
        exact ⟨a, ok, sin _ (s1 (hlook.trans hc2.1) _ (by rw [hg, cond_true, dec_f h6, cond_false]; exact es)), xi2b.eq _ _ (by
          simp only [xi2b.t, ik, ic, z0, i0, hg, hc, Option.bind_some, bang_t, bang_f, cond_true, cond_false]
          exact ei), hz.1, hz.2.1, fun h => ⟨rfl, (hz.2.2 h).2⟩⟩
theorem FnExactRollUp_same (v0 : List (List Int × Int × Int)) (v1 : List Int) (w0 : WfT (.sl (.pair (.sl (.int .i64)) (.pair (.int .i64) (.int .i64)))) v0) (hz0 : szT (.sl (.pair (.sl (.int .i64)) (.pair (.int .i64) (.int .i64)))) v0 ≤ 1048576)
    (w1 : WfT (.sl (.int .i64)) v1) (hz1 : szT (.sl (.int .i64)) v1 ≤ 1048576) :
    ∃ (a : List (List Int × Int × Int)) (ok : Bool), xs2e v0 v1 = some (a, ok) ∧ xi2b v0 v1 = some (a, ok) ∧ szT (.sl (.pair (.sl (.int .i64)) (.pair (.int .i64) (.int .i64)))) a ≤ 1073741824 := by
  obtain ⟨a1, a2⟩ := groups_len hz0
  have hcl : v1.length ≤ 1048576 := by have := szT_len (t := .int .i64) (l := v1); omega
  obtain ⟨a, ok, h1, h2, h3, _⟩ := rollUp_both v0 v1 a1 a2 hcl
  exact ⟨a, ok, h1, h2, h3⟩
end GoV

/- Drawing groups: a draw always answers, and what it gives is small. -/
namespace GoV
open Go
def newB (c : Int) (w : WRow) : Bool := (goodR w.1 && ((w.1.length : Int) == c)) && inB (-1000000) 1000000 w.2
theorem spec_new_ok {c : Int} {l : List WRow} (hc : inB 0 6 c = true) (hl : l.length ≤ 200) (hr : ∀ w, w ∈ l → w.1.length ≤ 1073741824) : ∃ (d : Int) (k : List WRow) (ok : Bool), xs20 c l = some (d, k, ok) ∧ (ok = true → d = c ∧ goodT c k = true) := by
  have hn : ¬ (l.length : Int) > 200 := by omega
  obtain ⟨hpl, hpr⟩ := putsL_rows hr
  have loop := puts_all_loop l ([], 0) (newB c) (fun w => w.1) (fun w => w.2) (fun acc i => xs20.l5 c 0 [] acc l (l.length : Int) (i : Int)) (fun acc => (xs2g c acc).bind fun r4 => some (r4.fst, r4.snd.fst, r4.snd.snd)) (0, [], false) (M := 0) (m := 1000000) (N := 0) (Int.le_refl _) (by omega)
    (fun w hw hp => by
      simp only [newB, Bool.and_eq_true, inB_iff] at hp
      exact ⟨hr w hw, hp.2⟩)
    (fun acc b _ hb => xs20.eq5 _ _ _ _ _ _ _ (by simp only [xs20.t5, ix_lt, Nat.lt_irrefl, decide_false, cond_false]; exact hb))
    (fun acc i hi hp => by
      have hw := hr _ (getD_mem ([], 0) hi)
      refine xs20.eq5 _ _ _ _ _ _ _ ?_
      simp only [newB] at hp
      simp only [xs20.t5, ix_lt, ix_nn, ix_nat, dec_t hi, cond_true, xs2a_eq _ hw, xs22_eq, Option.bind_some, bne]
      cases h3 : goodR (l.getD i ([], 0)).1
      · rfl
      · cases h4 : ((l.getD i ([], 0)).1.length : Int) == c
        · rfl
        · rw [h3, h4, Bool.true_and, Bool.true_and] at hp
          simp only [hp, bang_t, bang_f, cond_true, cond_false])
    (fun acc i b hi hp ha hb => by
      have hw := hr _ (getD_mem ([], 0) hi)
      refine xs20.eq5 _ _ _ _ _ _ _ ?_
      simp only [newB, Bool.and_eq_true] at hp
      obtain ⟨⟨h3, h4⟩, h5⟩ := hp
      have h6 := inB_iff.1 h5
      have hwr := ha.wraps (m := 1000000) h6 (by omega)
      simp only [xs20.t5, ix_lt, ix_nn, ix_nat, dec_t hi, cond_true, xs2a_eq _ hw, xs22_eq, Option.bind_some, bne, h3, h4, h5, bang_t, cond_false, xs2j_eq (Nat.le_trans ha.len (by omega)) ha.row hw hwr, wrap_succ (show i < 9223372036854775807 by omega)]
      exact hb) []
  have hs : ∀ b, (bif l.all (newB c) then (xs2g c (putsL [] l)).bind (fun r4 => some (r4.fst, r4.snd.fst, r4.snd.snd)) else some (0, [], false)) = some b → xs20 c l = some b := fun b hb => by
    refine xs20.eq _ _ ?_
    simp only [xs20.t, xs2n_eq, hc, Option.bind_some, bang_t, cond_false, dec_f hn]
    exact loop _ PutOK.nil hb
  have e4 := xs2g_eq c (putsL [] l) (by omega) hpr
  cases ha : l.all (newB c) with
  | false => exact ⟨0, [], false, hs _ (by rw [ha, cond_false]), fun h => by cases h⟩
  | true =>
    cases hg : goodT c (putsL [] l) with
    | false => exact ⟨0, [], false, hs _ (by rw [ha, cond_true, e4, hg]; rfl), fun h => by cases h⟩
    | true => exact ⟨c, putsL [] l, true, hs _ (by rw [ha, cond_true, e4, hg]; rfl), fun _ => ⟨rfl, hg⟩⟩
theorem gt_ok {c : Int} {l : List WRow} {cs : List Int} {k : Int} (hg : goodT c l = true) (hc : colsB c cs = true) (hk : 0 ≤ k ∧ k < c) : ∃ (G : List GRow) (ok : Bool), xs1k c l cs k = some (G, ok) ∧ goodG G = true := by
  have es := cells_spec hg hc hk
  obtain ⟨h1, h2⟩ := goodT_rows hg
  have e1 := xs1r_eq (c := c) (l := l) (by omega) (fun w hw => by have := (h2 w hw).1; omega)
  have hcl : cs.length ≤ 1073741824 := by
    simp only [colsB, Bool.and_eq_true, decide_eq_true_eq] at hc
    omega
  have e3 := xs1s_eq cs c hcl
  have n1 : ¬ k < 0 := by omega
  have n2 : ¬ k ≥ c := by omega
  exact ⟨_, _, xs1k.eq _ _ _ _ (by
    simp only [xs1k.t, e1, hg, e3, hc, dec_f n1, dec_f n2, Option.bind_some, bang_t, cond_false]
    exact es), tellG_good _⟩
def okG (G : List GRow) : Prop := G.length ≤ 60 ∧ ∀ g, g ∈ G → g.1.length ≤ 10
theorem okG_good {G : List GRow} (h : goodG G = true) : okG G := ⟨(goodG_rows h).1, fun g hg => by have := (group_rows h hg).2.1; omega⟩
theorem okG_set {G : List GRow} (h : okG G) (i : Nat) {g : GRow} (hg : g.1.length ≤ 10) : okG (G.set i g) := ⟨by rw [List.length_set]; exact h.1, fun x hx => by
  rcases List.mem_or_eq_of_mem_set hx with hx | rfl
  · exact h.2 x hx
  · exact hg⟩
section
variable {b : List Int} (hb : Byt b)
include hb
theorem pickAny {a : Int} (s k : Int) (h0 : 0 ≤ a) (h1 : a ≤ 1000000) (hk : 1 ≤ k) (hk2 : k ≤ 200) : ∃ x a' s', xs14 b a s k = some (x, b, a', s') ∧ (0 ≤ x ∧ x < k) ∧ a ≤ a' ∧ a' ≤ a + 1 := by
  by_cases h : k ≤ 1
  · exact ⟨0, a, s, xs14.eq _ _ _ _ (by simp only [xs14.t, dec_t h, cond_true]), by omega, by omega, by omega⟩
  · obtain ⟨x, s', e, hx⟩ := pickD_ok hb s k h0 h1 (by omega) hk2
    exact ⟨x, a + 1, s', e, hx, by omega, by omega⟩
theorem few_ok {a : Int} (s : Int) (h0 : 0 ≤ a) (h1 : a ≤ 1000000) : ∃ (n : Nat) (s' : Int), xs17 b a s = some ((n : Int), b, a + 1, s') ∧ 1 ≤ n ∧ n ≤ 3 := by
  obtain ⟨x, s', e, hx⟩ := pickD_ok hb s 3 h0 h1 (by omega) (by omega)
  have hw : IntKind.i64.wrap (1 + x) = ((1 + x).toNat : Int) := by rw [wrap_id (by omega) (by omega)]; omega
  exact ⟨(1 + x).toNat, s', xs17.eq _ _ _ (by simp only [xs17.t, e, hw, Option.bind_some]), by omega, by omega⟩
theorem weight_ok {a : Int} (s : Int) (h0 : 0 ≤ a) (h1 : a ≤ 900000) : ∃ w s', xs0x b a s = some (w, b, a + 1 + 1, s') := by
  obtain ⟨o, s1, e1⟩ := oneD_ok hb (a := a) s 40 h0 (by omega) (by omega) (by omega)
  cases o with
  | true =>
    obtain ⟨x, s2, e2⟩ := amongD_ok hb (a := a + 1) s1 [(0 : Int), (1000000 : Int), (-1000000 : Int), (1000001 : Int)] (by omega) (by omega) (by simp) (by simp)
    exact ⟨x, s2, xs0x.eq _ _ _ (by simp only [xs0x.t, e1, e2, Option.bind_some, cond_true])⟩
  | false =>
    obtain ⟨x, s2, e2⟩ := amongD_ok hb (a := a + 1) s1 [(1 : Int), (1 : Int), (1 : Int), (2 : Int), (-1 : Int), (-1 : Int), (3 : Int)] (by omega) (by omega) (by simp) (by simp)
    exact ⟨x, s2, xs0x.eq _ _ _ (by simp only [xs0x.t, e1, e2, Option.bind_some, cond_false])⟩
theorem cell_ok {a : Int} (s : Int) (h0 : 0 ≤ a) (h1 : a ≤ 900000) : ∃ w s', xs12 b a s = some (w, b, a + 1 + 1, s') := by
  obtain ⟨o, s1, e1⟩ := oneD_ok hb (a := a) s 30 h0 (by omega) (by omega) (by omega)
  cases o with
  | true =>
    obtain ⟨x, s2, e2⟩ := amongD_ok hb (a := a + 1) s1 [(-100000 : Int), (100000 : Int), (-1 : Int), (-100001 : Int), (100001 : Int)] (by omega) (by omega) (by simp) (by simp)
    exact ⟨x, s2, xs12.eq _ _ _ (by simp only [xs12.t, e1, e2, Option.bind_some, cond_true])⟩
  | false =>
    obtain ⟨x, s2, e2, _⟩ := pickD_ok hb (a := a + 1) s1 4 (by omega) (by omega) (by omega) (by omega)
    exact ⟨x, s2, xs12.eq _ _ _ (by simp only [xs12.t, e1, e2, Option.bind_some, cond_false])⟩
theorem row_loop : ∀ (m : Nat) (a s : Int) (acc : List Int), 0 ≤ a → a + 2 * (m : Int) ≤ 900000 → acc.length + m ≤ 1000 → ∃ l a' s', xs19.l1002 b a s (m : Int) acc = some (.inl (l, b, a', s')) ∧ l.length = acc.length + m ∧ a ≤ a' ∧ a' ≤ a + 2 * (m : Int)
  | 0, a, s, acc, h0, h1, h2 => by
    have g : ¬ ((0 : Nat) : Int) > 0 := by omega
    exact ⟨acc, a, s, xs19.eq1002 _ _ _ _ _ (by simp only [xs19.t1002, dec_f g, cond_false]), rfl, by omega, by omega⟩
  | m + 1, a, s, acc, h0, h1, h2 => by
    have g : ((m + 1 : Nat) : Int) > 0 := by omega
    have hw : IntKind.i64.wrap (((m + 1 : Nat) : Int) - 1) = (m : Int) := by rw [wrap_id] <;> omega
    obtain ⟨x, s1, e1⟩ := cell_ok hb s h0 (by omega)
    have g2 : acc.length + [x].length ≤ 4294967296 := by simp only [List.length_cons, List.length_nil]; omega
    obtain ⟨l, a', s', k, k2, k3, k4⟩ := row_loop m (a + 1 + 1) s1 (acc ++ [x]) (by omega) (by omega) (by rw [List.length_append, List.length_singleton]; omega)
    refine ⟨l, a', s', xs19.eq1002 _ _ _ _ _ ?_, by rw [k2, List.length_append, List.length_singleton]; omega, by omega, by omega⟩
    simp only [xs19.t1002, dec_t g, e1, dec_t g2, hw, Option.bind_some, cond_true]
    exact k
theorem row_ok {n : Nat} {a : Int} (s : Int) (h0 : 0 ≤ a) (h1 : a ≤ 800000) (hn : 1 ≤ n) (hn2 : n ≤ 3) : ∃ l a' s', xs19 b a s (n : Int) = some (.inl (l, b, a', s')) ∧ l.length ≤ 10 ∧ a ≤ a' ∧ a' ≤ a + 10 := by
  have g : (n : Int) > 0 := by omega
  have hw : IntKind.i64.wrap ((n : Int) - 1) = ((n - 1 : Nat) : Int) := by rw [wrap_id (by omega) (by omega)]; omega
  obtain ⟨x, s1, e1⟩ := cell_ok hb s h0 (by omega)
  obtain ⟨l, a', s', k, k2, k3, k4⟩ := row_loop hb (n - 1) (a + 1 + 1) s1 [x] (by omega) (by omega) (by rw [List.length_singleton]; omega)
  have k' := xs19.eq2 b a s (n : Int) (b := .inl (l, b, a', s')) (by simp only [xs19.t2, dec_t g, e1, hw, Option.bind_some, cond_true]; exact k)
  exact ⟨l, a', s', xs19.eq _ _ _ _ (by simp only [xs19.t]; exact k'), by rw [k2, List.length_singleton]; omega, by omega, by omega⟩
theorem cells_ok {n : Nat} (hn : n ≤ 3) (m : Int) (rows : List WRow) (hrl : rows.length ≤ 1000) : ∀ (k j : Nat) (a s : Int) (cells : List Int), j + k = n → 0 ≤ a → a + (k : Int) ≤ 500000 → cells.length ≤ j →
    ∃ cells' w a' s', cells'.length ≤ 10 ∧ a ≤ a' ∧ a' ≤ a + k + 2 ∧ ∀ r, xs0r.l2 b a' s' (n : Int) (IntKind.i64.wrap (m - 1)) (rows ++ [(cells', w)]) = some r → xs0r.l6 b a s (n : Int) m rows cells (j : Int) = some r
  | 0, j, a, s, cells, hj, h0, h1, hc => by
    have e : j = n := by omega
    subst e
    obtain ⟨w, s1, e1⟩ := weight_ok hb s h0 (by omega)
    have g2 : rows.length + [(cells, w)].length ≤ 4294967296 := by simp only [List.length_cons, List.length_nil]; omega
    refine ⟨cells, w, a + 1 + 1, s1, by omega, by omega, by omega, fun r hr => xs0r.eq6 _ _ _ _ _ _ _ _ ?_⟩
    simp only [xs0r.t6, ix_lt, Nat.lt_irrefl, decide_false, cond_false, e1, Option.bind_some, dec_t g2, cond_true]
    exact hr
  | k + 1, j, a, s, cells, hj, h0, h1, hc => by
    have g : j < n := by omega
    obtain ⟨x, s1, e1, _⟩ := pickD_ok hb s 4 h0 (by omega) (by omega) (by omega)
    have g2 : cells.length + [x].length ≤ 4294967296 := by simp only [List.length_cons, List.length_nil]; omega
    obtain ⟨cells', w, a', s', k1, k2, k3, k4⟩ := cells_ok hn m rows hrl k (j + 1) (a + 1) s1 (cells ++ [x]) (by omega) (by omega) (by omega) (by rw [List.length_append, List.length_singleton]; omega)
    refine ⟨cells', w, a', s', k1, by omega, by omega, fun r hr => xs0r.eq6 _ _ _ _ _ _ _ _ ?_⟩
    simp only [xs0r.t6, ix_lt, dec_t g, e1, Option.bind_some, dec_t g2, cond_true, wrap_succ (show j < 9223372036854775807 by omega)]
    exact k4 r hr
theorem weighted_loop {n : Nat} (hn : n ≤ 3) : ∀ (m : Nat) (a s : Int) (rows : List WRow), 0 ≤ a → a + 10 * (m : Int) ≤ 400000 → rows.length + m ≤ 1000 → (∀ w, w ∈ rows → w.1.length ≤ 10) →
    ∃ l a' s', xs0r.l2 b a s (n : Int) (m : Int) rows = some (l, b, a', s') ∧ l.length = rows.length + m ∧ (∀ w, w ∈ l → w.1.length ≤ 10) ∧ a ≤ a' ∧ a' ≤ a + 10 * (m : Int)
  | 0, a, s, rows, h0, h1, h2, h3 => by
    have g : ¬ ((0 : Nat) : Int) > 0 := by omega
    exact ⟨rows, a, s, xs0r.eq2 _ _ _ _ _ _ (by simp only [xs0r.t2, dec_f g, cond_false]), rfl, h3, by omega, by omega⟩
  | m + 1, a, s, rows, h0, h1, h2, h3 => by
    have g : ((m + 1 : Nat) : Int) > 0 := by omega
    have hw : IntKind.i64.wrap (((m + 1 : Nat) : Int) - 1) = (m : Int) := by rw [wrap_id] <;> omega
    obtain ⟨cells', w, a1, s1, k1, k2, k3, k4⟩ := cells_ok hb hn ((m + 1 : Nat) : Int) rows (by omega) n 0 a s [] (by omega) h0 (by omega) (by simp)
    obtain ⟨l, a', s', q1, q2, q3, q4, q5⟩ := weighted_loop hn m a1 s1 (rows ++ [(cells', w)]) (by omega) (by omega) (by rw [List.length_append, List.length_singleton]; omega) (fun x hx => by
      rcases List.mem_append.1 hx with hx | hx
      · exact h3 x hx
      · rw [List.mem_singleton.1 hx]; exact k1)
    refine ⟨l, a', s', xs0r.eq2 _ _ _ _ _ _ ?_, by rw [q2, List.length_append, List.length_singleton]; omega, q3, by omega, by omega⟩
    simp only [xs0r.t2, dec_t g, cond_true]
    exact k4 _ (by rw [hw]; exact q1)
theorem clean_ok {n : Nat} {a : Int} (s : Int) (h0 : 0 ≤ a) (h1 : a ≤ 100000) (hn2 : n ≤ 3) : ∃ (l : List WRow) (a' s' : Int), xs10 b a s (n : Int) = some ((n : Int), l, b, a', s') ∧ goodT (n : Int) l = true ∧ a ≤ a' ∧ a' ≤ a + 100 := by
  obtain ⟨m, s1, e1, hm⟩ := pickD_ok hb s 8 h0 (by omega) (by omega) (by omega)
  obtain ⟨l, a', s', q1, q2, q3, q4, q5⟩ := weighted_loop hb hn2 m.toNat (a + 1) s1 [] (by omega) (by omega) (by simp only [List.length_nil]; omega) (fun w hw => by cases hw)
  rw [Int.toNat_of_nonneg hm.1] at q1
  have q0 := xs0r.eq b (a + 1) s1 (n : Int) m (b := (l, b, a', s')) (by simp only [xs0r.t]; exact q1)
  have hc : inB 0 6 (n : Int) = true := inB_iff.2 ⟨by omega, by omega⟩
  obtain ⟨d, k, ok, e2, hok⟩ := spec_new_ok (c := (n : Int)) (l := l) hc (by rw [q2]; simp only [List.length_nil]; omega) (fun w hw => by have := q3 w hw; omega)
  cases ok with
  | true =>
    obtain ⟨rfl, hg⟩ := hok rfl
    exact ⟨k, a', s', xs10.eq _ _ _ _ (by simp only [xs10.t, e1, q0, e2, Option.bind_some, bang_t, cond_false]), hg, by omega, by omega⟩
  | false =>
    have hg : goodT (n : Int) [] = true := goodT_nil ⟨by omega, by omega⟩
    have e3 := xs2g_eq (n : Int) [] (by simp) (fun w hw => by cases hw)
    rw [hg] at e3
    have e4 := xs1i.eq (n : Int) (b := ((n : Int), [], true)) (by simp only [xs1i.t, e3, cond_true, Option.bind_some])
    exact ⟨[], a', s', xs10.eq _ _ _ _ (by simp only [xs10.t, e1, q0, e2, e4, Option.bind_some, bang_f, cond_true]), hg, by omega, by omega⟩
theorem groups_loop {n : Nat} (hn : 1 ≤ n) (hn2 : n ≤ 3) {l : List WRow} (hg : goodT (n : Int) l = true) {a : Int} (s : Int) (h0 : 0 ≤ a) (h1 : a ≤ 200000) : ∀ (k j : Nat) (acc : List Int), j + k + 1 = n → acc.length = j → (∀ x, x ∈ acc → 0 ≤ x ∧ x < (n : Int)) →
    ∃ (G : List GRow) (a' s' : Int), xs0w.l4 b a s (n : Int) (n : Int) l acc (j : Int) = some (G, b, a', s') ∧ okG G ∧ a ≤ a' ∧ a' ≤ a + 20
  | k + 1, j, acc, hj, hl, hx => by
    have hw : IntKind.i64.wrap ((n : Int) - 1) = ((n - 1 : Nat) : Int) := by rw [wrap_id (by omega) (by omega)]; omega
    have g : j < n - 1 := by omega
    have g2 : acc.length + [(j : Int)].length ≤ 4294967296 := by simp only [List.length_cons, List.length_nil]; omega
    obtain ⟨G, a', s', e, q⟩ := groups_loop hn hn2 hg s h0 h1 k (j + 1) (acc ++ [(j : Int)]) (by omega) (by rw [List.length_append, List.length_singleton]; omega) (fun x hxm => by
      rcases List.mem_append.1 hxm with hxm | hxm
      · exact hx x hxm
      · rw [List.mem_singleton.1 hxm]; omega)
    refine ⟨G, a', s', xs0w.eq4 _ _ _ _ _ _ _ _ ?_, q⟩
    simp only [xs0w.t4, hw, ix_lt, dec_t g, dec_t g2, cond_true, wrap_succ (show j < 9223372036854775807 by omega)]
    exact e
  | 0, j, acc, hj, hl, hx => by
    have hw : IntKind.i64.wrap ((n : Int) - 1) = ((n - 1 : Nat) : Int) := by rw [wrap_id (by omega) (by omega)]; omega
    have g : ¬ j < n - 1 := by omega
    have hc : colsB (n : Int) acc = true := by
      simp only [colsB, Bool.and_eq_true, List.all_eq_true, decide_eq_true_eq]
      exact ⟨fun x h => plB_iff.2 (hx x h), by omega⟩
    obtain ⟨G, ok, e, hgood⟩ := gt_ok hg hc (k := ((n - 1 : Nat) : Int)) (by omega)
    have hok := okG_good hgood
    by_cases hG : (G.length : Int) > 0
    · obtain ⟨o, s1, e1⟩ := oneD_ok hb (a := a) s 20 h0 (by omega) (by omega) (by omega)
      cases o with
      | false => exact ⟨G, a + 1, s1, xs0w.eq4 _ _ _ _ _ _ _ _ (by simp only [xs0w.t4, hw, ix_lt, dec_f g, cond_false, e, dec_t hG, e1, Option.bind_some, cond_true]), hok, by omega, by omega⟩
      | true =>
        have h60 := hok.1
        obtain ⟨i, a2, s2, e2, hi, hi2, hi3⟩ := pickAny hb (a := a + 1) s1 (G.length : Int) (by omega) (by omega) (by omega) (by omega)
        obtain ⟨z, s3, e3, _⟩ := pickD_ok hb (a := a2) s2 3 (by omega) (by omega) (by omega) (by omega)
        have gi : i.toNat < G.length := by omega
        have hrow := hok.2 _ (getD_mem (([], 0, 0) : GRow) gi)
        cases z0 : z == 0 with
        | true => exact ⟨G.set i.toNat ((G.getD i.toNat ([], 0, 0)).1, 0, (G.getD i.toNat ([], 0, 0)).2.2), a2 + 1, s3, xs0w.eq4 _ _ _ _ _ _ _ _ (by simp only [xs0w.t4, hw, ix_lt, dec_f g, cond_false, e, dec_t hG, e1, e2, e3, z0, dec_t hi.1, dec_t gi, Option.bind_some, cond_true]), okG_set hok _ hrow, by omega, by omega⟩
        | false =>
          cases z1 : z == 1 with
          | true =>
            obtain ⟨v, s4, e4⟩ := amongD_ok hb (a := a2 + 1) s3 [(100000000000000 : Int), (100000000000001 : Int)] (by omega) (by omega) (by simp) (by simp)
            exact ⟨G.set i.toNat ((G.getD i.toNat ([], 0, 0)).1, (G.getD i.toNat ([], 0, 0)).2.1, v), a2 + 1 + 1, s4, xs0w.eq4 _ _ _ _ _ _ _ _ (by simp only [xs0w.t4, hw, ix_lt, dec_f g, cond_false, e, dec_t hG, e1, e2, e3, e4, z0, z1, dec_t hi.1, dec_t gi, Option.bind_some, cond_true]), okG_set hok _ hrow, by omega, by omega⟩
          | false =>
            obtain ⟨r, a4, s4, e4, hr, hr2, hr3⟩ := row_ok hb (n := n) (a := a2 + 1) s3 (by omega) (by omega) hn hn2
            exact ⟨G.set i.toNat (r, (G.getD i.toNat ([], 0, 0)).2), a4, s4, xs0w.eq4 _ _ _ _ _ _ _ _ (by simp only [xs0w.t4, hw, ix_lt, dec_f g, cond_false, e, dec_t hG, e1, e2, e3, e4, z0, z1, dec_t hi.1, dec_t gi, Option.bind_some, cond_true, Sum.isLeft_inl, inL]), okG_set hok _ hr, by omega, by omega⟩
    · exact ⟨G, a, s, xs0w.eq4 _ _ _ _ _ _ _ _ (by simp only [xs0w.t4, hw, ix_lt, dec_f g, cond_false, e, dec_f hG, Option.bind_some]), hok, by omega, by omega⟩
theorem groups_ok' {n : Nat} {a : Int} (s : Int) (h0 : 0 ≤ a) (h1 : a ≤ 100000) (hn : 1 ≤ n) (hn2 : n ≤ 3) : ∃ (G : List GRow) (a' s' : Int), xs0w b a s (n : Int) = some (G, b, a', s') ∧ okG G ∧ a ≤ a' ∧ a' ≤ a + 200 := by
  obtain ⟨l, a1, s1, e1, hg, k1, k2⟩ := clean_ok hb (n := n) s h0 h1 hn2
  obtain ⟨G, a', s', e2, q, k3, k4⟩ := groups_loop hb hn hn2 hg (a := a1) s1 (by omega) (by omega) (n - 1) 0 [] (by omega) rfl (fun x hx => by cases hx)
  exact ⟨G, a', s', xs0w.eq _ _ _ _ (by simp only [xs0w.t, e1, Option.bind_some]; exact e2), q, by omega, by omega⟩
theorem columns_loop {k : Nat} (hk : k ≤ 2) : ∀ (m : Nat) (a s : Int) (acc : List Int), 0 ≤ a → a + (m : Int) ≤ 500000 → acc.length + m ≤ 10 → ∃ l a' s', xs0u.l3 b a s (k : Int) acc (m : Int) = some (l, b, a', s') ∧ l.length ≤ 11
  | 0, a, s, acc, h0, h1, h2 => by
    have g : ¬ ((0 : Nat) : Int) > 0 := by omega
    obtain ⟨o, s1, e1⟩ := oneD_ok hb (a := a) s 30 h0 (by omega) (by omega) (by omega)
    have g2 : acc.length + [(k : Int)].length ≤ 4294967296 := by simp only [List.length_cons, List.length_nil]; omega
    cases o with
    | true => exact ⟨acc ++ [(k : Int)], a + 1, s1, xs0u.eq3 _ _ _ _ _ _ (by simp only [xs0u.t3, dec_f g, cond_false, e1, Option.bind_some, cond_true, dec_t g2]), by rw [List.length_append, List.length_singleton]; omega⟩
    | false => exact ⟨acc, a + 1, s1, xs0u.eq3 _ _ _ _ _ _ (by simp only [xs0u.t3, dec_f g, cond_false, e1, Option.bind_some]), by omega⟩
  | m + 1, a, s, acc, h0, h1, h2 => by
    have g : ((m + 1 : Nat) : Int) > 0 := by omega
    have hw : IntKind.i64.wrap (((m + 1 : Nat) : Int) - 1) = (m : Int) := by rw [wrap_id] <;> omega
    by_cases hk0 : (k : Int) > 0
    · obtain ⟨x, a1, s1, e1, _, k2, k3⟩ := pickAny hb s (k : Int) h0 (by omega) (by omega) (by omega)
      have g2 : acc.length + [x].length ≤ 4294967296 := by simp only [List.length_cons, List.length_nil]; omega
      obtain ⟨l, a', s', e, q⟩ := columns_loop hk m a1 s1 (acc ++ [x]) (by omega) (by omega) (by rw [List.length_append, List.length_singleton]; omega)
      refine ⟨l, a', s', xs0u.eq3 _ _ _ _ _ _ ?_, q⟩
      simp only [xs0u.t3, dec_t g, dec_t hk0, cond_true, e1, Option.bind_some, dec_t g2, hw]
      exact e
    · obtain ⟨o, s1, e1⟩ := oneD_ok hb (a := a) s 30 h0 (by omega) (by omega) (by omega)
      have g2 : acc.length + [(k : Int)].length ≤ 4294967296 := by simp only [List.length_cons, List.length_nil]; omega
      cases o with
      | true => exact ⟨acc ++ [(k : Int)], a + 1, s1, xs0u.eq3 _ _ _ _ _ _ (by simp only [xs0u.t3, dec_t g, dec_f hk0, cond_false, e1, Option.bind_some, cond_true, dec_t g2]), by rw [List.length_append, List.length_singleton]; omega⟩
      | false => exact ⟨acc, a + 1, s1, xs0u.eq3 _ _ _ _ _ _ (by simp only [xs0u.t3, dec_t g, dec_f hk0, cond_false, cond_true, e1, Option.bind_some]), by omega⟩
theorem drawRoll_ok : ∃ (G : List GRow) (cs : List Int), xs1h b = some (G, cs) ∧ okG G ∧ cs.length ≤ 11 := by
  obtain ⟨n, s1, e1, hn, hn2⟩ := few_ok hb (a := 0) 0 (by omega) (by omega)
  obtain ⟨G, a2, s2, e2, q, k1, k2⟩ := groups_ok' hb (a := 0 + 1) s1 (by omega) (by omega) hn hn2
  have hw : IntKind.i64.wrap ((n : Int) - 1) = ((n - 1 : Nat) : Int) := by rw [wrap_id (by omega) (by omega)]; omega
  obtain ⟨m, s3, e3, hm⟩ := pickD_ok hb (a := a2) s2 4 (by omega) (by omega) (by omega) (by omega)
  obtain ⟨l, a', s', e4, q2⟩ := columns_loop hb (k := n - 1) (by omega) m.toNat (a2 + 1) s3 [] (by omega) (by omega) (by simp only [List.length_nil]; omega)
  rw [Int.toNat_of_nonneg hm.1] at e4
  have e5 := xs0u.eq b a2 s2 ((n - 1 : Nat) : Int) (b := (l, b, a', s')) (by simp only [xs0u.t, e3, Option.bind_some]; exact e4)
  exact ⟨G, l, xs1h.eq _ (by simp only [xs1h.t, e1, e2, hw, e5, Option.bind_some]), q, q2⟩
theorem drawGroups_ok : ∃ G : List GRow, xs0t b = some G ∧ okG G := by
  obtain ⟨n, s1, e1, hn, hn2⟩ := few_ok hb (a := 0) 0 (by omega) (by omega)
  obtain ⟨G, a2, s2, e2, q, _⟩ := groups_ok' hb (a := 0 + 1) s1 (by omega) (by omega) hn hn2
  have e3 := xs11.eq b (b := G) (by simp only [xs11.t, e1, e2, Option.bind_some])
  exact ⟨G, xs0t.eq _ (by simp only [xs0t.t, e3, Option.bind_some]), q⟩
end
end GoV

/- Groups as tables; sums of all groups: the plain side. -/
namespace GoV
open Go
def totG (p : Bool) : List GRow → Int
  | [] => 0
  | w :: l => cmpt p w.2 + totG p l
theorem totG_append (p : Bool) : ∀ a b, totG p (a ++ b) = totG p a + totG p b
  | [], b => by rw [List.nil_append, totG, Int.zero_add]
  | w :: a, b => by rw [List.cons_append, totG, totG, totG_append p a b, Int.add_assoc]
theorem totG_one (p : Bool) (r : List Int) (n : Int × Int) : totG p (oneG r n) = cmpt p n := by
  unfold oneG
  split
  · rename_i h; rw [h, cmpt_zero]; rfl
  · rw [totG, totG, Int.add_zero]
theorem totG_put (p : Bool) : ∀ (l : List GRow) (r : List Int) (n : Int × Int), totG p (putG l r n) = totG p l + cmpt p n
  | [], r, n => by rw [putG, totG_one, totG, Int.zero_add]
  | w :: l, r, n => by
    rw [putG]
    split
    · rw [totG, totG, totG_put p l r n, Int.add_assoc]
    · split
      · rw [totG_append, totG_one, cmpt_add, totG]; omega
      · rw [totG_append, totG_one, totG]; omega
theorem totG_puts (p : Bool) : ∀ (b a : List GRow), totG p (putsG a b) = totG p a + totG p b
  | [], a => by rw [putsG, List.foldl_nil, totG, Int.add_zero]
  | w :: b, a => by
    have := totG_puts p b (putG a w.1 w.2)
    rw [putsG] at this ⊢
    rw [List.foldl_cons, this, totG_put, totG, Int.add_assoc]
theorem totG_map (p : Bool) (f : GRow → GRow) (h : ∀ w, (f w).2 = w.2) : ∀ l : List GRow, totG p (l.map f) = totG p l
  | [] => rfl
  | w :: l => by rw [List.map_cons, totG, totG, h w, totG_map p f h l]
theorem totG_snoc (p : Bool) (l : List GRow) (w : GRow) : totG p (l ++ [w]) = totG p l + cmpt p w.2 := by rw [totG_append, totG, totG, Int.add_zero]
/-- A group as a row. -/
def asW (g : GRow) : WRow := (g.1 ++ [g.2.1, g.2.2], 1)
theorem cmpL_ext : ∀ {a b : List Int} (x y : List Int), a.length = b.length → cmpL a b < 0 → cmpL (a ++ x) (b ++ y) < 0
  | [], [], x, y, _, h => by
    rw [cmpL_refl] at h; omega
  | [], b :: q, x, y, hl, _ => by cases hl
  | a :: r, [], x, y, hl, _ => by cases hl
  | a :: r, b :: q, x, y, hl, h => by
    rw [List.cons_append, List.cons_append]
    simp only [cmpL] at h ⊢
    split at h
    · rename_i c1; rw [if_pos c1]; omega
    · rename_i c1
      rw [if_neg c1]
      split at h
      · rename_i c2; rw [if_pos c2]; omega
      · rename_i c2
        rw [if_neg c2]
        exact cmpL_ext x y (by simpa using hl) h
def cellB (n : Int) : Bool := inB (-100000) 100000 n
def colsOf (l : List GRow) : Int := if l = [] then 0 else (klen l : Int) + 2
/-- When groups are a good table. -/
theorem asW_good {l : List GRow} (h : goodG l = true) : goodT (colsOf l) (l.map asW) = (decide ((klen l : Int) ≤ 4) && l.all fun g => cellB g.2.1 && cellB g.2.2) := by
  obtain ⟨h1, h2, h3⟩ := goodG_iff.1 h
  by_cases hn : l = []
  · subst hn
    rfl
  · refine bool_eq ?_
    rw [goodT_iff, Bool.and_eq_true, decide_eq_true_eq, List.all_eq_true]
    have hc : colsOf l = (klen l : Int) + 2 := by rw [colsOf, if_neg hn]
    rw [hc]
    constructor
    · rintro ⟨⟨_, g2⟩, _, g3, _⟩
      refine ⟨by omega, fun g hg => ?_⟩
      have := (rowB_iff.1 (g3 (asW g) (List.mem_map.2 ⟨g, hg, rfl⟩))).1
      simp only [asW, goodR, Bool.and_eq_true, List.all_append, List.all_cons, List.all_nil, Bool.and_true] at this
      simp only [cellB, this.1.2.1, this.1.2.2, Bool.and_self]
    · rintro ⟨g1, g2⟩
      refine ⟨⟨by omega, by omega⟩, by rw [List.length_map]; exact h1, fun w hw => ?_, ?_⟩
      · obtain ⟨g, hg, rfl⟩ := List.mem_map.1 hw
        obtain ⟨q1, q2, _⟩ := grB_iff.1 (h2 g hg)
        have hc2 := g2 g hg
        simp only [Bool.and_eq_true, cellB] at hc2
        simp only [goodR, Bool.and_eq_true, decide_eq_true_eq] at q1
        refine rowB_iff.2 ⟨?_, ?_, by show -1000000 ≤ (1 : Int) ∧ (1 : Int) ≤ 1000000; omega, by show (1 : Int) ≠ 0; omega⟩
        · simp only [asW, goodR, Bool.and_eq_true, List.all_append, List.all_cons, List.all_nil, Bool.and_true, decide_eq_true_eq, List.length_append, List.length_cons, List.length_nil]
          exact ⟨⟨q1.1, hc2.1, hc2.2⟩, by omega⟩
        · simp only [asW, List.length_append, List.length_cons, List.length_nil]
          omega
      · refine List.pairwise_map.2 ?_
        have h4 : l.Pairwise fun a b => (a.1.length = klen l ∧ b.1.length = klen l) ∧ ltR a.1 b.1 := by
          refine (List.Pairwise.and_mem.1 h3).imp fun {a b} hab => ?_
          exact ⟨⟨(grB_iff.1 (h2 a hab.1)).2.1, (grB_iff.1 (h2 b hab.2.1)).2.1⟩, hab.2.2⟩
        refine h4.imp fun {a b} hab => ?_
        have hlt : cmpL a.1 b.1 < 0 := by simpa [ltR] using hab.2
        have := cmpL_ext [a.2.1, a.2.2] [b.2.1, b.2.2] (by omega) hlt
        simpa [ltR, asW] using this
theorem short_keys {l : List GRow} (hs : sortedG l) (hk : ∀ w, w ∈ l → w.1 = []) : l.length ≤ 1 := by
  match l, hs, hk with
  | [], _, _ => simp
  | [_], _, _ => simp
  | a :: b :: r, hs, hk =>
    have h1 := (List.pairwise_cons.1 hs).1 b (by simp)
    rw [hk a (by simp), hk b (by simp)] at h1
    simp [ltR, cmpL_refl] at h1
end GoV

/- Rolling up keeps the totals; with no columns at most one group is left; groups as a table are plain: the law, for each draw. -/
namespace GoV
open Go
theorem ints_self (a : List Int) (h : a.length ≤ 1073741824) : xl1z a a = some true := by
  have key : ∀ i, i ≤ a.length → xl1z.l4 a a (a.length : Int) (i : Int) = some true := by
    refine upto ?_ ?_
    · exact xl1z.eq4 _ _ _ _ (by simp only [xl1z.t4, ix_lt, Nat.lt_irrefl, decide_false, cond_false])
    · intro i hi ih
      exact xl1z.eq4 _ _ _ _ (by simp only [xl1z.t4, ix_lt, ix_nn, ix_nat, dec_t hi, cond_true, bne_ref, cond_false, wrap_succ (show i < 9223372036854775807 by omega), ih])
  exact xl1z.eq _ _ (by simp only [xl1z.t, bne_ref, cond_false]; exact key 0 (Nat.zero_le _))
theorem row_self (a : List Int) (h : a.length ≤ 1073741824) : xl29 a a = some true := xl29.eq _ _ (by simp only [xl29.t, ints_self a h, Option.bind_some])
theorem groups_self (l : List GRow) (h : l.length ≤ 1073741824) (hr : ∀ g, g ∈ l → g.1.length ≤ 1073741824) : xl1g l l = some true := by
  have key : ∀ i, i ≤ l.length → xl1g.l4 l l (l.length : Int) (i : Int) = some true := by
    refine upto ?_ ?_
    · exact xl1g.eq4 _ _ _ _ (by simp only [xl1g.t4, ix_lt, Nat.lt_irrefl, decide_false, cond_false])
    · intro i hi ih
      have e := row_self _ (hr _ (getD_mem (([], 0, 0) : GRow) hi))
      exact xl1g.eq4 _ _ _ _ (by simp only [xl1g.t4, ix_lt, ix_nn, ix_nat, dec_t hi, cond_true, e, Option.bind_some, bang_t, bne_ref, cond_false, wrap_succ (show i < 9223372036854775807 by omega), ih])
  exact xl1g.eq _ _ (by simp only [xl1g.t, bne_ref, cond_false]; exact key 0 (Nat.zero_le _))
theorem same_self (c : Int) (l : List WRow) (h : l.length ≤ 1073741824) (hr : ∀ g, g ∈ l → g.1.length ≤ 1073741824) : xl2m c l c l = some true := by
  have key : ∀ i, i ≤ l.length → xl2m.l4 c l c l (l.length : Int) (i : Int) = some true := by
    refine upto ?_ ?_
    · exact xl2m.eq4 _ _ _ _ _ _ (by simp only [xl2m.t4, ix_lt, Nat.lt_irrefl, decide_false, cond_false])
    · intro i hi ih
      have e := row_self _ (hr _ (getD_mem (([], 0) : WRow) hi))
      exact xl2m.eq4 _ _ _ _ _ _ (by simp only [xl2m.t4, ix_lt, ix_nn, ix_nat, dec_t hi, cond_true, e, Option.bind_some, bang_t, bne_ref, cond_false, wrap_succ (show i < 9223372036854775807 by omega), ih])
  exact xl2m.eq _ _ _ _ (by simp only [xl2m.t, bne_ref, cond_false]; exact key 0 (Nat.zero_le _))
/-! ## Totals -/
def totsG (l : List GRow) : Int × Int × Bool := bif goodG l && (sumB (totG true l) && sumB (totG false l)) then (totG true l, totG false l, true) else (0, 0, false)
theorem tot_bound {M : Int} (hM : 0 ≤ M) : ∀ l : List GRow, (∀ g, g ∈ l → boxG M g.2) → boxG (M * (l.length : Int)) (totG true l, totG false l)
  | [], _ => by simp only [totG, List.length_nil]; exact boxG_zero (by simp)
  | g :: l, h => by
    obtain ⟨⟨h1, h2⟩, h3, h4⟩ := tot_bound hM l fun x hx => h x (List.mem_cons_of_mem _ hx)
    obtain ⟨⟨q1, q2⟩, q3, q4⟩ := h g (by simp)
    have e : M * ((g :: l).length : Int) = M * (l.length : Int) + M := by rw [List.length_cons, Int.natCast_succ, Int.mul_add, Int.mul_one]
    simp only [totG, cmpt, cond_true, cond_false] at h1 h2 h3 h4 ⊢
    rw [e]
    exact ⟨⟨by show _ ≤ _; omega, by show _ ≤ _; omega⟩, by show _ ≤ _; omega, by show _ ≤ _; omega⟩
theorem impl_totals_eq {l : List GRow} (hl : l.length ≤ 1073741824) (hr : ∀ g, g ∈ l → g.1.length ≤ 1073741824) : xi1w l = some (totsG l) := by
  have e := xi1d_eq hl hr
  refine xi1w.eq _ ?_
  simp only [xi1w.t, e, Option.bind_some, totsG]
  cases hg : goodG l with
  | false => rfl
  | true =>
    simp only [bang_t, cond_false, Bool.true_and]
    have h60 := (goodG_rows hg).1
    have key : ∀ (n i : Nat), i + n = l.length → xi1w.l5 (totG true (l.take i)) (totG false (l.take i)) l (l.length : Int) (i : Int) = some (bif sumB (totG true l) && sumB (totG false l) then (totG true l, totG false l, true) else (0, 0, false)) := by
      intro n
      induction n with
      | zero =>
        intro i hi
        have e : i = l.length := by omega
        subst e
        rw [List.take_length]
        refine xi1w.eq5 _ _ _ _ _ ?_
        simp only [xi1w.t5, ix_lt, Nat.lt_irrefl, decide_false, cond_false, xi2i_eq, Option.bind_some]
        cases sumB (totG true l)
        · rfl
        · cases sumB (totG false l) <;> rfl
      | succ n ih =>
        intro i hi
        have g : i < l.length := by omega
        have hb := tot_bound (M := 100000000000000) (by omega) (l.take (i + 1)) fun x hx => (group_rows hg (List.mem_of_mem_take hx)).2.2
        have hlen : (l.take (i + 1)).length = i + 1 := by rw [List.length_take]; omega
        rw [hlen] at hb
        have e1 : ∀ p, totG p (l.take (i + 1)) = totG p (l.take i) + cmpt p (l.getD i ([], 0, 0)).2 := fun p => by
          rw [List.take_succ_eq_append_getElem g, totG_snoc, getD_of_lt g]
        obtain ⟨⟨b1, b2⟩, b3, b4⟩ := hb
        have t1 := e1 true
        have t2 := e1 false
        simp only [cmpt, cond_true, cond_false] at t1 t2
        simp only at b1 b2 b3 b4
        have w1 : IntKind.i64.wrap (totG true (l.take i) + (l.getD i ([], 0, 0)).2.1) = totG true (l.take (i + 1)) := by rw [← t1, wrap_id (by omega) (by omega)]
        have w2 : IntKind.i64.wrap (totG false (l.take i) + (l.getD i ([], 0, 0)).2.2) = totG false (l.take (i + 1)) := by rw [← t2, wrap_id (by omega) (by omega)]
        refine xi1w.eq5 _ _ _ _ _ ?_
        simp only [xi1w.t5, ix_lt, ix_nn, ix_nat, dec_t g, cond_true, w1, w2, wrap_succ (show i < 9223372036854775807 by omega)]
        exact ih (i + 1) (by omega)
    exact key l.length 0 (by omega)
/-! ## Groups as a table -/
theorem asW_rows {l : List GRow} (hl : okG l) : (l.map asW).length ≤ 60 ∧ ∀ w, w ∈ l.map asW → w.1.length ≤ 12 := by
  refine ⟨by rw [List.length_map]; exact hl.1, fun w hw => ?_⟩
  obtain ⟨g, hg, rfl⟩ := List.mem_map.1 hw
  have := hl.2 g hg
  simp only [asW, List.length_append, List.length_cons, List.length_nil]
  omega
def tabG (l : List GRow) : Int × List WRow × Bool := bif goodG l && goodT (colsOf l) (l.map asW) then (colsOf l, l.map asW, true) else (0, [], false)
theorem spec_table_eq {l : List GRow} (hl : okG l) : xs16 l = some (tabG l) := by
  obtain ⟨h60, hr⟩ := hl
  have e := xs1j_eq (l := l) (by omega) (fun g hg => by have := hr g hg; omega)
  refine xs16.eq _ ?_
  simp only [xs16.t, e, Option.bind_some, tabG]
  cases hg : goodG l with
  | false => rfl
  | true =>
    simp only [bang_t, cond_false, Bool.true_and]
    obtain ⟨q1, q2⟩ := asW_rows ⟨h60, hr⟩
    have eg := xs1r_eq (c := colsOf l) (l := l.map asW) (by omega) (fun w hw => by have := q2 w hw; omega)
    have key : ∀ (n i : Nat) (c : Int) (acc : List WRow), i + n = l.length → acc = (l.take i).map asW → (c = if i = 0 then 0 else (klen l : Int) + 2) → xs16.l5 0 [] c acc l (l.length : Int) (i : Int) = some (bif goodT (colsOf l) (l.map asW) then (colsOf l, l.map asW, true) else (0, [], false)) := by
      intro n
      induction n with
      | zero =>
        intro i c acc hi ha hc
        have e : i = l.length := by omega
        subst e
        rw [List.take_length] at ha
        subst ha
        have hcc : c = colsOf l := by
          rw [hc, colsOf]
          by_cases h0 : l = []
          · rw [if_pos h0, if_pos (by rw [h0]; rfl)]
          · rw [if_neg h0, if_neg (fun h => h0 (List.length_eq_zero_iff.1 h))]
        rw [hcc]
        refine xs16.eq5 _ _ _ _ _ _ _ ?_
        simp only [xs16.t5, ix_lt, Nat.lt_irrefl, decide_false, cond_false, eg, Option.bind_some]
        cases goodT (colsOf l) (l.map asW) <;> rfl
      | succ n ih =>
        intro i c acc hi ha hc
        have g : i < l.length := by omega
        have hm := getD_mem (([], 0, 0) : GRow) g
        have hk := (group_rows hg hm).1
        have hx := hr _ hm
        have hal : acc.length = i := by rw [ha, List.length_map, List.length_take]; omega
        have g1 : ([] : List Int).length + (l.getD i ([], 0, 0)).1.length ≤ 4294967296 := by rw [List.length_nil]; omega
        have g2 : (l.getD i ([], 0, 0)).1.length + [(l.getD i ([], 0, 0)).2.1, (l.getD i ([], 0, 0)).2.2].length ≤ 4294967296 := by simp only [List.length_cons, List.length_nil]; omega
        have g3 : ∀ y : WRow, acc.length + [y].length ≤ 4294967296 := fun y => by rw [List.length_singleton]; omega
        refine xs16.eq5 _ _ _ _ _ _ _ ?_
        simp only [xs16.t5, ix_lt, ix_nn, ix_nat, dec_t g, cond_true, List.nil_append, dec_t g1, dec_t g2, dec_t (g3 _), wrap_succ (show i < 9223372036854775807 by omega)]
        refine ih (i + 1) _ _ (by omega) ?_ ?_
        · rw [ha, List.take_succ_eq_append_getElem g, List.map_append, ← getD_of_lt (z := (([], 0, 0) : GRow)) g]
          rfl
        · rw [if_neg (by omega), List.length_append, hk]
          simp only [List.length_cons, List.length_nil]
          omega
    exact key l.length 0 0 [] (by omega) rfl rfl
theorem impl_table_eq {l : List GRow} (hl : okG l) : xi15 l = some (tabG l) := by
  obtain ⟨h60, hr⟩ := hl
  have e := xi1d_eq (l := l) (by omega) (fun g hg => by have := hr g hg; omega)
  have ek := xi1q_eq l
  refine xi15.eq _ ?_
  simp only [xi15.t, e, ek, Option.bind_some, tabG]
  cases hg : goodG l with
  | false => rfl
  | true =>
    simp only [bang_t, cond_false, Bool.true_and, asW_good hg]
    by_cases h4 : (klen l : Int) > 4
    · rw [dec_t h4, cond_true, dec_f (show ¬ (klen l : Int) ≤ 4 by omega), Bool.false_and, cond_false]
    · rw [dec_f h4, cond_false, dec_t (show (klen l : Int) ≤ 4 by omega), Bool.true_and]
      have icell : ∀ x : Int, xi2c x = some (cellB x) := fun x => xi2c.eq x (by simp only [xi2c.t, xi2d_eq, Option.bind_some]; rfl)
      have key : ∀ (n i : Nat) (c : Int) (acc : List WRow), i + n = l.length → acc = (l.take i).map asW → (c = if i = 0 then 0 else (klen l : Int) + 2) → xi15.l5 l 0 [] c acc l (l.length : Int) (i : Int) = some (bif (l.drop i).all (fun g => cellB g.2.1 && cellB g.2.2) then (colsOf l, l.map asW, true) else (0, [], false)) := by
        intro n
        induction n with
        | zero =>
          intro i c acc hi ha hc
          have e : i = l.length := by omega
          subst e
          rw [List.take_length] at ha
          subst ha
          have hcc : c = colsOf l := by
            rw [hc, colsOf]
            by_cases h0 : l = []
            · rw [if_pos h0, if_pos (by rw [h0]; rfl)]
            · rw [if_neg h0, if_neg (fun h => h0 (List.length_eq_zero_iff.1 h))]
          rw [hcc, List.drop_length]
          refine xi15.eq5 _ _ _ _ _ _ _ _ ?_
          simp only [xi15.t5, ix_lt, Nat.lt_irrefl, decide_false, cond_false, List.all_nil, cond_true]
        | succ n ih =>
          intro i c acc hi ha hc
          have g : i < l.length := by omega
          have hm := getD_mem (([], 0, 0) : GRow) g
          have hx := hr _ hm
          have hal : acc.length = i := by rw [ha, List.length_map, List.length_take]; omega
          have g3 : ∀ y : WRow, acc.length + [y].length ≤ 4294967296 := fun y => by rw [List.length_singleton]; omega
          have ef : [(l.getD i ([], 0, 0)).1, [(l.getD i ([], 0, 0)).2.1, (l.getD i ([], 0, 0)).2.2]].flatten = (l.getD i ([], 0, 0)).1 ++ [(l.getD i ([], 0, 0)).2.1, (l.getD i ([], 0, 0)).2.2] := by simp
          have ec := slices_Concat_int_eq [(l.getD i ([], 0, 0)).1, [(l.getD i ([], 0, 0)).2.1, (l.getD i ([], 0, 0)).2.2]] (by rw [ef, List.length_append]; simp only [List.length_cons, List.length_nil]; omega) (by simp)
          rw [ef] at ec
          have hw : IntKind.i64.wrap ((klen l : Int) + 2) = (klen l : Int) + 2 := wrap_id (by omega) (by omega)
          rw [drop_getD (([], 0, 0) : GRow) g, List.all_cons]
          refine xi15.eq5 _ _ _ _ _ _ _ _ ?_
          simp only [xi15.t5, ix_lt, ix_nn, ix_nat, dec_t g, cond_true, icell, ek, ec, hw, Option.bind_some, dec_t (g3 _), wrap_succ (show i < 9223372036854775807 by omega)]
          cases c1 : cellB (l.getD i ([], 0, 0)).2.1 with
          | false => rfl
          | true =>
            cases c2 : cellB (l.getD i ([], 0, 0)).2.2 with
            | false => rfl
            | true =>
              simp only [bang_t, cond_false, Bool.and_self, Bool.true_and]
              refine ih (i + 1) _ _ (by omega) ?_ ?_
              · rw [ha, List.take_succ_eq_append_getElem g, List.map_append, ← getD_of_lt (z := (([], 0, 0) : GRow)) g]
                rfl
              · rw [if_neg (by omega)]
      have k := key l.length 0 0 [] (by omega) rfl rfl
      rw [List.drop_zero] at k
      exact k
/-! ## The law -/
theorem table_tail {v : List Int} (hb : Byt v) : xl1y.l2000016 v = some true := by
  obtain ⟨G, e1, hG⟩ := drawGroups_ok hb
  have e2 := impl_table_eq hG
  have e3 := spec_table_eq hG
  obtain ⟨q1, q2⟩ := asW_rows hG
  have hs : xl2m (tabG G).1 (tabG G).2.1 (tabG G).1 (tabG G).2.1 = some true := by
    unfold tabG
    cases goodG G && goodT (colsOf G) (G.map asW) with
    | false => exact same_self 0 [] (by simp) (fun w hw => by cases hw)
    | true => exact same_self _ _ (by show (G.map asW).length ≤ _; omega) (fun w hw => by have := q2 w hw; omega)
  refine xl1y.eq2000016 _ ?_
  simp only [xl1y.t2000016, e1, e2, e3, hs, Option.bind_some, beq_ref, bang_t, cond_false]
  refine xl1y.eq2000021 _ _ _ _ ?_
  unfold tabG
  cases hg : goodG G && goodT (colsOf G) (G.map asW) with
  | false => simp only [xl1y.t2000021, cond_false, bang_f, cond_true, List.length_nil]; rfl
  | true =>
    rw [Bool.and_eq_true] at hg
    have e4 := xi1l_eq (c := colsOf G) (l := G.map asW) (by omega) (fun w hw => by have := q2 w hw; omega)
    rw [hg.2] at e4
    have e5 := xi0h_ok (G.map asW) (fun w => decide (w.2 > 0)) (by omega) (fun w _ => xi1m.eq w.1 w.2 rfl)
    have e6 : ((G.map asW).all fun w => decide (w.2 > 0)) = true := by
      rw [List.all_eq_true]
      intro w hw
      obtain ⟨g, _, rfl⟩ := List.mem_map.1 hw
      rfl
    rw [e6] at e5
    have e7 := xi24.eq (colsOf G) (G.map asW) (b := (true, true)) (by simp only [xi24.t, e4, e5, Option.bind_some, bang_t, cond_false])
    simp only [xl1y.t2000021, cond_true, bang_t, cond_false, e7, Option.bind_some, List.length_map, beq_ref]
theorem none_tail {v : List Int} (hb : Byt v) {G : List GRow} (hG : okG G) (t : Bool) : xl1y.l2000013 v G t = some true := by
  obtain ⟨a, ok, _, e, _, hg, h⟩ := rollUp_both G [] (by have := hG.1; omega) (fun g hg => by have := hG.2 g hg; omega) (by simp)
  have th := table_tail hb
  refine xl1y.eq2000013 _ _ _ ?_
  cases ok with
  | false => simp only [xl1y.t2000013, e, Option.bind_some, cond_false]; exact th
  | true =>
    cases t with
    | false => simp only [xl1y.t2000013, e, Option.bind_some, cond_true, cond_false]; exact th
    | true =>
      obtain ⟨_, rfl⟩ := h rfl
      obtain ⟨s1, _, _, s4, _⟩ := putsG_ok (G.map (rollG [])) (l := []) .nil (fun w hw => by cases hw)
      have hk : ∀ w, w ∈ putsG [] (G.map (rollG [])) → w.1 = [] := fun w hw => by
        rcases s4 w hw with h | ⟨u, hu, e⟩
        · cases h
        · obtain ⟨g, _, rfl⟩ := List.mem_map.1 hu
          rw [e]; rfl
      have h1 := short_keys s1 hk
      have n1 : ¬ (((putsG [] (G.map (rollG []))).length : Nat) : Int) > 1 := by omega
      simp only [xl1y.t2000013, e, Option.bind_some, cond_true, dec_f n1, cond_false]
      exact th
theorem FnRolled_true (v0 : List Int) (v1 : List Int) (w0 : WfT (.sl (.int .u8)) v0) (w1 : WfT (.sl (.int .u8)) v1) : xl1y v0 v1 = some true := by
  refine xl1y.eq _ _ ?_
  by_cases hc : IntKind.i64.wrap ((v0.length : Int) + (v1.length : Int)) > 1048576
  · simp only [xl1y.t, dec_t hc, cond_true]
  · have hb1 : Byt v1 := fun x hx => w1.2 x hx
    obtain ⟨G, cs, ed, hG, hcs⟩ := drawRoll_ok (b := v0) (fun x hx => w0.2 x hx)
    obtain ⟨a, ok, es, ei, _, hga, h⟩ := rollUp_both G cs (by have := hG.1; omega) (fun g hg => by have := hG.2 g hg; omega) (by omega)
    have hok := okG_good hga
    have eself := groups_self a (by have := hok.1; omega) (fun g hg => by have := hok.2 g hg; omega)
    simp only [xl1y.t, dec_f hc, ed, ei, es, eself, Option.bind_some, beq_ref, bang_t, cond_false]
    refine xl1y.eq2000008 _ _ _ _ ?_
    cases ok with
    | false => simp only [xl1y.t2000008, cond_false]; exact table_tail hb1
    | true =>
      obtain ⟨hgG, rfl⟩ := h rfl
      have t1 := impl_totals_eq (l := G) (by have := hG.1; omega) (fun g hg => by have := hG.2 g hg; omega)
      have t2 := impl_totals_eq (l := putsG [] (G.map (rollG cs))) (by have := hok.1; omega) (fun g hg => by have := hok.2 g hg; omega)
      have et : ∀ p, totG p (putsG [] (G.map (rollG cs))) = totG p G := fun p => by
        rw [totG_puts, totG_map p (rollG cs) (fun _ => rfl), totG, Int.zero_add]
      have e9 : totsG (putsG [] (G.map (rollG cs))) = totsG G := by unfold totsG; rw [hga, hgG, et, et]
      rw [e9] at t2
      have th := none_tail hb1 hG
      cases ho : (totsG G).2.2 with
      | false => simp only [xl1y.t2000008, t1, t2, ho, Option.bind_some, cond_true, cond_false]; exact th _
      | true => simp only [xl1y.t2000008, t1, t2, ho, Option.bind_some, cond_true, bne_ref, cond_false]; exact th _
end GoV

/- FnRolled: its core is the law. -/
