/- A part of the proof of FnRolled: an interpreter of the model over plain data, its soundness, and what it makes of the functions that the statement reaches. Conditions: none beyond what the given statement itself says. -/
import Derived.Test.YtjbhilkkckfkmaaTO
set_option linter.unusedVariables false
set_option linter.unusedSimpArgs false
set_option linter.unnecessarySimpa false
set_option linter.unusedSectionVars false
/- A row put into a sorted table; all rows of a list. -/
namespace GoV
open Go
section
variable {l : List WRow} {r : List Int} {n : Int} (hl : l.length ≤ 1073741824) (hr : ∀ w, w ∈ l → w.1.length ≤ 1073741824) (hx : r.length ≤ 1073741824) (hn : ∀ w, w ∈ l → IntKind.i64.wrap (n + w.2) = n + w.2)
include hl hr hx hn
theorem xs2j_eq : xs2j l r n = some (putL l r n) := by
  have key : ∀ (rest pre : List WRow), l = pre ++ rest → xs2j.l2 l n r (pre.length : Int) = some (pre ++ putL rest r n) := by
    intro rest
    induction rest with
    | nil =>
      intro pre hp
      have e : pre = l := by rw [hp]; simp
      subst e
      refine xs2j.eq2 _ _ _ _ ?_
      have h1 : (0 : Int) ≤ (pre.length : Int) := by omega
      have h2 : (pre.length : Int) ≤ (pre.length : Int) := Int.le_refl _
      have h3 : List.take ((pre.length : Int) - 0).toNat (List.drop (0 : Int).toNat pre) = pre := by
        rw [show ((pre.length : Int) - 0).toNat = pre.length by omega, show (0 : Int).toNat = 0 from rfl, List.drop_zero, List.take_length]
      have h4 : pre.length ≤ 4294967296 := by omega
      have h5 : pre.length + [(r, n)].length ≤ 4294967296 := by simp only [List.length_cons, List.length_nil]; omega
      have h6 : (pre ++ [(r, n)]).length + ([] : List WRow).length ≤ 4294967296 := by simp only [List.length_append, List.length_cons, List.length_nil]; omega
      have h7 : pre.length + ([] : List WRow).length ≤ 4294967296 := by simp only [List.length_nil]; omega
      simp only [xs2j.t2, ix_lt, Nat.lt_irrefl, decide_false, cond_false, Option.getD_none, Option.getD_some, dec_t h1, dec_t h2, h3, dec_t h4, cond_true, xs21_eq _ hx, Option.bind_some, ix_nat, List.drop_length, dec_t h5, dec_t h6, dec_t h7, putL, oneW]
      by_cases h0 : n = 0
      · subst h0
        have : ((0 : Int) != 0) = false := rfl
        simp only [this, cond_false, if_true]
      · have : (n != 0) = true := bne_iff_ne.2 h0
        simp only [this, cond_true, if_neg h0, List.append_nil]
    | cons w rest ih =>
      intro pre hp
      have hi : pre.length < l.length := by rw [hp]; simp
      have hg : l.getD pre.length ([], 0) = w := by rw [hp]; exact getD_mid pre rest w _
      have hwm : w ∈ l := by rw [hp]; simp
      have hw := hr w hwm
      have hwr := hn w hwm
      have h1 : (0 : Int) ≤ (pre.length : Int) := by omega
      have h2 : (pre.length : Int) ≤ (l.length : Int) := by omega
      have h2' : ((pre.length + 1 : Nat) : Int) ≤ (l.length : Int) := by omega
      have h2'' : (0 : Int) ≤ ((pre.length + 1 : Nat) : Int) := by omega
      have h3 : List.take ((pre.length : Int) - 0).toNat (List.drop (0 : Int).toNat l) = pre := by
        rw [show ((pre.length : Int) - 0).toNat = pre.length by omega, show (0 : Int).toNat = 0 from rfl, List.drop_zero, hp, List.take_left]
      have h4 : pre.length ≤ 4294967296 := by omega
      have hdr : List.drop pre.length l = w :: rest := by rw [hp, List.drop_left]
      have hdr1 : List.drop (pre.length + 1) l = rest := by rw [← List.drop_drop, hdr]; rfl
      have hrl : rest.length + 1 + pre.length = l.length := by rw [hp]; simp; omega
      have hone : ∀ m : Int, pre.length + [(r, m)].length ≤ 4294967296 := fun m => by simp only [List.length_cons, List.length_nil]; omega
      have hall : ∀ (m : Int), (pre ++ [(r, m)]).length + (w :: rest).length ≤ 4294967296 := fun m => by simp only [List.length_append, List.length_cons, List.length_nil]; omega
      have hall1 : ∀ (m : Int), (pre ++ [(r, m)]).length + rest.length ≤ 4294967296 := fun m => by simp only [List.length_append, List.length_cons, List.length_nil]; omega
      have hsh : pre.length + (w :: rest).length ≤ 4294967296 := by simp only [List.length_cons]; omega
      have hsh1 : pre.length + rest.length ≤ 4294967296 := by omega
      refine xs2j.eq2 _ _ _ _ ?_
      simp only [xs2j.t2, ix_lt, ix_nn, ix_nat, dec_t hi, cond_true, hg, xs1t_eq _ _ hw hx, Option.bind_some, wrap_succ (show pre.length < 9223372036854775807 by omega), Option.getD_none, Option.getD_some, dec_t h1, dec_t h2, dec_t h2', dec_t h2'', h3, dec_t h4, xs21_eq _ hx, hwr, hdr, hdr1, dec_t (hone _), dec_t (hall _), dec_t (hall1 _), dec_t hsh, dec_t hsh1, putL]
      by_cases hc : cmpL w.1 r < 0
      · simp only [dec_t hc, cond_true, if_pos hc]
        have := ih (pre ++ [w]) (by rw [hp]; simp)
        rw [List.length_append, List.length_singleton, List.append_assoc] at this
        exact this
      · simp only [dec_f hc, cond_false, if_neg hc]
        by_cases hz : cmpL w.1 r = 0
        · have : (cmpL w.1 r == 0) = true := by rw [hz]; rfl
          simp only [this, cond_true, if_pos hz, oneW]
          by_cases h0 : n + w.2 = 0
          · have : (n + w.2 != 0) = false := by rw [h0]; rfl
            simp only [this, cond_false, if_pos h0, List.nil_append]
          · have : (n + w.2 != 0) = true := bne_iff_ne.2 h0
            simp only [this, cond_true, if_neg h0, List.append_assoc]
        · have : (cmpL w.1 r == 0) = false := beq_eq_false_iff_ne.2 hz
          simp only [this, cond_false, if_neg hz, oneW]
          by_cases h0 : n = 0
          · have : (n != 0) = false := by rw [h0]; rfl
            simp only [this, cond_false, if_pos h0, List.nil_append]
          · have : (n != 0) = true := bne_iff_ne.2 h0
            simp only [this, cond_true, if_neg h0, List.append_assoc]
  refine xs2j.eq l r n ?_
  simp only [xs2j.t]
  exact key l [] rfl
end
/-- What the sums of a table keep to. -/
structure PutOK (M : Int) (N : Nat) (l : List WRow) : Prop where
  len : l.length ≤ N
  row : ∀ w, w ∈ l → w.1.length ≤ 1073741824
  wt : ∀ w, w ∈ l → -M ≤ w.2 ∧ w.2 ≤ M
theorem putL_wt {l : List WRow} {r : List Int} {n : Int} {w : WRow} (h : w ∈ putL l r n) : (∃ u, u ∈ l ∧ w.2 = u.2) ∨ w.2 = n ∨ ∃ u, u ∈ l ∧ w.2 = n + u.2 := by
  induction l with
  | nil => exact .inr (.inl (by rw [(oneW_mem h).1]))
  | cons u l ih =>
    simp only [putL] at h
    split at h
    · rcases List.mem_cons.1 h with rfl | h
      · exact .inl ⟨w, by simp, rfl⟩
      · exact (ih h).imp (fun ⟨x, hx, e⟩ => ⟨x, List.mem_cons_of_mem _ hx, e⟩) (Or.imp id fun ⟨x, hx, e⟩ => ⟨x, List.mem_cons_of_mem _ hx, e⟩)
    · split at h
      · rcases List.mem_append.1 h with h | h
        · exact .inr (.inr ⟨u, by simp, by rw [(oneW_mem h).1]⟩)
        · exact .inl ⟨w, List.mem_cons_of_mem _ h, rfl⟩
      · rcases List.mem_append.1 h with h | h
        · exact .inr (.inl (by rw [(oneW_mem h).1]))
        · exact .inl ⟨w, h, rfl⟩
theorem PutOK.put {M m : Int} {N : Nat} {l : List WRow} {r : List Int} {n : Int} (h : PutOK M N l) (hr : r.length ≤ 1073741824) (hn : -m ≤ n ∧ n ≤ m) (hm : 0 ≤ M) (hm2 : 0 ≤ m) : PutOK (M + m) (N + 1) (putL l r n) :=
  ⟨Nat.le_trans (putL_len l r n) (by have := h.len; omega), fun w hw => (putL_mem hw).elim (h.row w) fun e => by rw [e]; exact hr, fun w hw => by
    rcases putL_wt hw with ⟨u, hu, e⟩ | e | ⟨u, hu, e⟩
    · have := h.wt u hu; omega
    · omega
    · have := h.wt u hu; omega⟩
/-- A loop that puts in one row for each element. -/
theorem puts_loop {α β : Type} (l : List α) (z : α) (row : α → List Int) (wt : α → Int) (L : List WRow → Nat → Option β) (res : List WRow → Option β) {M m : Int} {N : Nat} (hM : 0 ≤ M) (hm : 0 ≤ m)
    (hr : ∀ x, x ∈ l → (row x).length ≤ 1073741824) (hw : ∀ x, x ∈ l → -m ≤ wt x ∧ wt x ≤ m)
    (he : ∀ acc b, PutOK (M + m * l.length) (N + l.length) acc → res acc = some b → L acc l.length = some b)
    (hs : ∀ acc i b, i < l.length → PutOK (M + m * i) (N + i) acc → L (putL acc (row (l.getD i z)) (wt (l.getD i z))) (i + 1) = some b → L acc i = some b) :
    ∀ acc b, PutOK M N acc → res (l.foldl (fun acc x => putL acc (row x) (wt x)) acc) = some b → L acc 0 = some b := by
  have key : ∀ i, i ≤ l.length → ∀ acc b, PutOK (M + m * i) (N + i) acc → res ((l.drop i).foldl (fun acc x => putL acc (row x) (wt x)) acc) = some b → L acc i = some b := by
    refine upto ?_ ?_
    · intro acc b ha hb
      rw [List.drop_length] at hb
      exact he acc b ha hb
    · intro i hi ih acc b ha hb
      rw [drop_getD z hi, List.foldl_cons] at hb
      refine hs acc i b hi ha (ih _ b ?_ hb)
      have hx := getD_mem z hi
      have h0 : 0 ≤ m * (i : Int) := Int.mul_nonneg hm (by omega)
      have := ha.put (hr _ hx) (hw _ hx) (by omega) hm
      have e : M + m * ((i + 1 : Nat) : Int) = M + m * (i : Int) + m := by
        rw [Int.natCast_succ, Int.mul_add, Int.mul_one]; omega
      rw [e]
      exact this
  intro acc b ha hb
  refine key 0 (Nat.zero_le _) acc b ?_ (by rw [List.drop_zero]; exact hb)
  simpa using ha
theorem PutOK.wraps {M m : Int} {N : Nat} {l : List WRow} (h : PutOK M N l) {n : Int} (hn : -m ≤ n ∧ n ≤ m) (hM : M + m ≤ 9223372036854775807) : ∀ w, w ∈ l → IntKind.i64.wrap (n + w.2) = n + w.2 := fun w hw => by
  have := h.wt w hw
  rw [wrap_id] <;> omega
end GoV

/- Tables with all weights times a number, and tables handed on if they are good. -/
namespace GoV
open Go
theorem xs0y_eq (r : List Int) (hl : r.length ≤ 1073741824) : xs0y r = some r := by
  refine xs0y.eq r ?_
  have : r.length ≤ 4294967296 := by omega
  simp only [xs0y.t, dec_t this, cond_true]
theorem xi25_eq (r : List Int) (hl : r.length ≤ 1073741824) : xi25 r = some r := xi25.eq r (by simp only [xi25.t, xs0y_eq r hl, Option.bind_some])
end GoV

/- Lists put together; rows of the same kind added up. -/
namespace GoV
open Go
theorem grow_n (n : Nat) : IntKind.i64.wrap ((n : Int) - IntKind.i64.wrap ((0 : Int) - (0 : Int))) = IntKind.i64.wrap (n : Int) := by
  have : IntKind.i64.wrap ((0 : Int) - (0 : Int)) = 0 := rfl
  rw [this, Int.sub_zero]
theorem slices_Grow_int_eq (n : Nat) (h : n ≤ 1073741824) : xs0q (n : Int) = some [] := by
  refine xs0q.eq _ ?_
  have h0 : ¬ (n : Int) < 0 := by omega
  have hw : IntKind.i64.wrap (n : Int) = (n : Int) := wrap_id (by omega) (by omega)
  simp only [xs0q.t, dec_f h0, cond_false, grow_n, hw]
  by_cases h1 : (n : Int) > 0
  · have h2 : (1 : Int) ≤ (n : Int) := by omega
    have h3 : (n : Int) ≤ ((4294967296 : Nat) : Int) := by omega
    simp only [dec_t h1, dec_t h2, dec_t h3, cond_true, Option.getD_none]
    rfl
  · simp only [dec_f h1, cond_false]
theorem flatten_drop {α : Type} {ls : List (List α)} {i : Nat} (h : i < ls.length) : (ls.drop i).flatten = ls.getD i [] ++ (ls.drop (i + 1)).flatten := by
  rw [drop_getD [] h, List.flatten_cons]
theorem slices_Concat_int_eq (ls : List (List Int)) (h : ls.flatten.length ≤ 1073741824) (hl : ls.length ≤ 1073741824) : xs0v ls = some ls.flatten := by
  have k2 : ∀ i, i ≤ ls.length → ∀ acc : List Int, acc.length + (ls.drop i).flatten.length ≤ 1073741824 → xs0v.l11 acc ls (ls.length : Int) (i : Int) = some (acc ++ (ls.drop i).flatten) := by
    refine upto ?_ ?_
    · intro acc _
      refine xs0v.eq11 _ _ _ _ ?_
      rw [List.drop_length, List.flatten_nil, List.append_nil]
      simp only [xs0v.t11, ix_lt, Nat.lt_irrefl, decide_false, cond_false]
    · intro i hi ih acc ha
      rw [flatten_drop hi, List.length_append] at ha
      refine xs0v.eq11 _ _ _ _ ?_
      have hb : acc.length + (ls.getD i []).length ≤ 4294967296 := by omega
      simp only [xs0v.t11, ix_lt, ix_nn, ix_nat, dec_t hi, cond_true, dec_t hb, wrap_succ (show i < 9223372036854775807 by omega)]
      rw [ih _ (by rw [List.length_append]; omega), flatten_drop hi, List.append_assoc]
  have k1 : ∀ i, i ≤ ls.length → ∀ n : Nat, n + (ls.drop i).flatten.length ≤ 1073741824 → xs0v.l3 ls (n : Int) ls (ls.length : Int) (i : Int) = some ls.flatten := by
    refine upto ?_ ?_
    · intro n hn
      refine xs0v.eq3 _ _ _ _ _ ?_
      have := k2 0 (Nat.zero_le _) [] (by simpa using h)
      rw [List.drop_zero, List.nil_append] at this
      simp only [xs0v.t3, ix_lt, Nat.lt_irrefl, decide_false, cond_false, slices_Grow_int_eq n (by omega), Option.bind_some]
      exact this
    · intro i hi ih n hn
      rw [flatten_drop hi, List.length_append] at hn
      refine xs0v.eq3 _ _ _ _ _ ?_
      have hw : IntKind.i64.wrap ((n : Int) + ((ls.getD i []).length : Int)) = ((n + (ls.getD i []).length : Nat) : Int) := by rw [wrap_id] <;> omega
      have h0 : ¬ ((n + (ls.getD i []).length : Nat) : Int) < 0 := by omega
      simp only [xs0v.t3, ix_lt, ix_nn, ix_nat, dec_t hi, cond_true, hw, dec_f h0, cond_false, wrap_succ (show i < 9223372036854775807 by omega)]
      exact ih _ (by omega)
  refine xs0v.eq ls ?_
  simp only [xs0v.t]
  exact k1 0 (Nat.zero_le _) 0 (by simpa using h)
end GoV
