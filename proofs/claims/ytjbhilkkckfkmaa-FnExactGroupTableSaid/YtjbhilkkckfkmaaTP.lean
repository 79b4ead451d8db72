/- A part of the proof of FnExactGroupTable: an interpreter of the model over plain data, its soundness, and what it makes of the functions that the statement reaches. Conditions: none beyond what the given statement itself says. -/
import Derived.Test.YtjbhilkkckfkmaaTO
set_option linter.unusedVariables false
set_option linter.unusedSimpArgs false
set_option linter.unnecessarySimpa false
set_option linter.unusedSectionVars false
/- A row put into a sorted table; all rows of a list. -/
namespace GoV
open Go
section
variable {l : List WRow} {r : List Int} {n : Int} (hl : l.length ≤ 1073741824) (hr : ∀ w, w ∈ l → w.1.length ≤ 1073741824) (hx : r.length ≤ 1073741824) (hn : ∀ w, w ∈ l → IntKind.i64.wrap (n + w.2) = n + w.2)
include hl hr hx hn
end
/-- What the sums of a table keep to. -/
structure PutOK (M : Int) (N : Nat) (l : List WRow) : Prop where
  len : l.length ≤ N
  row : ∀ w, w ∈ l → w.1.length ≤ 1073741824
  wt : ∀ w, w ∈ l → -M ≤ w.2 ∧ w.2 ≤ M
theorem putL_wt {l : List WRow} {r : List Int} {n : Int} {w : WRow} (h : w ∈ putL l r n) : (∃ u, u ∈ l ∧ w.2 = u.2) ∨ w.2 = n ∨ ∃ u, u ∈ l ∧ w.2 = n + u.2 := by
  induction l with
  | nil => exact .inr (.inl (by rw [(oneW_mem h).1]))
  | cons u l ih =>
    simp only [putL] at h
    split at h
    · rcases List.mem_cons.1 h with rfl | h
      · exact .inl ⟨w, by simp, rfl⟩
      · exact (ih h).imp (fun ⟨x, hx, e⟩ => ⟨x, List.mem_cons_of_mem _ hx, e⟩) (Or.imp id fun ⟨x, hx, e⟩ => ⟨x, List.mem_cons_of_mem _ hx, e⟩)
    · split at h
      · rcases List.mem_append.1 h with h | h
        · exact .inr (.inr ⟨u, by simp, by rw [(oneW_mem h).1]⟩)
        · exact .inl ⟨w, List.mem_cons_of_mem _ h, rfl⟩
      · rcases List.mem_append.1 h with h | h
        · exact .inr (.inl (by rw [(oneW_mem h).1]))
        · exact .inl ⟨w, h, rfl⟩
theorem PutOK.put {M m : Int} {N : Nat} {l : List WRow} {r : List Int} {n : Int} (h : PutOK M N l) (hr : r.length ≤ 1073741824) (hn : -m ≤ n ∧ n ≤ m) (hm : 0 ≤ M) (hm2 : 0 ≤ m) : PutOK (M + m) (N + 1) (putL l r n) :=
  ⟨Nat.le_trans (putL_len l r n) (by have := h.len; omega), fun w hw => (putL_mem hw).elim (h.row w) fun e => by rw [e]; exact hr, fun w hw => by
    rcases putL_wt hw with ⟨u, hu, e⟩ | e | ⟨u, hu, e⟩
    · have := h.wt u hu; omega
    · omega
    · have := h.wt u hu; omega⟩
/-- A loop that puts in one row for each element. -/
theorem puts_loop {α β : Type} (l : List α) (z : α) (row : α → List Int) (wt : α → Int) (L : List WRow → Nat → Option β) (res : List WRow → Option β) {M m : Int} {N : Nat} (hM : 0 ≤ M) (hm : 0 ≤ m)
    (hr : ∀ x, x ∈ l → (row x).length ≤ 1073741824) (hw : ∀ x, x ∈ l → -m ≤ wt x ∧ wt x ≤ m)
    (he : ∀ acc b, PutOK (M + m * l.length) (N + l.length) acc → res acc = some b → L acc l.length = some b)
    (hs : ∀ acc i b, i < l.length → PutOK (M + m * i) (N + i) acc → L (putL acc (row (l.getD i z)) (wt (l.getD i z))) (i + 1) = some b → L acc i = some b) :
    ∀ acc b, PutOK M N acc → res (l.foldl (fun acc x => putL acc (row x) (wt x)) acc) = some b → L acc 0 = some b := by
  have key : ∀ i, i ≤ l.length → ∀ acc b, PutOK (M + m * i) (N + i) acc → res ((l.drop i).foldl (fun acc x => putL acc (row x) (wt x)) acc) = some b → L acc i = some b := by
    refine upto ?_ ?_
    · intro acc b ha hb
      rw [List.drop_length] at hb
      exact he acc b ha hb
    · intro i hi ih acc b ha hb
      rw [drop_getD z hi, List.foldl_cons] at hb
      refine hs acc i b hi ha (ih _ b ?_ hb)
      have hx := getD_mem z hi
      have h0 : 0 ≤ m * (i : Int) := Int.mul_nonneg hm (by omega)
      have := ha.put (hr _ hx) (hw _ hx) (by omega) hm
      have e : M + m * ((i + 1 : Nat) : Int) = M + m * (i : Int) + m := by
        rw [Int.natCast_succ, Int.mul_add, Int.mul_one]; omega
      rw [e]
      exact this
  intro acc b ha hb
  refine key 0 (Nat.zero_le _) acc b ?_ (by rw [List.drop_zero]; exact hb)
  simpa using ha
theorem PutOK.wraps {M m : Int} {N : Nat} {l : List WRow} (h : PutOK M N l) {n : Int} (hn : -m ≤ n ∧ n ≤ m) (hM : M + m ≤ 9223372036854775807) : ∀ w, w ∈ l → IntKind.i64.wrap (n + w.2) = n + w.2 := fun w hw => by
  have := h.wt w hw
  rw [wrap_id] <;> omega
end GoV

/- Tables with all weights times a number, and tables handed on if they are good. -/
namespace GoV
open Go
theorem xs0l_eq (r : List Int) (hl : r.length ≤ 1073741824) : xs0l r = some r := by
  refine xs0l.eq r ?_
  have : r.length ≤ 4294967296 := by omega
  simp only [xs0l.t, dec_t this, cond_true]
theorem impl_Row_own_eq (r : List Int) (hl : r.length ≤ 1073741824) : impl_Row_own r = some r := impl_Row_own.eq r (by simp only [impl_Row_own.t, xs0l_eq r hl, Option.bind_some])
end GoV

/- Lists put together; rows of the same kind added up. -/
namespace GoV
open Go
theorem grow_n (n : Nat) : IntKind.i64.wrap ((n : Int) - IntKind.i64.wrap ((0 : Int) - (0 : Int))) = IntKind.i64.wrap (n : Int) := by
  have : IntKind.i64.wrap ((0 : Int) - (0 : Int)) = 0 := rfl
  rw [this, Int.sub_zero]
theorem flatten_drop {α : Type} {ls : List (List α)} {i : Nat} (h : i < ls.length) : (ls.drop i).flatten = ls.getD i [] ++ (ls.drop (i + 1)).flatten := by
  rw [drop_getD [] h, List.flatten_cons]
end GoV
