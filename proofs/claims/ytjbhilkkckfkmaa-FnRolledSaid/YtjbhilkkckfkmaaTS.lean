/- A part of the proof of FnRolled: an interpreter of the model over plain data, its soundness, and what it makes of the functions that the statement reaches. Conditions: none beyond what the given statement itself says. -/
import Derived.Test.YtjbhilkkckfkmaaTR
set_option linter.unusedVariables false
set_option linter.unusedSimpArgs false
set_option linter.unnecessarySimpa false
set_option linter.unusedSectionVars false
/- Good groups; what sums of groups keep to. Plain Lean. -/
namespace GoV
open Go
def klen (l : List GRow) : Nat := (l.getD 0 ([], 0, 0)).1.length
def sumB (n : Int) : Bool := inB (-100000000000000) 100000000000000 n
theorem sumB_iff {n : Int} : sumB n = true ↔ -100000000000000 ≤ n ∧ n ≤ 100000000000000 := inB_iff
def grB (k : Nat) (g : GRow) : Bool := (goodR g.1 && decide (g.1.length = k)) && ((sumB g.2.1 && sumB g.2.2) && nzB g)
def gatB (l : List GRow) (i : Nat) : Bool := grB (klen l) (l.getD i ([], 0, 0)) && (decide (i = 0) || decide (cmpL (l.getD (i - 1) ([], 0, 0)).1 (l.getD i ([], 0, 0)).1 < 0))
def goodG (l : List GRow) : Bool := allR (gatB l) 0 l.length && decide (l.length ≤ 60)
theorem goodG_iff {l : List GRow} : goodG l = true ↔ l.length ≤ 60 ∧ (∀ g, g ∈ l → grB (klen l) g = true) ∧ sortedG l := by
  simp only [goodG, Bool.and_eq_true, allR_iff, gatB, decide_eq_true_eq, Bool.or_eq_true]
  constructor
  · rintro ⟨h1, h3⟩
    refine ⟨h3, fun w hw => ?_, ?_⟩
    · obtain ⟨i, hi, rfl⟩ := List.mem_iff_getElem.1 hw
      have := (h1 i (Nat.zero_le _) hi).1
      rwa [getD_of_lt hi] at this
    · refine chain_pairwise (R := fun a b : GRow => ltR a.1 b.1) (fun h h' => ltR_trans h h') ([], 0, 0) fun i h4 h5 => ?_
      rcases (h1 i (Nat.zero_le _) h5).2 with h6 | h6
      · omega
      · exact h6
  · rintro ⟨h2, h3, h4⟩
    refine ⟨fun k _ hk => ⟨h3 _ (getD_mem _ hk), ?_⟩, h2⟩
    by_cases h5 : k = 0
    · exact .inl h5
    · exact .inr (pairwise_chain ([], 0, 0) h4 (by omega) hk)
theorem grB_iff {k : Nat} {g : GRow} : grB k g = true ↔ goodR g.1 = true ∧ g.1.length = k ∧ (-100000000000000 ≤ g.2.1 ∧ g.2.1 ≤ 100000000000000) ∧ (-100000000000000 ≤ g.2.2 ∧ g.2.2 ≤ 100000000000000) ∧ g.2 ≠ (0, 0) := by
  simp only [grB, Bool.and_eq_true, decide_eq_true_eq, sumB_iff, nzB_iff, and_assoc]
theorem goodG_rows {l : List GRow} (h : goodG l = true) : l.length ≤ 60 ∧ ∀ g, g ∈ l → g.1.length ≤ 6 ∧ ((-100000000000000 ≤ g.2.1 ∧ g.2.1 ≤ 100000000000000) ∧ (-100000000000000 ≤ g.2.2 ∧ g.2.2 ≤ 100000000000000)) ∧ g.2 ≠ (0, 0) := by
  obtain ⟨h1, h2, _⟩ := goodG_iff.1 h
  refine ⟨h1, fun g hg => ?_⟩
  obtain ⟨k1, k2, k3, k4, k5⟩ := grB_iff.1 (h2 g hg)
  exact ⟨goodR_len k1, ⟨k3, k4⟩, k5⟩
theorem goodG_nz {l : List GRow} (h : goodG l = true) : sortedG l ∧ nzG l := ⟨(goodG_iff.1 h).2.2, fun g hg => ((goodG_rows h).2 g hg).2.2⟩
theorem goodG_nil : goodG [] = true := rfl
abbrev groupsTy : Ty := .sl (.pair (.sl (.int .i64)) (.pair (.int .i64) (.int .i64)))
theorem goodG_size {l : List GRow} (h : goodG l = true) : szT groupsTy l ≤ 1073741824 := by
  obtain ⟨h1, h2⟩ := goodG_rows h
  have key : ∀ l : List GRow, (∀ g, g ∈ l → g.1.length ≤ 6) → (l.map (szT (.pair (.sl (.int .i64)) (.pair (.int .i64) (.int .i64))))).sum ≤ 6 * l.length := by
    intro l
    induction l with
    | nil => intro _; simp
    | cons g l ih =>
      intro h
      have k1 := h g (by simp)
      have k2 := ih fun x hx => h x (List.mem_cons_of_mem _ hx)
      have k3 : szT (.pair (.sl (.int .i64)) (.pair (.int .i64) (.int .i64))) g = g.1.length := by
        show szT (.sl (.int .i64)) g.1 + (0 + 0) = _
        rw [szT_sl_flat (t := .int .i64) g.1 rfl]
        omega
      simp only [List.map_cons, List.sum_cons, List.length_cons]
      rw [k3]
      omega
  have := key l fun g hg => (h2 g hg).1
  show l.length + (l.map (szT (.pair (.sl (.int .i64)) (.pair (.int .i64) (.int .i64))))).sum ≤ _
  omega
theorem groups_len {l : List GRow} {n : Nat} (h : szT groupsTy l ≤ n) : l.length ≤ n ∧ ∀ g, g ∈ l → g.1.length ≤ n := by
  have h1 := szT_len (t := .pair (.sl (.int .i64)) (.pair (.int .i64) (.int .i64))) (l := l)
  refine ⟨Nat.le_trans h1 h, fun g hg => ?_⟩
  have h2 := szT_mem (t := .pair (.sl (.int .i64)) (.pair (.int .i64) (.int .i64))) (l := l) hg
  have h3 : szT (.sl (.int .i64)) g.1 ≤ szT (.pair (.sl (.int .i64)) (.pair (.int .i64) (.int .i64))) g := by
    show _ ≤ szT (.sl (.int .i64)) g.1 + (0 + 0)
    omega
  have h4 := szT_len (t := .int .i64) (l := g.1)
  exact Nat.le_trans h4 (Nat.le_trans h3 (Nat.le_trans h2 h))
/-! ## What sums keep to -/
def boxG (M : Int) (n : Int × Int) : Prop := (-M ≤ n.1 ∧ n.1 ≤ M) ∧ (-M ≤ n.2 ∧ n.2 ≤ M)
structure PutGK (M : Int) (N : Nat) (l : List GRow) : Prop where
  len : l.length ≤ N
  row : ∀ w, w ∈ l → w.1.length ≤ 1073741824
  wt : ∀ w, w ∈ l → boxG M w.2
theorem putG_wt {l : List GRow} {r : List Int} {n : Int × Int} {w : GRow} (h : w ∈ putG l r n) : (∃ u, u ∈ l ∧ w.2 = u.2) ∨ w.2 = n ∨ ∃ u, u ∈ l ∧ w.2 = addP n u.2 := by
  induction l with
  | nil => exact .inr (.inl (by rw [(oneG_mem h).1]))
  | cons u l ih =>
    simp only [putG] at h
    split at h
    · rcases List.mem_cons.1 h with rfl | h
      · exact .inl ⟨w, by simp, rfl⟩
      · exact (ih h).imp (fun ⟨x, hx, e⟩ => ⟨x, List.mem_cons_of_mem _ hx, e⟩) (Or.imp id fun ⟨x, hx, e⟩ => ⟨x, List.mem_cons_of_mem _ hx, e⟩)
    · split at h
      · rcases List.mem_append.1 h with h | h
        · exact .inr (.inr ⟨u, by simp, by rw [(oneG_mem h).1]⟩)
        · exact .inl ⟨w, List.mem_cons_of_mem _ h, rfl⟩
      · rcases List.mem_append.1 h with h | h
        · exact .inr (.inl (by rw [(oneG_mem h).1]))
        · exact .inl ⟨w, h, rfl⟩
theorem boxG_add {M m : Int} {a b : Int × Int} (ha : boxG m a) (hb : boxG M b) : boxG (M + m) (addP a b) := by
  obtain ⟨⟨a1, a2⟩, a3, a4⟩ := ha
  obtain ⟨⟨b1, b2⟩, b3, b4⟩ := hb
  refine ⟨⟨?_, ?_⟩, ?_, ?_⟩ <;> simp only [addP] <;> omega
theorem boxG_mono {M m : Int} {a : Int × Int} (h : boxG m a) (hm : m ≤ M) : boxG M a := by
  obtain ⟨⟨a1, a2⟩, a3, a4⟩ := h
  exact ⟨⟨by omega, by omega⟩, by omega, by omega⟩
theorem PutGK.put {M m : Int} {N : Nat} {l : List GRow} {r : List Int} {n : Int × Int} (h : PutGK M N l) (hr : r.length ≤ 1073741824) (hn : boxG m n) (hm : 0 ≤ M) (hm2 : 0 ≤ m) : PutGK (M + m) (N + 1) (putG l r n) :=
  ⟨Nat.le_trans (putG_len l r n) (by have := h.len; omega), fun w hw => (putG_mem hw).elim (h.row w) fun e => by rw [e]; exact hr, fun w hw => by
    rcases putG_wt hw with ⟨u, hu, e⟩ | e | ⟨u, hu, e⟩
    · rw [e]; exact boxG_mono (h.wt u hu) (by omega)
    · rw [e]; exact boxG_mono hn (by omega)
    · rw [e]; exact boxG_add hn (h.wt u hu)⟩
theorem putsG_loop {α β : Type} (l : List α) (z : α) (row : α → List Int) (wt : α → Int × Int) (L : List GRow → Nat → Option β) (res : List GRow → Option β) {M m : Int} {N : Nat} (hM : 0 ≤ M) (hm : 0 ≤ m)
    (hr : ∀ x, x ∈ l → (row x).length ≤ 1073741824) (hw : ∀ x, x ∈ l → boxG m (wt x))
    (he : ∀ acc b, PutGK (M + m * l.length) (N + l.length) acc → res acc = some b → L acc l.length = some b)
    (hs : ∀ acc i b, i < l.length → PutGK (M + m * i) (N + i) acc → L (putG acc (row (l.getD i z)) (wt (l.getD i z))) (i + 1) = some b → L acc i = some b) :
    ∀ acc b, PutGK M N acc → res (l.foldl (fun acc x => putG acc (row x) (wt x)) acc) = some b → L acc 0 = some b := by
  have key : ∀ i, i ≤ l.length → ∀ acc b, PutGK (M + m * i) (N + i) acc → res ((l.drop i).foldl (fun acc x => putG acc (row x) (wt x)) acc) = some b → L acc i = some b := by
    refine upto ?_ ?_
    · intro acc b ha hb
      rw [List.drop_length] at hb
      exact he acc b ha hb
    · intro i hi ih acc b ha hb
      rw [drop_getD z hi, List.foldl_cons] at hb
      refine hs acc i b hi ha (ih _ b ?_ hb)
      have hx := getD_mem z hi
      have h0 : 0 ≤ m * (i : Int) := Int.mul_nonneg hm (by omega)
      have := ha.put (hr _ hx) (hw _ hx) (by omega) hm
      have e : M + m * ((i + 1 : Nat) : Int) = M + m * (i : Int) + m := by
        rw [Int.natCast_succ, Int.mul_add, Int.mul_one]; omega
      rw [e]
      exact this
  intro acc b ha hb
  refine key 0 (Nat.zero_le _) acc b ?_ (by rw [List.drop_zero]; exact hb)
  simpa using ha
theorem PutGK.nil : PutGK 0 0 [] := ⟨Nat.le_refl _, fun _ h => (by cases h), fun _ h => (by cases h)⟩
theorem putsG_rows {a b : List GRow} {c : Nat} (h1 : sortedG a) (h2 : nzG a) (ha : ∀ w, w ∈ a → w.1.length ≤ c) (hb : ∀ w, w ∈ b → w.1.length ≤ c) : (putsG a b).length ≤ a.length + b.length ∧ ∀ w, w ∈ putsG a b → w.1.length ≤ c := by
  obtain ⟨_, _, _, h3, h4⟩ := putsG_ok b h1 h2
  refine ⟨h4, fun w hw => ?_⟩
  rcases h3 w hw with h | ⟨u, hu, e⟩
  · exact ha w h
  · rw [e]; exact hb u hu
end GoV
