/- A part of the proof of FnExactGroupFor: an interpreter of the model over plain data, its soundness, and what it makes of the functions that the statement reaches. Conditions: none beyond what the given statement itself says. -/
import Derived.Test.YtjgjnjijhndoiaaTM
set_option linter.unusedVariables false
set_option linter.unusedSimpArgs false
set_option linter.unnecessarySimpa false
set_option linter.unusedSectionVars false
/- Sorting in place, in plain Lean: swaps, ranges swapped, rotation, merging. -/
namespace GoV
open Go
section
variable {α : Type} {z : α}
theorem at_set {d : List α} {i j : Nat} {x : α} (h : i < d.length) : (d.set i x).getD j z = if i = j then x else d.getD j z := by
  simp only [List.getD_eq_getElem?_getD, List.getElem?_set]
  by_cases e : i = j
  · subst e; simp [h]
  · simp [e]
def swapL (z : α) (d : List α) (i j : Nat) : List α := (d.set i (d.getD j z)).set j (d.getD i z)
theorem swapL_len (d : List α) (i j : Nat) : (swapL z d i j).length = d.length := by simp [swapL]
theorem swapL_at {d : List α} {i j k : Nat} (hi : i < d.length) (hj : j < d.length) : (swapL z d i j).getD k z = if k = j then d.getD i z else if k = i then d.getD j z else d.getD k z := by
  rw [swapL, at_set (by simpa using hj)]
  by_cases e : j = k
  · subst e; simp
  · rw [if_neg e, if_neg (fun h => e h.symm), at_set hi]
    by_cases e2 : i = k
    · subst e2; simp
    · rw [if_neg e2, if_neg (fun h => e2 h.symm)]
theorem swapL_perm {d : List α} {i j : Nat} (hi : i < d.length) (hj : j < d.length) : (swapL z d i j).Perm d := by
  rw [swapL, getD_of_lt hi, getD_of_lt hj]
  exact List.set_set_perm hi hj
/-- Elements of a stretch have moved within it. -/
structure Mv (z : α) (d d' : List α) (a b : Nat) : Prop where
  len : d'.length = d.length
  perm : d'.Perm d
  out : ∀ k, k < a ∨ b ≤ k → d'.getD k z = d.getD k z
  from' : ∀ k, a ≤ k → k < b → ∃ j, a ≤ j ∧ j < b ∧ d'.getD k z = d.getD j z
theorem Mv.refl (d : List α) (a b : Nat) : Mv z d d a b := ⟨rfl, .refl _, fun _ _ => rfl, fun k h1 h2 => ⟨k, h1, h2, rfl⟩⟩
theorem Mv.trans {d d' d2 : List α} {a b : Nat} (h : Mv z d d' a b) (h' : Mv z d' d2 a b) : Mv z d d2 a b :=
  ⟨h'.len.trans h.len, h'.perm.trans h.perm, fun k hk => (h'.out k hk).trans (h.out k hk), fun k h1 h2 => by
    obtain ⟨j, g1, g2, g3⟩ := h'.from' k h1 h2
    obtain ⟨i, k1, k2, k3⟩ := h.from' j g1 g2
    exact ⟨i, k1, k2, g3.trans k3⟩⟩
theorem Mv.mono {d d' : List α} {a b a' b' : Nat} (h : Mv z d d' a b) (ha : a' ≤ a) (hb : b ≤ b') : Mv z d d' a' b' :=
  ⟨h.len, h.perm, fun k hk => h.out k (by omega), fun k h1 h2 => by
    by_cases e : a ≤ k ∧ k < b
    · obtain ⟨j, g1, g2, g3⟩ := h.from' k e.1 e.2
      exact ⟨j, by omega, by omega, g3⟩
    · exact ⟨k, h1, h2, h.out k (by omega)⟩⟩
theorem Mv.swap {d : List α} {i j a b : Nat} (hi : i < d.length) (hj : j < d.length) (h1 : a ≤ i) (h2 : i < b) (h3 : a ≤ j) (h4 : j < b) : Mv z d (swapL z d i j) a b :=
  ⟨swapL_len d i j, swapL_perm hi hj, fun k hk => by rw [swapL_at hi hj, if_neg (by omega), if_neg (by omega)], fun k g1 g2 => by
    rw [swapL_at hi hj]
    by_cases e : k = j
    · exact ⟨i, h1, h2, by rw [if_pos e]⟩
    · by_cases e2 : k = i
      · exact ⟨j, h3, h4, by rw [if_neg e, if_pos e2]⟩
      · exact ⟨k, g1, g2, by rw [if_neg e, if_neg e2]⟩⟩
/-! ## Ranges swapped -/
def swapR (z : α) : Nat → List α → Nat → Nat → List α
  | 0, d, _, _ => d
  | n + 1, d, a, b => swapR z n (swapL z d a b) (a + 1) (b + 1)
theorem swapR_ok : ∀ (n : Nat) (d : List α) (a b : Nat), a + n ≤ b → b + n ≤ d.length → (swapR z n d a b).length = d.length ∧ Mv z d (swapR z n d a b) a (b + n) ∧
    ∀ k, (swapR z n d a b).getD k z = if a ≤ k ∧ k < a + n then d.getD (k - a + b) z else if b ≤ k ∧ k < b + n then d.getD (k - b + a) z else d.getD k z
  | 0, d, a, b, _, _ => ⟨rfl, Mv.refl d _ _, fun k => by rw [if_neg (by omega), if_neg (by omega)]; rfl⟩
  | n + 1, d, a, b, h1, h2 => by
    have ha : a < d.length := by omega
    have hb : b < d.length := by omega
    obtain ⟨i1, i2, i3⟩ := swapR_ok n (swapL z d a b) (a + 1) (b + 1) (by omega) (by rw [swapL_len]; omega)
    rw [swapL_len] at i1
    refine ⟨i1, (Mv.swap (a := a) (b := b + (n + 1)) ha hb (by omega) (by omega) (by omega) (by omega)).trans (i2.mono (by omega) (by omega)), fun k => ?_⟩
    show (swapR z n (swapL z d a b) (a + 1) (b + 1)).getD k z = _
    rw [i3]
    simp only [swapL_at ha hb]
    by_cases c1 : a ≤ k ∧ k < a + (n + 1)
    · rw [if_pos c1]
      by_cases c2 : k = a
      · subst c2
        rw [if_neg (by omega), if_neg (by omega), if_neg (by omega), if_pos rfl]
        congr 1; omega
      · rw [if_pos (by omega), if_neg (by omega), if_neg (by omega)]
        congr 1; omega
    · rw [if_neg c1]
      by_cases c2 : b ≤ k ∧ k < b + (n + 1)
      · rw [if_pos c2]
        by_cases c3 : k = b
        · subst c3
          rw [if_neg (by omega), if_neg (by omega), if_pos rfl]
          congr 1; omega
        · rw [if_neg (by omega), if_pos (by omega), if_neg (by omega), if_neg (by omega)]
          congr 1; omega
      · rw [if_neg c2, if_neg (by omega), if_neg (by omega), if_neg (by omega), if_neg (by omega)]
/-! ## Rotation -/
/-- Where the stretch from p to q, parted at m, has changed places. -/
def RotF (f f' : Nat → α) (p m q : Nat) : Prop := ∀ k, f' k = if p ≤ k ∧ k < p + (q - m) then f (k + (m - p)) else if p + (q - m) ≤ k ∧ k < q then f (k - (q - m)) else f k
/-- One step where the left part is the longer one. -/
theorem rot_left {f f1 f' : Nat → α} {m i j : Nat} (hi : i ≤ m) (hij : j < i) (hj : 0 < j)
    (h1 : ∀ k, f1 k = if m - i ≤ k ∧ k < m - i + j then f (k - (m - i) + m) else if m ≤ k ∧ k < m + j then f (k - m + (m - i)) else f k)
    (h2 : RotF f1 f' (m - (i - j)) m (m + j)) : RotF f f' (m - i) m (m + j) := by
  intro k
  rw [h2 k]
  simp only [h1]
  by_cases c1 : m - i ≤ k ∧ k < m - i + j
  · rw [if_neg (by omega), if_neg (by omega), if_pos c1, if_pos (by omega)]
    congr 1; omega
  · by_cases c2 : m - i + j ≤ k ∧ k < m + j
    · by_cases c3 : k < m - (i - j) + j
      · rw [if_pos (by omega), if_neg (by omega), if_pos (by omega), if_neg (by omega), if_pos (by omega)]
        congr 1; omega
      · rw [if_neg (by omega), if_pos (by omega), if_neg (by omega), if_neg (by omega), if_neg (by omega), if_pos (by omega)]
    · rw [if_neg (by omega), if_neg (by omega), if_neg (by omega), if_neg (by omega), if_neg (by omega), if_neg (by omega)]
/-- One step where the right part is as long or longer. -/
theorem rot_right {f f1 f' : Nat → α} {m i j : Nat} (hi : i ≤ m) (hij : i < j) (hj : 0 < i)
    (h1 : ∀ k, f1 k = if m - i ≤ k ∧ k < m - i + i then f (k - (m - i) + (m + j - i)) else if m + j - i ≤ k ∧ k < m + j - i + i then f (k - (m + j - i) + (m - i)) else f k)
    (h2 : RotF f1 f' (m - i) m (m + (j - i))) : RotF f f' (m - i) m (m + j) := by
  intro k
  rw [h2 k]
  simp only [h1]
  by_cases c1 : m - i ≤ k ∧ k < m - i + (j - i)
  · by_cases c3 : k + (m - (m - i)) < m + j - i
    · rw [if_pos (by omega), if_neg (by omega), if_neg (by omega), if_pos (by omega)]
    · omega
  · by_cases c2 : m - i + (j - i) ≤ k ∧ k < m + (j - i)
    · rw [if_neg (by omega), if_pos (by omega), if_pos (by omega), if_pos (by omega)]
      congr 1; omega
    · by_cases c4 : m + (j - i) ≤ k ∧ k < m + j
      · rw [if_neg (by omega), if_neg (by omega), if_neg (by omega), if_pos (by omega), if_neg (by omega), if_pos (by omega)]
        congr 1; omega
      · rw [if_neg (by omega), if_neg (by omega), if_neg (by omega), if_neg (by omega), if_neg (by omega), if_neg (by omega)]
theorem rot_last {f f1 : Nat → α} {m i : Nat} (hi : i ≤ m) (h1 : ∀ k, f1 k = if m - i ≤ k ∧ k < m - i + i then f (k - (m - i) + m) else if m ≤ k ∧ k < m + i then f (k - m + (m - i)) else f k) : RotF f f1 (m - i) m (m + i) := by
  intro k
  rw [h1]
  by_cases c1 : m - i ≤ k ∧ k < m - i + i
  · rw [if_pos c1, if_pos (by omega)]; congr 1; omega
  · by_cases c2 : m ≤ k ∧ k < m + i
    · rw [if_neg c1, if_pos c2, if_neg (by omega), if_pos (by omega)]; congr 1; omega
    · rw [if_neg c1, if_neg c2, if_neg (by omega), if_neg (by omega)]
/-! ## Sorted stretches -/
/-- Sorted from a to b, by a test 'less'. -/
def SortS (z : α) (lt : α → α → Bool) (d : List α) (a b : Nat) : Prop := ∀ i j, a ≤ i → i < j → j < b → lt (d.getD j z) (d.getD i z) = false
structure Ord (lt : α → α → Bool) : Prop where
  irr : ∀ x, lt x x = false
  tr : ∀ x y w, lt y x = false → lt w y = false → lt w x = false
theorem SortS.sub {lt : α → α → Bool} {d : List α} {a b a' b' : Nat} (h : SortS z lt d a b) (ha : a ≤ a') (hb : b' ≤ b) : SortS z lt d a' b' := fun i j h1 h2 h3 => h i j (by omega) h2 (by omega)
theorem SortS.le {lt : α → α → Bool} (ho : Ord lt) {d : List α} {a b i j : Nat} (h : SortS z lt d a b) (h1 : a ≤ i) (h2 : i ≤ j) (h3 : j < b) : lt (d.getD j z) (d.getD i z) = false := by
  by_cases e : i = j
  · subst e; exact ho.irr _
  · exact h i j h1 (by omega) h3
theorem SortS.congr {lt : α → α → Bool} {d d' : List α} {a b : Nat} (h : SortS z lt d a b) (he : ∀ k, a ≤ k → k < b → d'.getD k z = d.getD k z) : SortS z lt d' a b := fun i j h1 h2 h3 => by rw [he i h1 (by omega), he j (by omega) h3]; exact h i j h1 h2 h3
/-- Two sorted stretches, the one below the other. -/
theorem SortS.join {lt : α → α → Bool} {d : List α} {a m b : Nat} (h1 : SortS z lt d a m) (h2 : SortS z lt d m b) (h3 : ∀ i j, a ≤ i → i < m → m ≤ j → j < b → lt (d.getD j z) (d.getD i z) = false) : SortS z lt d a b := by
  intro i j g1 g2 g3
  by_cases e1 : j < m
  · exact h1 i j g1 g2 e1
  · by_cases e2 : m ≤ i
    · exact h2 i j e2 g2 g3
    · exact h3 i j g1 (by omega) (by omega) g3

theorem SortS.one {lt : α → α → Bool} {d : List α} {a b : Nat} (h : b ≤ a + 1) : SortS z lt d a b := fun i j h1 h2 h3 => by omega
/-! ## Insertion -/
/-- Sorted from a to i, but that element j may belong further down. -/
structure InsK (z : α) (lt : α → α → Bool) (d : List α) (a i j : Nat) : Prop where
  lo : SortS z lt d a j
  hi : SortS z lt d j (i + 1)
  ac : ∀ p q, a ≤ p → p < j → j < q → q ≤ i → lt (d.getD q z) (d.getD p z) = false
theorem InsK.start {lt : α → α → Bool} {d : List α} {a i : Nat} (h : SortS z lt d a i) : InsK z lt d a i i := ⟨h, .one (by omega), fun p q h1 h2 h3 h4 => by omega⟩
theorem InsK.zero {lt : α → α → Bool} {d : List α} {a i : Nat} (h : InsK z lt d a i a) : SortS z lt d a (i + 1) := h.hi
theorem InsK.stop {lt : α → α → Bool} (ho : Ord lt) {d : List α} {a i j : Nat} (h : InsK z lt d a i j) (hj : a < j) (hji : j ≤ i) (hl : lt (d.getD j z) (d.getD (j - 1) z) = false) : SortS z lt d a (i + 1) := by
  refine SortS.join h.lo h.hi fun p q h1 h2 h3 h4 => ?_
  by_cases e : q = j
  · subst e
    exact ho.tr _ _ _ (h.lo.le ho h1 (show p ≤ q - 1 by omega) (by omega)) hl
  · exact h.ac p q h1 h2 (by omega) (by omega)
theorem InsK.step {lt : α → α → Bool} (has : ∀ x y, lt x y = true → lt y x = false) {d : List α} {a i j : Nat} (h : InsK z lt d a i j) (hj : a < j) (hji : j ≤ i) (hd : i < d.length) (hl : lt (d.getD j z) (d.getD (j - 1) z) = true) :
    InsK z lt (swapL z d j (j - 1)) a i (j - 1) := by
  have hat := fun k => swapL_at (z := z) (d := d) (i := j) (j := j - 1) (k := k) (by omega) (by omega)
  refine ⟨(h.lo.sub (Nat.le_refl _) (by omega)).congr fun k h1 h2 => by rw [hat, if_neg (by omega), if_neg (by omega)], fun p q h1 h2 h3 => ?_, fun p q h1 h2 h3 h4 => ?_⟩
  · rw [hat, hat]
    by_cases e1 : p = j - 1
    · rw [if_neg (by omega : ¬ q = j - 1), if_pos e1]
      by_cases e2 : q = j
      · rw [if_pos e2]; exact has _ _ hl
      · rw [if_neg e2]; exact h.hi j q (Nat.le_refl _) (by omega) (by omega)
    · rw [if_neg (by omega : ¬ q = j - 1), if_neg e1, if_neg (by omega : ¬ q = j)]
      by_cases e2 : p = j
      · rw [if_pos e2]; exact h.ac (j - 1) q (by omega) (by omega) (by omega) (by omega)
      · rw [if_neg e2]; exact h.hi p q (by omega) h2 h3
  · rw [hat, hat, if_neg (by omega : ¬ q = j - 1), if_neg (by omega : ¬ p = j - 1), if_neg (by omega : ¬ p = j)]
    by_cases e2 : q = j
    · rw [if_pos e2]; exact h.lo p (j - 1) h1 (by omega) (by omega)
    · rw [if_neg e2]; exact h.ac p q h1 (by omega) (by omega) h4
/-! ## Merging -/
/-- The first element moved to its place among the others. -/
theorem sort_up {lt : α → α → Bool} (has : ∀ x y, lt x y = true → lt y x = false) {d d' : List α} {a b i : Nat} (hs : SortS z lt d (a + 1) b) (h1 : a < i) (h2 : i ≤ b) (hlo : ∀ k, a < k → k < i → lt (d.getD k z) (d.getD a z) = true) (hhi : ∀ k, i ≤ k → k < b → lt (d.getD k z) (d.getD a z) = false)
    (hd : ∀ k, d'.getD k z = if a ≤ k ∧ k < i - 1 then d.getD (k + 1) z else if k = i - 1 then d.getD a z else d.getD k z) : SortS z lt d' a b := by
  intro p q g1 g2 g3
  rw [hd, hd]
  by_cases c1 : q < i - 1
  · rw [if_pos ⟨by omega, c1⟩, if_pos ⟨g1, by omega⟩]
    exact hs _ _ (by omega) (by omega) (by omega)
  · rw [if_neg (by omega : ¬ (a ≤ q ∧ q < i - 1))]
    by_cases c2 : q = i - 1
    · rw [if_pos c2, if_pos ⟨g1, by omega⟩]
      exact has _ _ (hlo _ (by omega) (by omega))
    · rw [if_neg c2]
      by_cases c3 : p < i - 1
      · rw [if_pos ⟨g1, c3⟩]
        exact hs _ _ (by omega) (by omega) g3
      · rw [if_neg (by omega : ¬ (a ≤ p ∧ p < i - 1))]
        by_cases c4 : p = i - 1
        · rw [if_pos c4]; exact hhi q (by omega) g3
        · rw [if_neg c4]; exact hs _ _ (by omega) g2 g3
/-- The last element moved to its place among the others. -/
theorem sort_down {lt : α → α → Bool} (has : ∀ x y, lt x y = true → lt y x = false) {d d' : List α} {a m i : Nat} (hs : SortS z lt d a m) (h1 : a ≤ i) (h2 : i ≤ m) (hlo : ∀ k, a ≤ k → k < i → lt (d.getD m z) (d.getD k z) = false) (hhi : ∀ k, i ≤ k → k < m → lt (d.getD m z) (d.getD k z) = true)
    (hd : ∀ k, d'.getD k z = if k = i then d.getD m z else if i < k ∧ k ≤ m then d.getD (k - 1) z else d.getD k z) : SortS z lt d' a (m + 1) := by
  intro p q g1 g2 g3
  rw [hd, hd]
  by_cases c1 : q = i
  · rw [if_pos c1, if_neg (by omega : ¬ p = i), if_neg (by omega : ¬ (i < p ∧ p ≤ m))]
    exact hlo p g1 (by omega)
  · rw [if_neg c1]
    by_cases c2 : i < q
    · rw [if_pos ⟨c2, by omega⟩]
      by_cases c3 : p = i
      · rw [if_pos c3]; exact has _ _ (hhi _ (by omega) (by omega))
      · rw [if_neg c3]
        by_cases c4 : i < p
        · rw [if_pos ⟨c4, by omega⟩]; exact hs _ _ (by omega) (by omega) (by omega)
        · rw [if_neg (by omega : ¬ (i < p ∧ p ≤ m))]
          by_cases c5 : p = q - 1
          · omega
          · exact hs _ _ g1 (by omega) (by omega)
    · rw [if_neg (by omega : ¬ (i < q ∧ q ≤ m)), if_neg (by omega : ¬ p = i), if_neg (by omega : ¬ (i < p ∧ p ≤ m))]
      exact hs _ _ g1 g2 (by omega)
/-- Behind the rotation the left half lies below the right one, and all four parts are sorted. -/
theorem sym_halves {lt : α → α → Bool} (ho : Ord lt) (has : ∀ x y, lt x y = true → lt y x = false) {d e : List α} {a m b mid s t r0 s0 : Nat} (hmid : mid = (a + b) / 2) (ham : a < m) (hmb : m < b)
    (h1 : SortS z lt d a m) (h2 : SortS z lt d m b) (hs0 : s0 = if m > mid then mid + m - b else a) (hr0 : r0 = if m > mid then mid else m) (hs : s0 ≤ s) (hr : s ≤ r0) (ht : t = mid + m - s)
    (hgood : ∀ c, s0 ≤ c → c < s → lt (d.getD (mid + m - 1 - c) z) (d.getD c z) = false) (hbad : ∀ c, s ≤ c → c < r0 → lt (d.getD (mid + m - 1 - c) z) (d.getD c z) = true)
    (he : RotF (fun k => d.getD k z) (fun k => e.getD k z) s m t) :
    (a ≤ s ∧ s ≤ m ∧ m ≤ t ∧ t ≤ b ∧ s ≤ mid ∧ mid ≤ t) ∧ SortS z lt e a s ∧ SortS z lt e s mid ∧ SortS z lt e mid t ∧ SortS z lt e t b ∧ ∀ i j, a ≤ i → i < mid → mid ≤ j → j < b → lt (e.getD j z) (e.getD i z) = false := by
  have hb : a ≤ s ∧ s ≤ m ∧ m ≤ t ∧ t ≤ b ∧ s ≤ mid ∧ mid ≤ t := by
    split at hs0 <;> split at hr0 <;> omega
  obtain ⟨b1, b2, b3, b4, b5, b6⟩ := hb
  have hmt : s + (t - m) = mid := by omega
  have at1 : ∀ k, a ≤ k → k < s → e.getD k z = d.getD k z := fun k _ h => by
    have := he k
    simp only at this
    rw [this, if_neg (by omega), if_neg (by omega)]
  have at2 : ∀ k, s ≤ k → k < mid → e.getD k z = d.getD (k + (m - s)) z := fun k g h => by
    have := he k
    simp only at this
    rw [this, if_pos (by omega)]
  have at3 : ∀ k, mid ≤ k → k < t → e.getD k z = d.getD (k - (t - m)) z := fun k g h => by
    have := he k
    simp only at this
    rw [this, if_neg (by omega), if_pos (by omega)]
  have at4 : ∀ k, t ≤ k → e.getD k z = d.getD k z := fun k g => by
    have := he k
    simp only at this
    rw [this, if_neg (by omega), if_neg (by omega)]
  refine ⟨⟨b1, b2, b3, b4, b5, b6⟩, (h1.sub (Nat.le_refl _) b2).congr at1, fun i j g1 g2 g3 => ?_, fun i j g1 g2 g3 => ?_, (h2.sub b3 (Nat.le_refl _)).congr fun k g _ => at4 k g, fun i j g1 g2 g3 g4 => ?_⟩
  · rw [at2 i g1 (by omega), at2 j (by omega) g3]
    exact h2 _ _ (by omega) (by omega) (by omega)
  · rw [at3 i g1 (by omega), at3 j (by omega) g3]
    exact h1 _ _ (by omega) (by omega) (by omega)
  · by_cases c1 : i < s
    · rw [at1 i g1 c1]
      by_cases c2 : j < t
      · rw [at3 j g3 c2]
        exact h1 _ _ (by omega) (by omega) (by omega)
      · rw [at4 j (by omega)]
        -- through the last one that stays and the first one behind
        have hs' : s0 < s := by
          split at hs0
          · by_cases hh : s0 < s
            · exact hh
            · omega
          · omega
        have hg := hgood (s - 1) (by omega) (by omega)
        have ht' : mid + m - 1 - (s - 1) = t := by omega
        rw [ht'] at hg
        exact ho.tr _ _ _ (ho.tr _ _ _ (h1.le ho g1 (show i ≤ s - 1 by omega) (by omega)) hg) (h2.le ho b3 (show t ≤ j by omega) g4)
    · rw [at2 i (by omega) g2]
      by_cases c2 : j < t
      · rw [at3 j g3 c2]
        have hr' : s < r0 := by
          split at hr0 <;> omega
        have hg := hbad s (Nat.le_refl _) hr'
        have ht' : mid + m - 1 - s = t - 1 := by omega
        rw [ht'] at hg
        exact ho.tr _ _ _ (ho.tr _ _ _ (h2.le ho (show m ≤ i + (m - s) by omega) (show i + (m - s) ≤ t - 1 by omega) (by omega)) (has _ _ hg)) (h1.le ho b1 (show s ≤ j - (t - m) by omega) (by omega))
      · rw [at4 j (by omega)]
        exact h2 _ _ (by omega) (by omega) g4
/-- The halves sorted, each within itself: all is sorted. -/
theorem sym_join {lt : α → α → Bool} {e e' : List α} {a mid b : Nat} (h : Mv z e e' a b) (hl : ∀ k, a ≤ k → k < mid → ∃ j, a ≤ j ∧ j < mid ∧ e'.getD k z = e.getD j z) (hr : ∀ k, mid ≤ k → k < b → ∃ j, mid ≤ j ∧ j < b ∧ e'.getD k z = e.getD j z)
    (h1 : SortS z lt e' a mid) (h2 : SortS z lt e' mid b) (h3 : ∀ i j, a ≤ i → i < mid → mid ≤ j → j < b → lt (e.getD j z) (e.getD i z) = false) : SortS z lt e' a b := by
  refine SortS.join h1 h2 fun i j g1 g2 g3 g4 => ?_
  obtain ⟨i', k1, k2, k3⟩ := hl i g1 g2
  obtain ⟨j', k4, k5, k6⟩ := hr j g3 g4
  rw [k3, k6]
  exact h3 i' j' k1 k2 k4 k5
end
end GoV

/- Groups as sums: groups put in one by one, and groups sorted and added up, give the same. Plain Lean. -/
namespace GoV
open Go
abbrev GRow := List Int × Int × Int
def addP (a b : Int × Int) : Int × Int := (a.1 + b.1, a.2 + b.2)
def cmpt (p : Bool) (n : Int × Int) : Int := bif p then n.1 else n.2
theorem cmpt_add (p : Bool) (a b : Int × Int) : cmpt p (addP a b) = cmpt p a + cmpt p b := by cases p <;> rfl
theorem cmpt_zero (p : Bool) : cmpt p (0, 0) = 0 := by cases p <;> rfl
theorem cmpt_ext {a b : Int × Int} (h : ∀ p, cmpt p a = cmpt p b) : a = b := Prod.ext (h true) (h false)
/-- The sum of a component of the groups with a key. -/
def gsum (p : Bool) : List GRow → List Int → Int
  | [], _ => 0
  | w :: l, r => (if w.1 = r then cmpt p w.2 else 0) + gsum p l r
theorem gsum_append (p : Bool) (a b : List GRow) (r : List Int) : gsum p (a ++ b) r = gsum p a r + gsum p b r := by
  induction a with
  | nil => simp [gsum]
  | cons w a ih => simp only [List.cons_append, gsum, ih]; omega
theorem gsum_perm (p : Bool) {a b : List GRow} (h : a.Perm b) (r : List Int) : gsum p a r = gsum p b r := by
  induction h with
  | nil => rfl
  | cons x _ ih => simp only [gsum, ih]
  | swap x y l => simp only [gsum]; omega
  | trans _ _ h1 h2 => exact h1.trans h2
theorem gsum_none (p : Bool) {l : List GRow} {r : List Int} (h : ∀ w, w ∈ l → w.1 ≠ r) : gsum p l r = 0 := by
  induction l with
  | nil => rfl
  | cons w l ih =>
    simp only [gsum]
    rw [if_neg (h w (by simp)), ih fun x hx => h x (List.mem_cons_of_mem _ hx)]
    omega
def sortedG (l : List GRow) : Prop := l.Pairwise fun a b => ltR a.1 b.1
def nzG (l : List GRow) : Prop := ∀ w, w ∈ l → w.2 ≠ (0, 0)
theorem cmpt_none {n : Int × Int} (h : ∀ p, cmpt p n = 0) : n = (0, 0) := cmpt_ext fun p => by rw [h p, cmpt_zero]
/-- Lists of groups with the same sums are the same. -/
theorem normG_uniq : ∀ {l l' : List GRow}, sortedG l → nzG l → sortedG l' → nzG l' → (∀ p r, gsum p l r = gsum p l' r) → l = l'
  | [], [], _, _, _, _, _ => rfl
  | [], w :: l', _, _, h3, h4, h => by
    obtain ⟨k1, _⟩ := List.pairwise_cons.1 h3
    refine absurd (cmpt_none fun p => ?_) (h4 w (by simp))
    have := h p w.1
    simp only [gsum, if_true] at this
    rw [gsum_none p fun x hx e => ltR_irrefl w.1 (by have := k1 x hx; rwa [e] at this)] at this
    omega
  | w :: l, [], h1, h2, _, _, h => by
    obtain ⟨k1, _⟩ := List.pairwise_cons.1 h1
    refine absurd (cmpt_none fun p => ?_) (h2 w (by simp))
    have := h p w.1
    simp only [gsum, if_true] at this
    rw [gsum_none p fun x hx e => ltR_irrefl w.1 (by have := k1 x hx; rwa [e] at this)] at this
    omega
  | w :: l, w' :: l', h1, h2, h3, h4, h => by
    obtain ⟨k1, k2⟩ := List.pairwise_cons.1 h1
    obtain ⟨k3, k4⟩ := List.pairwise_cons.1 h3
    have a1 : ∀ p, gsum p l w.1 = 0 := fun p => gsum_none p fun x hx e => ltR_irrefl w.1 (by have := k1 x hx; rwa [e] at this)
    have a2 : ∀ p, gsum p l' w'.1 = 0 := fun p => gsum_none p fun x hx e => ltR_irrefl w'.1 (by have := k3 x hx; rwa [e] at this)
    have e1 : w.1 = w'.1 := by
      rcases ltR_total w.1 w'.1 with g | g | g
      · have ne : ¬ w'.1 = w.1 := fun e => ltR_irrefl w.1 (by rwa [e] at g)
        refine absurd (cmpt_none fun p => ?_) (h2 w (by simp))
        have b := h p w.1
        have a3 : gsum p l' w.1 = 0 := gsum_none p fun x hx e => ltR_irrefl w.1 (by have := ltR_trans g (k3 x hx); rwa [e] at this)
        simp only [gsum, if_true, if_neg ne, a1, a3] at b
        omega
      · exact g
      · have ne : ¬ w.1 = w'.1 := fun e => ltR_irrefl w'.1 (by rwa [e] at g)
        refine absurd (cmpt_none fun p => ?_) (h4 w' (by simp))
        have b := h p w'.1
        have a3 : gsum p l w'.1 = 0 := gsum_none p fun x hx e => ltR_irrefl w'.1 (by have := ltR_trans g (k1 x hx); rwa [e] at this)
        simp only [gsum, if_true, if_neg ne, a2, a3] at b
        omega
    have e2 : w.2 = w'.2 := cmpt_ext fun p => by
      have b := h p w.1
      have a4 : gsum p l' w.1 = 0 := by rw [e1]; exact a2 p
      simp only [gsum, if_true, if_pos e1.symm, a1, a4] at b
      omega
    have e3 : w = w' := Prod.ext e1 e2
    subst e3
    have := normG_uniq k2 (fun x hx => h2 x (List.mem_cons_of_mem _ hx)) k4 (fun x hx => h4 x (List.mem_cons_of_mem _ hx)) fun p r => by
      have := h p r
      simp only [gsum] at this
      omega
    rw [this]
/-! ## Groups put in one by one -/
def oneG (r : List Int) (n : Int × Int) : List GRow := if n = (0, 0) then [] else [(r, n)]
theorem oneG_sum (p : Bool) (r : List Int) (n : Int × Int) (q : List Int) : gsum p (oneG r n) q = if r = q then cmpt p n else 0 := by
  simp only [oneG]
  by_cases h : n = (0, 0)
  · rw [if_pos h, h, cmpt_zero]; simp [gsum]
  · rw [if_neg h]; simp [gsum]
theorem oneG_mem {r : List Int} {n : Int × Int} {w : GRow} (h : w ∈ oneG r n) : w = (r, n) ∧ n ≠ (0, 0) := by
  simp only [oneG] at h
  split at h
  · cases h
  · exact ⟨by simpa using h, by assumption⟩
def putG : List GRow → List Int → Int × Int → List GRow
  | [], r, n => oneG r n
  | w :: l, r, n => if cmpL w.1 r < 0 then w :: putG l r n else if cmpL w.1 r = 0 then oneG r (addP n w.2) ++ l else oneG r n ++ w :: l
theorem putG_sum (p : Bool) (l : List GRow) (r : List Int) (n : Int × Int) (q : List Int) : gsum p (putG l r n) q = gsum p l q + if r = q then cmpt p n else 0 := by
  induction l with
  | nil => simp only [putG, oneG_sum, gsum]; omega
  | cons w l ih =>
    simp only [putG]
    split
    · simp only [gsum, ih]; omega
    · split
      · rename_i h
        have := cmpL_eq h
        rw [gsum_append, oneG_sum]
        simp only [gsum, this, cmpt_add]
        split <;> omega
      · rw [gsum_append, oneG_sum]
        omega
theorem putG_mem {l : List GRow} {r : List Int} {n : Int × Int} {w : GRow} (h : w ∈ putG l r n) : w ∈ l ∨ w.1 = r := by
  induction l with
  | nil => exact .inr (by rw [(oneG_mem h).1])
  | cons u l ih =>
    simp only [putG] at h
    split at h
    · rcases List.mem_cons.1 h with rfl | h
      · exact .inl (by simp)
      · exact (ih h).imp (fun h => List.mem_cons_of_mem _ h) id
    · split at h
      · rcases List.mem_append.1 h with h | h
        · exact .inr (by rw [(oneG_mem h).1])
        · exact .inl (List.mem_cons_of_mem _ h)
      · rcases List.mem_append.1 h with h | h
        · exact .inr (by rw [(oneG_mem h).1])
        · exact .inl h
theorem putG_len (l : List GRow) (r : List Int) (n : Int × Int) : (putG l r n).length ≤ l.length + 1 := by
  have ho : ∀ m : Int × Int, (oneG r m).length ≤ 1 := fun m => by simp only [oneG]; split <;> simp
  induction l with
  | nil => exact ho n
  | cons w l ih =>
    simp only [putG]
    split
    · simp only [List.length_cons]; omega
    · split
      · have := ho (addP n w.2)
        simp only [List.length_append, List.length_cons]; omega
      · have := ho n
        simp only [List.length_append, List.length_cons]; omega
theorem oneG_cons_sorted {r : List Int} {n : Int × Int} {l : List GRow} (h : sortedG l) (hr : ∀ w, w ∈ l → ltR r w.1) : sortedG (oneG r n ++ l) := by
  simp only [oneG]
  split
  · exact h
  · exact List.pairwise_cons.2 ⟨hr, h⟩
theorem oneG_nz {r : List Int} {n : Int × Int} {l : List GRow} (h : nzG l) : nzG (oneG r n ++ l) := by
  intro w hw
  rcases List.mem_append.1 hw with hw | hw
  · obtain ⟨rfl, h0⟩ := oneG_mem hw
    exact h0
  · exact h w hw
theorem putG_sorted {l : List GRow} {r : List Int} {n : Int × Int} (h : sortedG l) : sortedG (putG l r n) := by
  induction l with
  | nil => have := oneG_cons_sorted (r := r) (n := n) (l := []) .nil (by simp); simpa [putG] using this
  | cons w l ih =>
    obtain ⟨k1, k2⟩ := List.pairwise_cons.1 h
    simp only [putG]
    split
    · rename_i g
      exact List.pairwise_cons.2 ⟨fun x hx => (putG_mem hx).elim (k1 x) fun e => by rw [e]; exact g, ih k2⟩
    · split
      · rename_i g
        have e := cmpL_eq g
        exact oneG_cons_sorted k2 fun x hx => by rw [← e]; exact k1 x hx
      · rename_i g1 g2
        have g3 : ltR r w.1 := by
          rcases ltR_total w.1 r with g | g | g
          · exact absurd g g1
          · exact absurd (cmpL_zero.2 g) g2
          · exact g
        exact oneG_cons_sorted h fun x hx => by
          rcases List.mem_cons.1 hx with rfl | hx
          · exact g3
          · exact ltR_trans g3 (k1 x hx)
theorem putG_nz {l : List GRow} {r : List Int} {n : Int × Int} (h : nzG l) : nzG (putG l r n) := by
  induction l with
  | nil => have := oneG_nz (r := r) (n := n) (l := []) (fun _ h => by cases h); simpa [putG] using this
  | cons w l ih =>
    have hl : nzG l := fun x hx => h x (List.mem_cons_of_mem _ hx)
    simp only [putG]
    split
    · intro x hx
      rcases List.mem_cons.1 hx with rfl | hx
      · exact h x (by simp)
      · exact ih hl x hx
    · split
      · exact oneG_nz hl
      · exact oneG_nz h
/-- All of a list put in. -/
def putsG (l b : List GRow) : List GRow := b.foldl (fun acc w => putG acc w.1 w.2) l
theorem putsG_ok : ∀ (b : List GRow) {l : List GRow}, sortedG l → nzG l → sortedG (putsG l b) ∧ nzG (putsG l b) ∧ (∀ p q, gsum p (putsG l b) q = gsum p l q + gsum p b q) ∧ (∀ w, w ∈ putsG l b → w ∈ l ∨ ∃ u, u ∈ b ∧ w.1 = u.1) ∧ (putsG l b).length ≤ l.length + b.length
  | [], l, h1, h2 => ⟨h1, h2, fun p q => by simp [putsG, gsum], fun w hw => .inl hw, by simp [putsG]⟩
  | u :: b, l, h1, h2 => by
    obtain ⟨k1, k2, k3, k4, k5⟩ := putsG_ok b (putG_sorted (r := u.1) (n := u.2) h1) (putG_nz h2)
    refine ⟨k1, k2, fun p q => ?_, fun w hw => ?_, ?_⟩
    · have := k3 p q
      rw [putG_sum] at this
      show gsum p (putsG (putG l u.1 u.2) b) q = _
      simp only [gsum]
      omega
    · rcases k4 w hw with h | ⟨x, hx, e⟩
      · rcases putG_mem h with h | h
        · exact .inl h
        · exact .inr ⟨u, by simp, h⟩
      · exact .inr ⟨x, List.mem_cons_of_mem _ hx, e⟩
    · have := putG_len l u.1 u.2
      show (putsG (putG l u.1 u.2) b).length ≤ _
      simp only [List.length_cons]
      omega
/-! ## Groups sorted and added up -/
def weakG (l : List GRow) : Prop := l.Pairwise fun a b => ¬ ltR b.1 a.1
/-- Sums of stretches of the same key: the key at hand, its sums so far, what follows. -/
def runG : List Int → Int × Int → List GRow → List GRow
  | r, s, [] => [(r, s)]
  | r, s, w :: l => if cmpL w.1 r = 0 then runG r (addP s w.2) l else (r, s) :: runG w.1 w.2 l
def nzB (w : GRow) : Bool := !(w.2.1 == 0 && w.2.2 == 0)
theorem nzB_iff {w : GRow} : nzB w = true ↔ w.2 ≠ (0, 0) := by
  obtain ⟨r, a, b⟩ := w
  simp only [nzB, Bool.not_eq_true', Bool.and_eq_false_iff, beq_eq_false_iff_ne, ne_eq, Prod.mk.injEq]
  constructor
  · rintro (h | h) ⟨h1, h2⟩ <;> contradiction
  · intro h
    by_cases h1 : a = 0
    · exact .inr fun h2 => h ⟨h1, h2⟩
    · exact .inl h1
def groupG : List GRow → List GRow
  | [] => []
  | w :: l => runG w.1 w.2 l
theorem runG_sum (p : Bool) : ∀ (l : List GRow) (r : List Int) (s : Int × Int) (q : List Int), gsum p (runG r s l) q = (if r = q then cmpt p s else 0) + gsum p l q
  | [], r, s, q => by simp only [runG, gsum]
  | w :: l, r, s, q => by
    simp only [runG]
    split
    · rename_i h
      rw [runG_sum p l]
      simp only [gsum, cmpL_eq h, cmpt_add]
      split <;> omega
    · simp only [gsum]
      rw [runG_sum p l]
theorem runG_mem : ∀ {l : List GRow} {r : List Int} {s : Int × Int} {w : GRow}, w ∈ runG r s l → w.1 = r ∨ ∃ u, u ∈ l ∧ w.1 = u.1
  | [], r, s, w, h => .inl (by simp only [runG, List.mem_singleton] at h; rw [h])
  | u :: l, r, s, w, h => by
    simp only [runG] at h
    split at h
    · exact (runG_mem h).imp id fun ⟨x, hx, e⟩ => ⟨x, List.mem_cons_of_mem _ hx, e⟩
    · rcases List.mem_cons.1 h with h | h
      · exact .inl (by rw [h])
      · rcases runG_mem h with h | ⟨x, hx, e⟩
        · exact .inr ⟨u, by simp, h⟩
        · exact .inr ⟨x, List.mem_cons_of_mem _ hx, e⟩
theorem runG_sorted : ∀ {l : List GRow} {r : List Int} {s : Int × Int}, weakG l → (∀ w, w ∈ l → ¬ ltR w.1 r) → sortedG (runG r s l)
  | [], r, s, _, _ => List.pairwise_singleton _ _
  | w :: l, r, s, h, hr => by
    obtain ⟨k1, k2⟩ := List.pairwise_cons.1 h
    simp only [runG]
    split
    · exact runG_sorted k2 fun x hx => hr x (List.mem_cons_of_mem _ hx)
    · rename_i g
      have g3 : ltR r w.1 := by
        rcases ltR_total r w.1 with g' | g' | g'
        · exact g'
        · exact absurd (cmpL_zero.2 g'.symm) g
        · exact absurd g' (hr w (by simp))
      refine List.pairwise_cons.2 ⟨fun x hx => ?_, runG_sorted k2 fun x hx => k1 x hx⟩
      rcases runG_mem hx with e | ⟨u, hu, e⟩
      · show ltR r x.1
        rw [e]; exact g3
      · show ltR r x.1
        rw [e]
        rcases ltR_total w.1 u.1 with g' | g' | g'
        · exact ltR_trans g3 g'
        · rw [← g']; exact g3
        · exact absurd g' (k1 u hu)
theorem gsum_filter (p : Bool) (q : List Int) : ∀ l : List GRow, gsum p (l.filter nzB) q = gsum p l q
  | [] => rfl
  | w :: l => by
    have ih := gsum_filter p q l
    cases h : nzB w with
    | true => rw [List.filter_cons_of_pos (by exact h)]; simp only [gsum, ih]
    | false =>
      rw [List.filter_cons_of_neg (by simp [h])]
      have h0 : w.2 = (0, 0) := Classical.byContradiction fun hn => by rw [nzB_iff.2 hn] at h; cases h
      simp only [gsum, ih, h0, cmpt_zero]
      split <;> omega
theorem groupG_ok {l : List GRow} (h : weakG l) : sortedG ((groupG l).filter nzB) ∧ nzG ((groupG l).filter nzB) ∧ ∀ p q, gsum p ((groupG l).filter nzB) q = gsum p l q := by
  refine ⟨?_, fun w hw => nzB_iff.1 (List.mem_filter.1 hw).2, fun p q => ?_⟩
  · cases l with
    | nil => exact .nil
    | cons w l =>
      obtain ⟨k1, k2⟩ := List.pairwise_cons.1 h
      exact (runG_sorted k2 k1).sublist List.filter_sublist
  · rw [gsum_filter]
    cases l with
    | nil => rfl
    | cons w l => rw [groupG, runG_sum]; rfl
/-- The order of groups, as the sort asks. -/
def ltG (x y : GRow) : Bool := decide (cmpL x.1 y.1 < 0)
theorem ltG_ord : Ord ltG := ⟨fun x => by simp [ltG, cmpL_refl], fun x y w h1 h2 => by
  simp only [ltG, decide_eq_false_iff_not] at h1 h2 ⊢
  intro h
  rcases ltR_total x.1 y.1 with g | g | g
  · exact h2 (ltR_trans h g)
  · rw [g] at h; exact h2 h
  · exact h1 g⟩
theorem ltG_asym (x y : GRow) (h : ltG x y = true) : ltG y x = false := by
  simp only [ltG, decide_eq_true_eq, decide_eq_false_iff_not] at h ⊢
  exact ltR_asymm h
theorem weakG_of {d : List GRow} (h : SortS ([], 0, 0) ltG d 0 d.length) : weakG d := by
  refine List.pairwise_iff_getElem.2 fun i j hi hj hij => ?_
  have := h i j (Nat.zero_le _) hij hj
  rw [getD_of_lt hi, getD_of_lt hj] at this
  simpa [ltG, ltR] using this
/-- Both ways give the same. -/
theorem groupG_puts {a b d : List GRow} (hp : d.Perm (a ++ b)) (hs : SortS ([], 0, 0) ltG d 0 d.length) (h1 : sortedG a) (h2 : nzG a) : (groupG d).filter nzB = putsG a b := by
  obtain ⟨k1, k2, k3⟩ := groupG_ok (weakG_of hs)
  obtain ⟨g1, g2, g3, _⟩ := putsG_ok b h1 h2
  refine normG_uniq k1 k2 g1 g2 fun p r => ?_
  rw [k3, g3, gsum_perm p hp, gsum_append]
end GoV

/- Good groups; what sums of groups keep to. Plain Lean. -/
namespace GoV
open Go
def klen (l : List GRow) : Nat := (l.getD 0 ([], 0, 0)).1.length
def sumB (n : Int) : Bool := inB (-100000000000000) 100000000000000 n
theorem sumB_iff {n : Int} : sumB n = true ↔ -100000000000000 ≤ n ∧ n ≤ 100000000000000 := inB_iff
def grB (k : Nat) (g : GRow) : Bool := (goodR g.1 && decide (g.1.length = k)) && ((sumB g.2.1 && sumB g.2.2) && nzB g)
def gatB (l : List GRow) (i : Nat) : Bool := grB (klen l) (l.getD i ([], 0, 0)) && (decide (i = 0) || decide (cmpL (l.getD (i - 1) ([], 0, 0)).1 (l.getD i ([], 0, 0)).1 < 0))
def goodG (l : List GRow) : Bool := allR (gatB l) 0 l.length && decide (l.length ≤ 60)
theorem goodG_iff {l : List GRow} : goodG l = true ↔ l.length ≤ 60 ∧ (∀ g, g ∈ l → grB (klen l) g = true) ∧ sortedG l := by
  simp only [goodG, Bool.and_eq_true, allR_iff, gatB, decide_eq_true_eq, Bool.or_eq_true]
  constructor
  · rintro ⟨h1, h3⟩
    refine ⟨h3, fun w hw => ?_, ?_⟩
    · obtain ⟨i, hi, rfl⟩ := List.mem_iff_getElem.1 hw
      have := (h1 i (Nat.zero_le _) hi).1
      rwa [getD_of_lt hi] at this
    · refine chain_pairwise (R := fun a b : GRow => ltR a.1 b.1) (fun h h' => ltR_trans h h') ([], 0, 0) fun i h4 h5 => ?_
      rcases (h1 i (Nat.zero_le _) h5).2 with h6 | h6
      · omega
      · exact h6
  · rintro ⟨h2, h3, h4⟩
    refine ⟨fun k _ hk => ⟨h3 _ (getD_mem _ hk), ?_⟩, h2⟩
    by_cases h5 : k = 0
    · exact .inl h5
    · exact .inr (pairwise_chain ([], 0, 0) h4 (by omega) hk)
theorem grB_iff {k : Nat} {g : GRow} : grB k g = true ↔ goodR g.1 = true ∧ g.1.length = k ∧ (-100000000000000 ≤ g.2.1 ∧ g.2.1 ≤ 100000000000000) ∧ (-100000000000000 ≤ g.2.2 ∧ g.2.2 ≤ 100000000000000) ∧ g.2 ≠ (0, 0) := by
  simp only [grB, Bool.and_eq_true, decide_eq_true_eq, sumB_iff, nzB_iff, and_assoc]
theorem goodG_rows {l : List GRow} (h : goodG l = true) : l.length ≤ 60 ∧ ∀ g, g ∈ l → g.1.length ≤ 6 ∧ ((-100000000000000 ≤ g.2.1 ∧ g.2.1 ≤ 100000000000000) ∧ (-100000000000000 ≤ g.2.2 ∧ g.2.2 ≤ 100000000000000)) ∧ g.2 ≠ (0, 0) := by
  obtain ⟨h1, h2, _⟩ := goodG_iff.1 h
  refine ⟨h1, fun g hg => ?_⟩
  obtain ⟨k1, k2, k3, k4, k5⟩ := grB_iff.1 (h2 g hg)
  exact ⟨goodR_len k1, ⟨k3, k4⟩, k5⟩
theorem goodG_nz {l : List GRow} (h : goodG l = true) : sortedG l ∧ nzG l := ⟨(goodG_iff.1 h).2.2, fun g hg => ((goodG_rows h).2 g hg).2.2⟩
theorem goodG_nil : goodG [] = true := rfl
abbrev groupsTy : Ty := .sl (.pair (.sl (.int .i64)) (.pair (.int .i64) (.int .i64)))
theorem goodG_size {l : List GRow} (h : goodG l = true) : szT groupsTy l ≤ 1073741824 := by
  obtain ⟨h1, h2⟩ := goodG_rows h
  have key : ∀ l : List GRow, (∀ g, g ∈ l → g.1.length ≤ 6) → (l.map (szT (.pair (.sl (.int .i64)) (.pair (.int .i64) (.int .i64))))).sum ≤ 6 * l.length := by
    intro l
    induction l with
    | nil => intro _; simp
    | cons g l ih =>
      intro h
      have k1 := h g (by simp)
      have k2 := ih fun x hx => h x (List.mem_cons_of_mem _ hx)
      have k3 : szT (.pair (.sl (.int .i64)) (.pair (.int .i64) (.int .i64))) g = g.1.length := by
        show szT (.sl (.int .i64)) g.1 + (0 + 0) = _
        rw [szT_sl_flat (t := .int .i64) g.1 rfl]
        omega
      simp only [List.map_cons, List.sum_cons, List.length_cons]
      rw [k3]
      omega
  have := key l fun g hg => (h2 g hg).1
  show l.length + (l.map (szT (.pair (.sl (.int .i64)) (.pair (.int .i64) (.int .i64))))).sum ≤ _
  omega
theorem groups_len {l : List GRow} {n : Nat} (h : szT groupsTy l ≤ n) : l.length ≤ n ∧ ∀ g, g ∈ l → g.1.length ≤ n := by
  have h1 := szT_len (t := .pair (.sl (.int .i64)) (.pair (.int .i64) (.int .i64))) (l := l)
  refine ⟨Nat.le_trans h1 h, fun g hg => ?_⟩
  have h2 := szT_mem (t := .pair (.sl (.int .i64)) (.pair (.int .i64) (.int .i64))) (l := l) hg
  have h3 : szT (.sl (.int .i64)) g.1 ≤ szT (.pair (.sl (.int .i64)) (.pair (.int .i64) (.int .i64))) g := by
    show _ ≤ szT (.sl (.int .i64)) g.1 + (0 + 0)
    omega
  have h4 := szT_len (t := .int .i64) (l := g.1)
  exact Nat.le_trans h4 (Nat.le_trans h3 (Nat.le_trans h2 h))
/-! ## What sums keep to -/
def boxG (M : Int) (n : Int × Int) : Prop := (-M ≤ n.1 ∧ n.1 ≤ M) ∧ (-M ≤ n.2 ∧ n.2 ≤ M)
structure PutGK (M : Int) (N : Nat) (l : List GRow) : Prop where
  len : l.length ≤ N
  row : ∀ w, w ∈ l → w.1.length ≤ 1073741824
  wt : ∀ w, w ∈ l → boxG M w.2
theorem putG_wt {l : List GRow} {r : List Int} {n : Int × Int} {w : GRow} (h : w ∈ putG l r n) : (∃ u, u ∈ l ∧ w.2 = u.2) ∨ w.2 = n ∨ ∃ u, u ∈ l ∧ w.2 = addP n u.2 := by
  induction l with
  | nil => exact .inr (.inl (by rw [(oneG_mem h).1]))
  | cons u l ih =>
    simp only [putG] at h
    split at h
    · rcases List.mem_cons.1 h with rfl | h
      · exact .inl ⟨w, by simp, rfl⟩
      · exact (ih h).imp (fun ⟨x, hx, e⟩ => ⟨x, List.mem_cons_of_mem _ hx, e⟩) (Or.imp id fun ⟨x, hx, e⟩ => ⟨x, List.mem_cons_of_mem _ hx, e⟩)
    · split at h
      · rcases List.mem_append.1 h with h | h
        · exact .inr (.inr ⟨u, by simp, by rw [(oneG_mem h).1]⟩)
        · exact .inl ⟨w, List.mem_cons_of_mem _ h, rfl⟩
      · rcases List.mem_append.1 h with h | h
        · exact .inr (.inl (by rw [(oneG_mem h).1]))
        · exact .inl ⟨w, h, rfl⟩
theorem boxG_add {M m : Int} {a b : Int × Int} (ha : boxG m a) (hb : boxG M b) : boxG (M + m) (addP a b) := by
  obtain ⟨⟨a1, a2⟩, a3, a4⟩ := ha
  obtain ⟨⟨b1, b2⟩, b3, b4⟩ := hb
  refine ⟨⟨?_, ?_⟩, ?_, ?_⟩ <;> simp only [addP] <;> omega
theorem boxG_mono {M m : Int} {a : Int × Int} (h : boxG m a) (hm : m ≤ M) : boxG M a := by
  obtain ⟨⟨a1, a2⟩, a3, a4⟩ := h
  exact ⟨⟨by omega, by omega⟩, by omega, by omega⟩
theorem PutGK.put {M m : Int} {N : Nat} {l : List GRow} {r : List Int} {n : Int × Int} (h : PutGK M N l) (hr : r.length ≤ 1073741824) (hn : boxG m n) (hm : 0 ≤ M) (hm2 : 0 ≤ m) : PutGK (M + m) (N + 1) (putG l r n) :=
  ⟨Nat.le_trans (putG_len l r n) (by have := h.len; omega), fun w hw => (putG_mem hw).elim (h.row w) fun e => by rw [e]; exact hr, fun w hw => by
    rcases putG_wt hw with ⟨u, hu, e⟩ | e | ⟨u, hu, e⟩
    · rw [e]; exact boxG_mono (h.wt u hu) (by omega)
    · rw [e]; exact boxG_mono hn (by omega)
    · rw [e]; exact boxG_add hn (h.wt u hu)⟩
/-- A loop that puts in one group for each element. -/
theorem putsG_loop {α β : Type} (l : List α) (z : α) (row : α → List Int) (wt : α → Int × Int) (L : List GRow → Nat → Option β) (res : List GRow → Option β) {M m : Int} {N : Nat} (hM : 0 ≤ M) (hm : 0 ≤ m)
    (hr : ∀ x, x ∈ l → (row x).length ≤ 1073741824) (hw : ∀ x, x ∈ l → boxG m (wt x))
    (he : ∀ acc b, PutGK (M + m * l.length) (N + l.length) acc → res acc = some b → L acc l.length = some b)
    (hs : ∀ acc i b, i < l.length → PutGK (M + m * i) (N + i) acc → L (putG acc (row (l.getD i z)) (wt (l.getD i z))) (i + 1) = some b → L acc i = some b) :
    ∀ acc b, PutGK M N acc → res (l.foldl (fun acc x => putG acc (row x) (wt x)) acc) = some b → L acc 0 = some b := by
  have key : ∀ i, i ≤ l.length → ∀ acc b, PutGK (M + m * i) (N + i) acc → res ((l.drop i).foldl (fun acc x => putG acc (row x) (wt x)) acc) = some b → L acc i = some b := by
    refine upto ?_ ?_
    · intro acc b ha hb
      rw [List.drop_length] at hb
      exact he acc b ha hb
    · intro i hi ih acc b ha hb
      rw [drop_getD z hi, List.foldl_cons] at hb
      refine hs acc i b hi ha (ih _ b ?_ hb)
      have hx := getD_mem z hi
      have h0 : 0 ≤ m * (i : Int) := Int.mul_nonneg hm (by omega)
      have := ha.put (hr _ hx) (hw _ hx) (by omega) hm
      have e : M + m * ((i + 1 : Nat) : Int) = M + m * (i : Int) + m := by
        rw [Int.natCast_succ, Int.mul_add, Int.mul_one]; omega
      rw [e]
      exact this
  intro acc b ha hb
  refine key 0 (Nat.zero_le _) acc b ?_ (by rw [List.drop_zero]; exact hb)
  simpa using ha
theorem PutGK.nil : PutGK 0 0 [] := ⟨Nat.le_refl _, fun _ h => (by cases h), fun _ h => (by cases h)⟩
theorem putsG_rows {a b : List GRow} {c : Nat} (h1 : sortedG a) (h2 : nzG a) (ha : ∀ w, w ∈ a → w.1.length ≤ c) (hb : ∀ w, w ∈ b → w.1.length ≤ c) : (putsG a b).length ≤ a.length + b.length ∧ ∀ w, w ∈ putsG a b → w.1.length ≤ c := by
  obtain ⟨_, _, _, h3, h4⟩ := putsG_ok b h1 h2
  refine ⟨h4, fun w hw => ?_⟩
  rcases h3 w hw with h | ⟨u, hu, e⟩
  · exact ha w h
  · rw [e]; exact hb u hu
end GoV
