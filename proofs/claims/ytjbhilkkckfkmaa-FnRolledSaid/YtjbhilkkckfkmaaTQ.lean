/- A part of the proof of FnRolled: an interpreter of the model over plain data, its soundness, and what it makes of the functions that the statement reaches. Conditions: none beyond what the given statement itself says. -/
import Derived.Test.YtjbhilkkckfkmaaTP
set_option linter.unusedVariables false
set_option linter.unusedSimpArgs false
set_option linter.unnecessarySimpa false
set_option linter.unusedSectionVars false
/- The loops of sorting, by rules of the form 'what comes of the next step comes of this one'. Plain Lean. -/
namespace GoV
open Go
section
variable {α β : Type} {z : α} {lt : α → α → Bool}
/-! ## Insertion -/
theorem ins_inner (ho : Ord lt) (has : ∀ x y, lt x y = true → lt y x = false) {a i : Nat} (L : List α → Nat → Option β) (K : List α → Option β) (hz : ∀ d r, K d = some r → L d a = some r)
    (hs : ∀ d j r, a < j → j ≤ i → i < d.length → lt (d.getD j z) (d.getD (j - 1) z) = false → K d = some r → L d j = some r)
    (hm : ∀ d j r, a < j → j ≤ i → i < d.length → lt (d.getD j z) (d.getD (j - 1) z) = true → L (swapL z d j (j - 1)) (j - 1) = some r → L d j = some r) :
    ∀ j d, a ≤ j → j ≤ i → i < d.length → InsK z lt d a i j → ∃ d', Mv z d d' a (i + 1) ∧ SortS z lt d' a (i + 1) ∧ ∀ r, K d' = some r → L d j = some r := by
  intro j
  induction j with
  | zero =>
    intro d h1 h2 h3 h4
    obtain rfl : a = 0 := by omega
    exact ⟨d, .refl _ _ _, h4.zero, fun r hr => hz d r hr⟩
  | succ j ih =>
    intro d h1 h2 h3 h4
    by_cases e : a = j + 1
    · subst e
      exact ⟨d, .refl _ _ _, h4.zero, fun r hr => hz d r hr⟩
    · cases hl : lt (d.getD (j + 1) z) (d.getD (j + 1 - 1) z) with
      | false => exact ⟨d, .refl _ _ _, h4.stop ho (by omega) h2 hl, fun r hr => hs d _ r (by omega) h2 h3 hl hr⟩
      | true =>
        obtain ⟨d', k1, k2, k3⟩ := ih (swapL z d (j + 1) (j + 1 - 1)) (by omega) (by omega) (by rw [swapL_len]; exact h3) (h4.step has (by omega) h2 h3 hl)
        exact ⟨d', (Mv.swap (by omega) (by omega) (by omega) (by omega) (by omega) (by omega)).trans k1, k2, fun r hr => hm d _ r (by omega) h2 h3 hl (k3 r hr)⟩
theorem ins_outer (ho : Ord lt) (has : ∀ x y, lt x y = true → lt y x = false) {a b N : Nat} (hb : b ≤ N) (L : List α → Nat → Option β) (L1 : Nat → List α → Nat → Option β) (K : List α → Option β) (hz : ∀ d i r, b ≤ i → K d = some r → L d i = some r)
    (hi : ∀ d i r, a < i → i < b → d.length = N → L1 i d i = some r → L d i = some r)
    (h0 : ∀ d i r, i < b → L d (i + 1) = some r → L1 i d a = some r)
    (hs : ∀ d i j r, a < j → j ≤ i → i < b → d.length = N → lt (d.getD j z) (d.getD (j - 1) z) = false → L d (i + 1) = some r → L1 i d j = some r)
    (hm : ∀ d i j r, a < j → j ≤ i → i < b → d.length = N → lt (d.getD j z) (d.getD (j - 1) z) = true → L1 i (swapL z d j (j - 1)) (j - 1) = some r → L1 i d j = some r) :
    ∀ n i d, b - i = n → a < i → d.length = N → SortS z lt d a (min i b) → ∃ d', Mv z d d' a b ∧ SortS z lt d' a b ∧ ∀ r, K d' = some r → L d i = some r := by
  intro n
  induction n with
  | zero =>
    intro i d h1 h2 h3 h4
    have : min i b = b := by omega
    rw [this] at h4
    exact ⟨d, .refl _ _ _, h4, fun r hr => hz d i r (by omega) hr⟩
  | succ n ih =>
    intro i d h1 h2 h3 h4
    have hib : i < b := by omega
    have e : min i b = i := by omega
    rw [e] at h4
    -- the inner loop keeps the length
    obtain ⟨d1, k1, k2, k3⟩ := ins_inner (β := β) (K := fun d' => if d'.length = N then L d' (i + 1) else none) ho has (a := a) (i := i) (fun d' j => if d'.length = N then L1 i d' j else none)
      (fun d' r hr => by
        split at hr
        · rename_i hl; simp only [hl, if_true]; exact h0 d' i r hib hr
        · cases hr)
      (fun d' j r g1 g2 g3 g4 hr => by
        split at hr
        · rename_i hl; simp only [hl, if_true]; exact hs d' i j r g1 g2 hib hl g4 hr
        · cases hr)
      (fun d' j r g1 g2 g3 g4 hr => by
        split at hr
        · rename_i hl
          rw [swapL_len] at hl
          simp only [hl, if_true]
          exact hm d' i j r g1 g2 hib hl g4 hr
        · cases hr) i d (by omega) (Nat.le_refl _) (by omega) (.start h4)
    have hl1 : d1.length = N := k1.len.trans h3
    obtain ⟨d', g1, g2, g3⟩ := ih (i + 1) d1 (by omega) (by omega) hl1 (by rw [show min (i + 1) b = i + 1 by omega]; exact k2)
    refine ⟨d', (k1.mono (Nat.le_refl _) (by omega)).trans g1, g2, fun r hr => hi d i r h2 hib h3 ?_⟩
    have := k3 r (by simp only [hl1, if_true]; exact g3 r hr)
    simpa only [h3, if_true] using this
/-! ## Ranges swapped -/
theorem swap_loop {n a b N : Nat} (L : List α → Nat → Option β) (K : List α → Option β) (hz : ∀ d r, d.length = N → K d = some r → L d n = some r)
    (hs : ∀ d i r, i < n → d.length = N → L (swapL z d (a + i) (b + i)) (i + 1) = some r → L d i = some r) :
    ∀ m k d, n - k = m → d.length = N → k ≤ n → ∀ r, K (swapR z m d (a + k) (b + k)) = some r → L d k = some r := by
  intro m
  induction m with
  | zero =>
    intro k d h1 h2 h3 r hr
    obtain rfl : k = n := by omega
    exact hz d r h2 hr
  | succ m ih =>
    intro k d h1 h2 h3 r hr
    exact hs d k r (by omega) h2 (ih (k + 1) _ (by omega) (by rw [swapL_len]; exact h2) (by omega) r hr)
/-! ## Rotation -/
theorem rot_loop {m N : Nat} (L : List α → Nat → Nat → Option β) (K : List α → Option β)
    (h0 : ∀ d i r, i ≤ m → 0 < i → m + i ≤ d.length → d.length = N → K (swapR z i d (m - i) m) = some r → L d i i = some r)
    (h1 : ∀ d i j r, j < i → 0 < j → i ≤ m → m + j ≤ d.length → d.length = N → L (swapR z j d (m - i) m) (i - j) j = some r → L d i j = some r)
    (h2 : ∀ d i j r, i < j → 0 < i → i ≤ m → m + j ≤ d.length → d.length = N → L (swapR z i d (m - i) (m + j - i)) i (j - i) = some r → L d i j = some r) :
    ∀ n i j d, i + j = n → 0 < i → 0 < j → i ≤ m → m + j ≤ d.length → d.length = N →
      ∃ d', Mv z d d' (m - i) (m + j) ∧ RotF (fun k => d.getD k z) (fun k => d'.getD k z) (m - i) m (m + j) ∧ ∀ r, K d' = some r → L d i j = some r := by
  intro n
  induction n using Nat.strongRecOn with
  | ind n ih =>
    intro i j d hn hi hj him hjd hN
    by_cases e : i = j
    · subst e
      obtain ⟨k1, k2, k3⟩ := swapR_ok (z := z) i d (m - i) m (by omega) hjd
      exact ⟨_, k2, rot_last him k3, fun r hr => h0 d i r him hi hjd hN hr⟩
    · by_cases e2 : j < i
      · obtain ⟨k1, k2, k3⟩ := swapR_ok (z := z) j d (m - i) m (by omega) hjd
        obtain ⟨d', g1, g2, g3⟩ := ih (i - j + j) (by omega) (i - j) j (swapR z j d (m - i) m) rfl (by omega) hj (by omega) (by omega) (by omega)
        exact ⟨d', k2.trans (g1.mono (by omega) (Nat.le_refl _)), rot_left him e2 hj k3 g2, fun r hr => h1 d i j r e2 hj him hjd hN (g3 r hr)⟩
      · have e3 : i < j := by omega
        obtain ⟨k1, k2, k3⟩ := swapR_ok (z := z) i d (m - i) (m + j - i) (by omega) (by omega)
        obtain ⟨d', g1, g2, g3⟩ := ih (i + (j - i)) (by omega) i (j - i) (swapR z i d (m - i) (m + j - i)) rfl hi (by omega) him (by omega) (by omega)
        exact ⟨d', (k2.mono (Nat.le_refl _) (by omega)).trans (g1.mono (Nat.le_refl _) (by omega)), rot_right him e3 hi k3 g2, fun r hr => h2 d i j r e3 hi him hjd hN (g3 r hr)⟩
/-! ## Halving -/
theorem bs_loop {p : Nat → Bool} {lo hi : Nat} (hp : ∀ h k, lo ≤ k → k ≤ h → h < hi → p h = true → p k = true) (L : Nat → Nat → Option β) (K : Nat → Option β) (he : ∀ i r, lo ≤ i → i ≤ hi → K i = some r → L i i = some r)
    (ht : ∀ i j r, i < j → lo ≤ i → j ≤ hi → p ((i + j) / 2) = true → L ((i + j) / 2 + 1) j = some r → L i j = some r)
    (hf : ∀ i j r, i < j → lo ≤ i → j ≤ hi → p ((i + j) / 2) = false → L i ((i + j) / 2) = some r → L i j = some r) :
    ∀ n i j, j - i = n → lo ≤ i → i ≤ j → j ≤ hi → (∀ k, lo ≤ k → k < i → p k = true) → (∀ k, j ≤ k → k < hi → p k = false) →
      ∃ q, lo ≤ q ∧ q ≤ hi ∧ (∀ k, lo ≤ k → k < q → p k = true) ∧ (∀ k, q ≤ k → k < hi → p k = false) ∧ ∀ r, K q = some r → L i j = some r := by
  intro n
  induction n using Nat.strongRecOn with
  | ind n ih =>
    intro i j hn h1 h2 h3 hlo hhi
    by_cases e : i = j
    · subst e
      exact ⟨i, h1, h3, hlo, hhi, fun r hr => he i r h1 h3 hr⟩
    · cases hc : p ((i + j) / 2) with
      | true =>
        obtain ⟨q, k1, k2, k3, k4, k5⟩ := ih (j - ((i + j) / 2 + 1)) (by omega) ((i + j) / 2 + 1) j rfl (by omega) (by omega) h3 (fun k g1 g2 => hp _ k g1 (by omega) (by omega) hc) hhi
        exact ⟨q, k1, k2, k3, k4, fun r hr => ht i j r (by omega) h1 h3 hc (k5 r hr)⟩
      | false =>
        obtain ⟨q, k1, k2, k3, k4, k5⟩ := ih ((i + j) / 2 - i) (by omega) i ((i + j) / 2) rfl h1 (by omega) (by omega) hlo (fun k g1 g2 => by
          cases hk : p k with
          | false => rfl
          | true => rw [hp k ((i + j) / 2) (by omega) g1 g2 hk] at hc; cases hc)
        exact ⟨q, k1, k2, k3, k4, fun r hr => hf i j r (by omega) h1 h3 hc (k5 r hr)⟩
/-! ## One element moved -/
theorem up_loop {e N : Nat} (heN : e < N) (L : List α → Nat → Option β) (K : List α → Option β) (hz : ∀ d r, d.length = N → K d = some r → L d e = some r)
    (hs : ∀ d k r, k < e → d.length = N → L (swapL z d k (k + 1)) (k + 1) = some r → L d k = some r) :
    ∀ n k d, e - k = n → k ≤ e → d.length = N →
      ∃ d', Mv z d d' k (e + 1) ∧ (∀ q, d'.getD q z = if k ≤ q ∧ q < e then d.getD (q + 1) z else if q = e then d.getD k z else d.getD q z) ∧ ∀ r, K d' = some r → L d k = some r := by
  intro n
  induction n with
  | zero =>
    intro k d h1 h2 h3
    obtain rfl : k = e := by omega
    refine ⟨d, .refl _ _ _, fun q => ?_, fun r hr => hz d r h3 hr⟩
    rw [if_neg (by omega)]
    split
    · rename_i h; rw [h]
    · rfl
  | succ n ih =>
    intro k d h1 h2 h3
    have hk : k < d.length := by omega
    have hk1 : k + 1 < d.length := by omega
    obtain ⟨d', k1, k2, k3⟩ := ih (k + 1) (swapL z d k (k + 1)) (by omega) (by omega) (by rw [swapL_len]; exact h3)
    refine ⟨d', (Mv.swap hk hk1 (Nat.le_refl _) (by omega) (by omega) (by omega)).trans (k1.mono (by omega) (Nat.le_refl _)), fun q => ?_, fun r hr => hs d k r (by omega) h3 (k3 r hr)⟩
    rw [k2]
    simp only [swapL_at hk hk1]
    by_cases c1 : q = k
    · subst c1
      rw [if_neg (by omega), if_neg (by omega), if_neg (by omega), if_pos rfl, if_pos (by omega)]
    · by_cases c2 : k + 1 ≤ q ∧ q < e
      · rw [if_pos c2, if_neg (by omega), if_neg (by omega), if_pos (by omega)]
      · rw [if_neg c2]
        by_cases c3 : q = e
        · rw [if_pos c3, if_pos trivial, if_neg (by omega), if_pos c3]
        · rw [if_neg c3, if_neg (by omega), if_neg (by omega), if_neg (by omega), if_neg c3]
theorem down_loop {e N : Nat} (L : List α → Nat → Option β) (K : List α → Option β) (hz : ∀ d r, d.length = N → K d = some r → L d e = some r)
    (hs : ∀ d k r, e < k → k < N → d.length = N → L (swapL z d k (k - 1)) (k - 1) = some r → L d k = some r) :
    ∀ n k d, k - e = n → e ≤ k → k < N → d.length = N →
      ∃ d', Mv z d d' e (k + 1) ∧ (∀ q, d'.getD q z = if q = e then d.getD k z else if e < q ∧ q ≤ k then d.getD (q - 1) z else d.getD q z) ∧ ∀ r, K d' = some r → L d k = some r := by
  intro n
  induction n with
  | zero =>
    intro k d h1 h2 h4 h3
    obtain rfl : k = e := by omega
    refine ⟨d, .refl _ _ _, fun q => ?_, fun r hr => hz d r h3 hr⟩
    split
    · rename_i h; rw [h]
    · rw [if_neg (by omega)]
  | succ n ih =>
    intro k d h1 h2 h4 h3
    have hk : k < d.length := by omega
    have hk1 : k - 1 < d.length := by omega
    obtain ⟨d', k1, k2, k3⟩ := ih (k - 1) (swapL z d k (k - 1)) (by omega) (by omega) (by omega) (by rw [swapL_len]; exact h3)
    refine ⟨d', (Mv.swap hk hk1 (by omega) (by omega) (by omega) (by omega)).trans (k1.mono (Nat.le_refl _) (by omega)), fun q => ?_, fun r hr => hs d k r (by omega) h4 h3 (k3 r hr)⟩
    rw [k2]
    simp only [swapL_at hk hk1]
    by_cases c1 : q = e
    · rw [if_pos c1, if_pos trivial, if_pos c1]
    · rw [if_neg c1, if_neg c1]
      by_cases c2 : e < q ∧ q ≤ k - 1
      · rw [if_pos c2, if_neg (by omega), if_neg (by omega), if_pos (by omega)]
      · rw [if_neg c2]
        by_cases c3 : q = k
        · subst c3
          rw [if_neg (by omega), if_pos rfl, if_pos (by omega)]
        · rw [if_neg (by omega), if_neg c3, if_neg (by omega)]
end
end GoV

/- Groups as sums: groups put in one by one, and groups sorted and added up, give the same. Plain Lean. -/
namespace GoV
open Go
abbrev GRow := List Int × Int × Int
def addP (a b : Int × Int) : Int × Int := (a.1 + b.1, a.2 + b.2)
def cmpt (p : Bool) (n : Int × Int) : Int := bif p then n.1 else n.2
theorem cmpt_add (p : Bool) (a b : Int × Int) : cmpt p (addP a b) = cmpt p a + cmpt p b := by cases p <;> rfl
theorem cmpt_zero (p : Bool) : cmpt p (0, 0) = 0 := by cases p <;> rfl
theorem cmpt_ext {a b : Int × Int} (h : ∀ p, cmpt p a = cmpt p b) : a = b := Prod.ext (h true) (h false)
def gsum (p : Bool) : List GRow → List Int → Int
  | [], _ => 0
  | w :: l, r => (if w.1 = r then cmpt p w.2 else 0) + gsum p l r
theorem gsum_append (p : Bool) (a b : List GRow) (r : List Int) : gsum p (a ++ b) r = gsum p a r + gsum p b r := by
  induction a with
  | nil => simp [gsum]
  | cons w a ih => simp only [List.cons_append, gsum, ih]; omega
theorem gsum_perm (p : Bool) {a b : List GRow} (h : a.Perm b) (r : List Int) : gsum p a r = gsum p b r := by
  induction h with
  | nil => rfl
  | cons x _ ih => simp only [gsum, ih]
  | swap x y l => simp only [gsum]; omega
  | trans _ _ h1 h2 => exact h1.trans h2
theorem gsum_none (p : Bool) {l : List GRow} {r : List Int} (h : ∀ w, w ∈ l → w.1 ≠ r) : gsum p l r = 0 := by
  induction l with
  | nil => rfl
  | cons w l ih =>
    simp only [gsum]
    rw [if_neg (h w (by simp)), ih fun x hx => h x (List.mem_cons_of_mem _ hx)]
    omega
def sortedG (l : List GRow) : Prop := l.Pairwise fun a b => ltR a.1 b.1
def nzG (l : List GRow) : Prop := ∀ w, w ∈ l → w.2 ≠ (0, 0)
theorem cmpt_none {n : Int × Int} (h : ∀ p, cmpt p n = 0) : n = (0, 0) := cmpt_ext fun p => by rw [h p, cmpt_zero]
theorem normG_uniq : ∀ {l l' : List GRow}, sortedG l → nzG l → sortedG l' → nzG l' → (∀ p r, gsum p l r = gsum p l' r) → l = l'
  | [], [], _, _, _, _, _ => rfl
  | [], w :: l', _, _, h3, h4, h => by
    obtain ⟨k1, _⟩ := List.pairwise_cons.1 h3
    refine absurd (cmpt_none fun p => ?_) (h4 w (by simp))
    have := h p w.1
    simp only [gsum, if_true] at this
    rw [gsum_none p fun x hx e => ltR_irrefl w.1 (by have := k1 x hx; rwa [e] at this)] at this
    omega
  | w :: l, [], h1, h2, _, _, h => by
    obtain ⟨k1, _⟩ := List.pairwise_cons.1 h1
    refine absurd (cmpt_none fun p => ?_) (h2 w (by simp))
    have := h p w.1
    simp only [gsum, if_true] at this
    rw [gsum_none p fun x hx e => ltR_irrefl w.1 (by have := k1 x hx; rwa [e] at this)] at this
    omega
  | w :: l, w' :: l', h1, h2, h3, h4, h => by
    obtain ⟨k1, k2⟩ := List.pairwise_cons.1 h1
    obtain ⟨k3, k4⟩ := List.pairwise_cons.1 h3
    have a1 : ∀ p, gsum p l w.1 = 0 := fun p => gsum_none p fun x hx e => ltR_irrefl w.1 (by have := k1 x hx; rwa [e] at this)
    have a2 : ∀ p, gsum p l' w'.1 = 0 := fun p => gsum_none p fun x hx e => ltR_irrefl w'.1 (by have := k3 x hx; rwa [e] at this)
    have e1 : w.1 = w'.1 := by
      rcases ltR_total w.1 w'.1 with g | g | g
      · have ne : ¬ w'.1 = w.1 := fun e => ltR_irrefl w.1 (by rwa [e] at g)
        refine absurd (cmpt_none fun p => ?_) (h2 w (by simp))
        have b := h p w.1
        have a3 : gsum p l' w.1 = 0 := gsum_none p fun x hx e => ltR_irrefl w.1 (by have := ltR_trans g (k3 x hx); rwa [e] at this)
        simp only [gsum, if_true, if_neg ne, a1, a3] at b
        omega
      · exact g
      · have ne : ¬ w.1 = w'.1 := fun e => ltR_irrefl w'.1 (by rwa [e] at g)
        refine absurd (cmpt_none fun p => ?_) (h4 w' (by simp))
        have b := h p w'.1
        have a3 : gsum p l w'.1 = 0 := gsum_none p fun x hx e => ltR_irrefl w'.1 (by have := ltR_trans g (k1 x hx); rwa [e] at this)
        simp only [gsum, if_true, if_neg ne, a2, a3] at b
        omega
    have e2 : w.2 = w'.2 := cmpt_ext fun p => by
      have b := h p w.1
      have a4 : gsum p l' w.1 = 0 := by rw [e1]; exact a2 p
      simp only [gsum, if_true, if_pos e1.symm, a1, a4] at b
      omega
    have e3 : w = w' := Prod.ext e1 e2
    subst e3
    have := normG_uniq k2 (fun x hx => h2 x (List.mem_cons_of_mem _ hx)) k4 (fun x hx => h4 x (List.mem_cons_of_mem _ hx)) fun p r => by
      have := h p r
      simp only [gsum] at this
      omega
    rw [this]
/-! ## Groups put in one by one -/
def oneG (r : List Int) (n : Int × Int) : List GRow := if n = (0, 0) then [] else [(r, n)]
theorem oneG_sum (p : Bool) (r : List Int) (n : Int × Int) (q : List Int) : gsum p (oneG r n) q = if r = q then cmpt p n else 0 := by
  simp only [oneG]
  by_cases h : n = (0, 0)
  · rw [if_pos h, h, cmpt_zero]; simp [gsum]
  · rw [if_neg h]; simp [gsum]
theorem oneG_mem {r : List Int} {n : Int × Int} {w : GRow} (h : w ∈ oneG r n) : w = (r, n) ∧ n ≠ (0, 0) := by
  simp only [oneG] at h
  split at h
  · cases h
  · exact ⟨by simpa using h, by assumption⟩
def putG : List GRow → List Int → Int × Int → List GRow
  | [], r, n => oneG r n
  | w :: l, r, n => if cmpL w.1 r < 0 then w :: putG l r n else if cmpL w.1 r = 0 then oneG r (addP n w.2) ++ l else oneG r n ++ w :: l
theorem putG_sum (p : Bool) (l : List GRow) (r : List Int) (n : Int × Int) (q : List Int) : gsum p (putG l r n) q = gsum p l q + if r = q then cmpt p n else 0 := by
  induction l with
  | nil => simp only [putG, oneG_sum, gsum]; omega
  | cons w l ih =>
    simp only [putG]
    split
    · simp only [gsum, ih]; omega
    · split
      · rename_i h
        have := cmpL_eq h
        rw [gsum_append, oneG_sum]
        simp only [gsum, this, cmpt_add]
        split <;> omega
      · rw [gsum_append, oneG_sum]
        omega
theorem putG_mem {l : List GRow} {r : List Int} {n : Int × Int} {w : GRow} (h : w ∈ putG l r n) : w ∈ l ∨ w.1 = r := by
  induction l with
  | nil => exact .inr (by rw [(oneG_mem h).1])
  | cons u l ih =>
    simp only [putG] at h
    split at h
    · rcases List.mem_cons.1 h with rfl | h
      · exact .inl (by simp)
      · exact (ih h).imp (fun h => List.mem_cons_of_mem _ h) id
    · split at h
      · rcases List.mem_append.1 h with h | h
        · exact .inr (by rw [(oneG_mem h).1])
        · exact .inl (List.mem_cons_of_mem _ h)
      · rcases List.mem_append.1 h with h | h
        · exact .inr (by rw [(oneG_mem h).1])
        · exact .inl h
theorem putG_len (l : List GRow) (r : List Int) (n : Int × Int) : (putG l r n).length ≤ l.length + 1 := by
  have ho : ∀ m : Int × Int, (oneG r m).length ≤ 1 := fun m => by simp only [oneG]; split <;> simp
  induction l with
  | nil => exact ho n
  | cons w l ih =>
    simp only [putG]
    split
    · simp only [List.length_cons]; omega
    · split
      · have := ho (addP n w.2)
        simp only [List.length_append, List.length_cons]; omega
      · have := ho n
        simp only [List.length_append, List.length_cons]; omega
theorem oneG_cons_sorted {r : List Int} {n : Int × Int} {l : List GRow} (h : sortedG l) (hr : ∀ w, w ∈ l → ltR r w.1) : sortedG (oneG r n ++ l) := by
  simp only [oneG]
  split
  · exact h
  · exact List.pairwise_cons.2 ⟨hr, h⟩
theorem oneG_nz {r : List Int} {n : Int × Int} {l : List GRow} (h : nzG l) : nzG (oneG r n ++ l) := by
  intro w hw
  rcases List.mem_append.1 hw with hw | hw
  · obtain ⟨rfl, h0⟩ := oneG_mem hw
    exact h0
  · exact h w hw
theorem putG_sorted {l : List GRow} {r : List Int} {n : Int × Int} (h : sortedG l) : sortedG (putG l r n) := by
  induction l with
  | nil => have := oneG_cons_sorted (r := r) (n := n) (l := []) .nil (by simp); simpa [putG] using this
  | cons w l ih =>
    obtain ⟨k1, k2⟩ := List.pairwise_cons.1 h
    simp only [putG]
    split
    · rename_i g
      exact List.pairwise_cons.2 ⟨fun x hx => (putG_mem hx).elim (k1 x) fun e => by rw [e]; exact g, ih k2⟩
    · split
      · rename_i g
        have e := cmpL_eq g
        exact oneG_cons_sorted k2 fun x hx => by rw [← e]; exact k1 x hx
      · rename_i g1 g2
        have g3 : ltR r w.1 := by
          rcases ltR_total w.1 r with g | g | g
          · exact absurd g g1
          · exact absurd (cmpL_zero.2 g) g2
          · exact g
        exact oneG_cons_sorted h fun x hx => by
          rcases List.mem_cons.1 hx with rfl | hx
          · exact g3
          · exact ltR_trans g3 (k1 x hx)
theorem putG_nz {l : List GRow} {r : List Int} {n : Int × Int} (h : nzG l) : nzG (putG l r n) := by
  induction l with
  | nil => have := oneG_nz (r := r) (n := n) (l := []) (fun _ h => by cases h); simpa [putG] using this
  | cons w l ih =>
    have hl : nzG l := fun x hx => h x (List.mem_cons_of_mem _ hx)
    simp only [putG]
    split
    · intro x hx
      rcases List.mem_cons.1 hx with rfl | hx
      · exact h x (by simp)
      · exact ih hl x hx
    · split
      · exact oneG_nz hl
      · exact oneG_nz h
def putsG (l b : List GRow) : List GRow := b.foldl (fun acc w => putG acc w.1 w.2) l
theorem putsG_ok : ∀ (b : List GRow) {l : List GRow}, sortedG l → nzG l → sortedG (putsG l b) ∧ nzG (putsG l b) ∧ (∀ p q, gsum p (putsG l b) q = gsum p l q + gsum p b q) ∧ (∀ w, w ∈ putsG l b → w ∈ l ∨ ∃ u, u ∈ b ∧ w.1 = u.1) ∧ (putsG l b).length ≤ l.length + b.length
  | [], l, h1, h2 => ⟨h1, h2, fun p q => by simp [putsG, gsum], fun w hw => .inl hw, by simp [putsG]⟩
  | u :: b, l, h1, h2 => by
    obtain ⟨k1, k2, k3, k4, k5⟩ := putsG_ok b (putG_sorted (r := u.1) (n := u.2) h1) (putG_nz h2)
    refine ⟨k1, k2, fun p q => ?_, fun w hw => ?_, ?_⟩
    · have := k3 p q
      rw [putG_sum] at this
      show gsum p (putsG (putG l u.1 u.2) b) q = _
      simp only [gsum]
      omega
    · rcases k4 w hw with h | ⟨x, hx, e⟩
      · rcases putG_mem h with h | h
        · exact .inl h
        · exact .inr ⟨u, by simp, h⟩
      · exact .inr ⟨x, List.mem_cons_of_mem _ hx, e⟩
    · have := putG_len l u.1 u.2
      show (putsG (putG l u.1 u.2) b).length ≤ _
      simp only [List.length_cons]
      omega
/-! ## Groups sorted and added up -/
def weakG (l : List GRow) : Prop := l.Pairwise fun a b => ¬ ltR b.1 a.1
def runG : List Int → Int × Int → List GRow → List GRow
  | r, s, [] => [(r, s)]
  | r, s, w :: l => if cmpL w.1 r = 0 then runG r (addP s w.2) l else (r, s) :: runG w.1 w.2 l
def nzB (w : GRow) : Bool := !(w.2.1 == 0 && w.2.2 == 0)
theorem nzB_iff {w : GRow} : nzB w = true ↔ w.2 ≠ (0, 0) := by
  obtain ⟨r, a, b⟩ := w
  simp only [nzB, Bool.not_eq_true', Bool.and_eq_false_iff, beq_eq_false_iff_ne, ne_eq, Prod.mk.injEq]
  constructor
  · rintro (h | h) ⟨h1, h2⟩ <;> contradiction
  · intro h
    by_cases h1 : a = 0
    · exact .inr fun h2 => h ⟨h1, h2⟩
    · exact .inl h1
def groupG : List GRow → List GRow
  | [] => []
  | w :: l => runG w.1 w.2 l
theorem runG_sum (p : Bool) : ∀ (l : List GRow) (r : List Int) (s : Int × Int) (q : List Int), gsum p (runG r s l) q = (if r = q then cmpt p s else 0) + gsum p l q
  | [], r, s, q => by simp only [runG, gsum]
  | w :: l, r, s, q => by
    simp only [runG]
    split
    · rename_i h
      rw [runG_sum p l]
      simp only [gsum, cmpL_eq h, cmpt_add]
      split <;> omega
    · simp only [gsum]
      rw [runG_sum p l]
theorem runG_mem : ∀ {l : List GRow} {r : List Int} {s : Int × Int} {w : GRow}, w ∈ runG r s l → w.1 = r ∨ ∃ u, u ∈ l ∧ w.1 = u.1
  | [], r, s, w, h => .inl (by simp only [runG, List.mem_singleton] at h; rw [h])
  | u :: l, r, s, w, h => by
    simp only [runG] at h
    split at h
    · exact (runG_mem h).imp id fun ⟨x, hx, e⟩ => ⟨x, List.mem_cons_of_mem _ hx, e⟩
    · rcases List.mem_cons.1 h with h | h
      · exact .inl (by rw [h])
      · rcases runG_mem h with h | ⟨x, hx, e⟩
        · exact .inr ⟨u, by simp, h⟩
        · exact .inr ⟨x, List.mem_cons_of_mem _ hx, e⟩
theorem runG_sorted : ∀ {l : List GRow} {r : List Int} {s : Int × Int}, weakG l → (∀ w, w ∈ l → ¬ ltR w.1 r) → sortedG (runG r s l)
  | [], r, s, _, _ => List.pairwise_singleton _ _
  | w :: l, r, s, h, hr => by
    obtain ⟨k1, k2⟩ := List.pairwise_cons.1 h
    simp only [runG]
    split
    · exact runG_sorted k2 fun x hx => hr x (List.mem_cons_of_mem _ hx)
    · rename_i g
      have g3 : ltR r w.1 := by
        rcases ltR_total r w.1 with g' | g' | g'
        · exact g'
        · exact absurd (cmpL_zero.2 g'.symm) g
        · exact absurd g' (hr w (by simp))
      refine List.pairwise_cons.2 ⟨fun x hx => ?_, runG_sorted k2 fun x hx => k1 x hx⟩
      rcases runG_mem hx with e | ⟨u, hu, e⟩
      · show ltR r x.1
        rw [e]; exact g3
      · show ltR r x.1
        rw [e]
        rcases ltR_total w.1 u.1 with g' | g' | g'
        · exact ltR_trans g3 g'
        · rw [← g']; exact g3
        · exact absurd g' (k1 u hu)
theorem gsum_filter (p : Bool) (q : List Int) : ∀ l : List GRow, gsum p (l.filter nzB) q = gsum p l q
  | [] => rfl
  | w :: l => by
    have ih := gsum_filter p q l
    cases h : nzB w with
    | true => rw [List.filter_cons_of_pos (by exact h)]; simp only [gsum, ih]
    | false =>
      rw [List.filter_cons_of_neg (by simp [h])]
      have h0 : w.2 = (0, 0) := Classical.byContradiction fun hn => by rw [nzB_iff.2 hn] at h; cases h
      simp only [gsum, ih, h0, cmpt_zero]
      split <;> omega
theorem groupG_ok {l : List GRow} (h : weakG l) : sortedG ((groupG l).filter nzB) ∧ nzG ((groupG l).filter nzB) ∧ ∀ p q, gsum p ((groupG l).filter nzB) q = gsum p l q := by
  refine ⟨?_, fun w hw => nzB_iff.1 (List.mem_filter.1 hw).2, fun p q => ?_⟩
  · cases l with
    | nil => exact .nil
    | cons w l =>
      obtain ⟨k1, k2⟩ := List.pairwise_cons.1 h
      exact (runG_sorted k2 k1).sublist List.filter_sublist
  · rw [gsum_filter]
    cases l with
    | nil => rfl
    | cons w l => rw [groupG, runG_sum]; rfl
def ltG (x y : GRow) : Bool := decide (cmpL x.1 y.1 < 0)
theorem ltG_ord : Ord ltG := ⟨fun x => by simp [ltG, cmpL_refl], fun x y w h1 h2 => by
  simp only [ltG, decide_eq_false_iff_not] at h1 h2 ⊢
  intro h
  rcases ltR_total x.1 y.1 with g | g | g
  · exact h2 (ltR_trans h g)
  · rw [g] at h; exact h2 h
  · exact h1 g⟩
theorem ltG_asym (x y : GRow) (h : ltG x y = true) : ltG y x = false := by
  simp only [ltG, decide_eq_true_eq, decide_eq_false_iff_not] at h ⊢
  exact ltR_asymm h
theorem weakG_of {d : List GRow} (h : SortS ([], 0, 0) ltG d 0 d.length) : weakG d := by
  refine List.pairwise_iff_getElem.2 fun i j hi hj hij => ?_
  have := h i j (Nat.zero_le _) hij hj
  rw [getD_of_lt hi, getD_of_lt hj] at this
  simpa [ltG, ltR] using this
theorem groupG_puts {a b d : List GRow} (hp : d.Perm (a ++ b)) (hs : SortS ([], 0, 0) ltG d 0 d.length) (h1 : sortedG a) (h2 : nzG a) : (groupG d).filter nzB = putsG a b := by
  obtain ⟨k1, k2, k3⟩ := groupG_ok (weakG_of hs)
  obtain ⟨g1, g2, g3, _⟩ := putsG_ok b h1 h2
  refine normG_uniq k1 k2 g1 g2 fun p r => ?_
  rw [k3, g3, gsum_perm p hp, gsum_append]
end GoV
