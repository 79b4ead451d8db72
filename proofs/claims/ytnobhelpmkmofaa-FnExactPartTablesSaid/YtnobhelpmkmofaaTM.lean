/- A part of the proof of FnExactPartTables: an interpreter of the model over plain data, its soundness, and what it makes of the functions that the statement reaches. Conditions: none beyond what the given statement itself says. -/
import Derived.Test.YtnobhelpmkmofaaTL
set_option linter.unusedVariables false
set_option linter.unusedSimpArgs false
set_option linter.unnecessarySimpa false
set_option linter.unusedSectionVars false
/- Sets of small numbers, told by the bits of a number. -/
namespace GoV
open Go

theorem ofInt_nat (m : Nat) : BitVec.ofInt 64 (m : Int) = BitVec.ofNat 64 m := by
  apply BitVec.eq_of_toNat_eq
  simp [BitVec.toNat_ofInt]
theorem bits64 : IntKind.i64.bits = 64 := rfl
theorem or_lt {m n : Nat} (hm : m < 4611686018427387904) (hn : n < 4611686018427387904) : m ||| n < 4611686018427387904 := Nat.or_lt_two_pow (n := 62) hm hn
theorem and_lt {m n : Nat} (hm : m < 4611686018427387904) : m &&& n < 4611686018427387904 := Nat.lt_of_le_of_lt Nat.and_le_left hm
theorem or_nat {m n : Nat} (hm : m < 4611686018427387904) (hn : n < 4611686018427387904) :
    IntKind.i64.wrap (((BitVec.ofInt IntKind.i64.bits (m : Int) ||| BitVec.ofInt IntKind.i64.bits (n : Int)).toNat : Nat) : Int) = ((m ||| n : Nat) : Int) := by
  have h := or_lt hm hn
  rw [bits64, ofInt_nat, ofInt_nat]
  rw [BitVec.toNat_or, BitVec.toNat_ofNat, BitVec.toNat_ofNat, Nat.mod_eq_of_lt (by omega), Nat.mod_eq_of_lt (by omega)]
  rw [wrap_id] <;> omega
theorem and_nat {m n : Nat} (hm : m < 4611686018427387904) (hn : n < 4611686018427387904) :
    IntKind.i64.wrap (((BitVec.ofInt IntKind.i64.bits (m : Int) &&& BitVec.ofInt IntKind.i64.bits (n : Int)).toNat : Nat) : Int) = ((m &&& n : Nat) : Int) := by
  have h := and_lt (n := n) hm
  rw [bits64, ofInt_nat, ofInt_nat]
  rw [BitVec.toNat_and, BitVec.toNat_ofNat, BitVec.toNat_ofNat, Nat.mod_eq_of_lt (by omega), Nat.mod_eq_of_lt (by omega)]
  rw [wrap_id] <;> omega
theorem pow_lt {k : Nat} (h : k < 62) : 2 ^ k < 4611686018427387904 := by
  have : (2 : Nat) ^ k ≤ 2 ^ 61 := Nat.pow_le_pow_right (by omega) (by omega)
  omega
/-- One shifted up. -/
theorem one_shl {k : Nat} (h : k < 62) : IntKind.i64.wrap ((1 : Int) * (2 : Int) ^ Min.min k IntKind.i64.bits) = ((2 ^ k : Nat) : Int) := by
  have := pow_lt h
  rw [bits64, Nat.min_eq_left (by omega), Int.one_mul]
  have e : (2 : Int) ^ k = ((2 ^ k : Nat) : Int) := by simp
  rw [e]
  generalize (2 : Nat) ^ k = z at this ⊢
  rw [wrap_id] <;> omega
theorem shr_nat (m k : Nat) (h : k ≤ 64) : ((m : Int)).fdiv ((2 : Int) ^ Min.min k IntKind.i64.bits) = ((m >>> k : Nat) : Int) := by
  rw [bits64, Nat.min_eq_left h, Nat.shiftRight_eq_div_pow]
  have e : (2 : Int) ^ k = ((2 ^ k : Nat) : Int) := by simp
  rw [e, Int.fdiv_eq_ediv_of_nonneg _ (Int.natCast_nonneg _)]
  rfl
/-- The set of some numbers, as bits. -/
def maskN (m : Nat) (l : List Int) : Nat := l.foldl (fun m x => m ||| 2 ^ x.toNat) m
theorem maskN_cons (m : Nat) (x : Int) (l : List Int) : maskN m (x :: l) = maskN (m ||| 2 ^ x.toNat) l := rfl
theorem maskN_lt : ∀ {l : List Int} {m : Nat}, m < 4611686018427387904 → (∀ x, x ∈ l → x.toNat < 62) → maskN m l < 4611686018427387904
  | [], _, h, _ => h
  | x :: l, m, h, hl => maskN_lt (l := l) (m := m ||| 2 ^ x.toNat) (or_lt h (pow_lt (hl x List.mem_cons_self))) fun y hy => hl y (List.mem_cons_of_mem _ hy)
theorem maskN_bit : ∀ (l : List Int) (m i : Nat), (maskN m l).testBit i = (m.testBit i || l.any fun x => decide (x.toNat = i))
  | [], m, i => by simp [maskN]
  | x :: l, m, i => by
    rw [maskN_cons, maskN_bit l, Nat.testBit_or, Nat.testBit_two_pow]
    simp [Bool.or_assoc]
/-- The numbers of a set, rising. -/
def bitsF (m i n : Nat) : List Int := ((List.range' i n).filter fun k => m.testBit k).map fun (k : Nat) => (k : Int)
theorem bitsF_step (m i n : Nat) : bitsF m i (n + 1) = if m.testBit i then (i : Int) :: bitsF m (i + 1) n else bitsF m (i + 1) n := by
  simp only [bitsF, List.range'_succ, List.filter_cons]
  split <;> simp
theorem bitsF_none {m i n : Nat} (h : m >>> i = 0) : bitsF m i n = [] := by
  have hz : ∀ k, i ≤ k → m.testBit k = false := by
    intro k hk
    have : (m >>> i).testBit (k - i) = m.testBit k := by rw [Nat.testBit_shiftRight]; congr 1; omega
    rw [← this, h]
    simp
  simp only [bitsF, List.map_eq_nil_iff, List.filter_eq_nil_iff]
  intro k hk
  rw [List.mem_range'_1] at hk
  rw [hz k hk.1]
  simp
/-- Rising: each number is above the last. -/
def risesB : Int → List Int → Bool
  | _, [] => true
  | a, x :: l => decide (a < x) && risesB x l
theorem risesB_gt : ∀ {l : List Int} {a : Int}, risesB a l = true → ∀ x, x ∈ l → a < x
  | y :: l, a, h, x, hx => by
    simp only [risesB, Bool.and_eq_true, decide_eq_true_eq] at h
    rcases List.mem_cons.1 hx with rfl | hx
    · exact h.1
    · have := risesB_gt h.2 x hx
      omega
/-- Rising numbers are the numbers of their set. -/
theorem bitsF_rises : ∀ (n i : Nat) (l : List Int) (m : Nat), risesB ((i : Int) - 1) l = true → (∀ x, x ∈ l → x < ((i + n : Nat) : Int)) → (∀ k, i ≤ k → k < i + n → (m.testBit k = true ↔ (k : Int) ∈ l)) → bitsF m i n = l
  | 0, i, l, m, hr, hlt, _ => by
    cases l with
    | nil => rfl
    | cons x l =>
      have h1 := hlt x List.mem_cons_self
      simp only [risesB, Bool.and_eq_true, decide_eq_true_eq] at hr
      omega
  | n + 1, i, l, m, hr, hlt, hb => by
    rw [bitsF_step]
    have hi := hb i (Nat.le_refl _) (by omega)
    cases l with
    | nil =>
      have : m.testBit i ≠ true := fun h => by simpa using hi.1 h
      rw [if_neg this]
      exact bitsF_rises n (i + 1) [] m rfl (fun x hx => by cases hx) fun k h1 h2 => hb k (by omega) (by omega)
    | cons x l =>
      simp only [risesB, Bool.and_eq_true, decide_eq_true_eq] at hr
      by_cases e : m.testBit i = true
      · rw [if_pos e]
        have hx : x = (i : Int) := by
          rcases List.mem_cons.1 (hi.1 e) with h | h
          · exact h.symm
          · have := risesB_gt hr.2 _ h
            omega
        subst hx
        congr 1
        refine bitsF_rises n (i + 1) l m ?_ (fun x hx => by have := hlt x (List.mem_cons_of_mem _ hx); omega) fun k h1 h2 => ?_
        · have : (((i + 1 : Nat) : Int) - 1) = (i : Int) := by omega
          rw [this]; exact hr.2
        · rw [hb k (by omega) (by omega), List.mem_cons]
          constructor
          · rintro (h | h)
            · omega
            · exact h
          · exact .inr
      · rw [if_neg e]
        have hx : (i : Int) < x := by
          rcases Int.lt_or_le (i : Int) x with h | h
          · exact h
          · have : x = (i : Int) := by omega
            exact absurd (hi.2 (by rw [this]; exact List.mem_cons_self)) e
        refine bitsF_rises n (i + 1) (x :: l) m ?_ (fun y hy => by have := hlt y hy; omega) fun k h1 h2 => hb k (by omega) (by omega)
        simp only [risesB, Bool.and_eq_true, decide_eq_true_eq]
        exact ⟨by omega, hr.2⟩
theorem bitsF_mask {l : List Int} (hr : risesB (-1) l = true) (hlt : ∀ x, x ∈ l → x < 62) : bitsF (maskN 0 l) 0 62 = l := by
  refine bitsF_rises 62 0 l _ hr (fun x hx => by have := hlt x hx; omega) fun k _ hk => ?_
  rw [maskN_bit]
  simp only [Nat.zero_testBit, Bool.false_or, List.any_eq_true, decide_eq_true_eq]
  constructor
  · rintro ⟨x, hx, rfl⟩
    have := risesB_gt hr x hx
    rwa [Int.toNat_of_nonneg (by omega)]
  · intro h
    exact ⟨_, h, by simp⟩

theorem bitsF_mem {m i n : Nat} {x : Int} : x ∈ bitsF m i n ↔ ∃ k : Nat, x = (k : Int) ∧ i ≤ k ∧ k < i + n ∧ m.testBit k = true := by
  simp only [bitsF, List.mem_map, List.mem_filter, List.mem_range'_1]
  constructor
  · rintro ⟨k, ⟨⟨h1, h2⟩, h3⟩, rfl⟩
    exact ⟨k, rfl, h1, h2, h3⟩
  · rintro ⟨k, rfl, h1, h2, h3⟩
    exact ⟨k, ⟨⟨h1, h2⟩, h3⟩, rfl⟩
theorem bitsF_congr {m m' i n : Nat} (h : ∀ k, i ≤ k → k < i + n → m.testBit k = m'.testBit k) : bitsF m i n = bitsF m' i n := by
  simp only [bitsF]
  congr 1
  refine List.filter_congr fun k hk => ?_
  rw [List.mem_range'_1] at hk
  exact h k hk.1 hk.2
theorem bitsF_len (m i n : Nat) : (bitsF m i n).length ≤ n := by
  simp only [bitsF, List.length_map]
  refine Nat.le_trans (List.length_filter_le _ _) ?_
  simp
/-- A number put to its place. -/
def putS (n : Int) (l : List Int) : List Int := l.takeWhile (fun x => decide (x < n)) ++ [n] ++ l.dropWhile (fun x => decide (x < n))
theorem putS_bits : ∀ (n i m x : Nat), i ≤ x → x < i + n → m.testBit x = false → putS (x : Int) (bitsF m i n) = bitsF (m ||| 2 ^ x) i n
  | 0, i, m, x, h1, h2, _ => by omega
  | n + 1, i, m, x, h1, h2, hb => by
    by_cases e : i = x
    · subst e
      have hab : ∀ y, y ∈ bitsF m (i + 1) n → ¬ y < (i : Int) := by
        intro y hy
        obtain ⟨k, rfl, g1, _⟩ := bitsF_mem.1 hy
        omega
      have hl : bitsF m i (n + 1) = bitsF m (i + 1) n := by rw [bitsF_step, if_neg (by simp [hb])]
      have hr : bitsF (m ||| 2 ^ i) i (n + 1) = (i : Int) :: bitsF m (i + 1) n := by
        rw [bitsF_step, if_pos (by simp [Nat.testBit_or])]
        congr 1
        refine bitsF_congr fun k hk _ => ?_
        rw [Nat.testBit_or, Nat.testBit_two_pow]
        have : ¬ i = k := by omega
        simp [this]
      rw [hl, hr]
      have ht : (bitsF m (i + 1) n).takeWhile (fun y => decide (y < (i : Int))) = [] ∧ (bitsF m (i + 1) n).dropWhile (fun y => decide (y < (i : Int))) = bitsF m (i + 1) n := by
        generalize bitsF m (i + 1) n = l at hab
        cases l with
        | nil => exact ⟨rfl, rfl⟩
        | cons y l =>
          have := hab y List.mem_cons_self
          simp only [List.takeWhile_cons, List.dropWhile_cons, dec_f this]
          exact ⟨rfl, rfl⟩
      simp only [putS, ht.1, ht.2]
      rfl
    · have ih := putS_bits n (i + 1) m x (by omega) (by omega) hb
      have hbi : (m ||| 2 ^ x).testBit i = m.testBit i := by
        rw [Nat.testBit_or, Nat.testBit_two_pow]
        have : ¬ x = i := by omega
        simp [this]
      rw [bitsF_step, bitsF_step, hbi]
      split
      · rw [← ih]
        have : (i : Int) < (x : Int) := by omega
        simp only [putS, List.takeWhile_cons, List.dropWhile_cons, dec_t this]
        rfl
      · exact ih
theorem or_same {m x : Nat} (h : m.testBit x = true) : m ||| 2 ^ x = m := by
  apply Nat.eq_of_testBit_eq
  intro i
  rw [Nat.testBit_or, Nat.testBit_two_pow]
  by_cases e : x = i
  · subst e; simp [h]
  · simp [e]
end GoV
