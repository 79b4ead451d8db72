/- A part of the proof of FnExactCostOf: an interpreter of the model over plain data, its soundness, and what it makes of the functions that the statement reaches. Conditions: none beyond what the given statement itself says. -/
import Derived.Test.YtcilpkgidhkfjaaTL
set_option linter.unusedVariables false
set_option linter.unusedSimpArgs false
set_option linter.unnecessarySimpa false
set_option linter.unusedSectionVars false
/- Rising numbers; sets as bits. -/
namespace GoV
open Go
theorem ix_pos (i : Nat) : decide ((i : Int) > (0 : Int)) = decide (0 < i) := by
  by_cases h : 0 < i <;> simp [h] <;> omega
/-- One of the places of rising numbers below n. -/
def placeB (n : Int) (l : List Int) (k : Nat) : Bool := (decide (0 ≤ l.getD k 0) && decide (l.getD k 0 < n)) && (decide (k = 0) || decide (l.getD (k - 1) 0 < l.getD k 0))
def someB (n : Int) (l : List Int) : Bool := allR (placeB n l) 0 l.length
theorem some_rises {n : Int} {l : List Int} (h : someB n l = true) : risesB (-1) l = true ∧ ∀ x, x ∈ l → 0 ≤ x ∧ x < n := by
  simp only [someB, allR_iff, placeB, Bool.and_eq_true, Bool.or_eq_true, decide_eq_true_eq] at h
  have key : ∀ (r pre : List Int), l = pre ++ r → risesB (if pre = [] then -1 else pre.getLastD 0) r = true := by
    intro r
    induction r with
    | nil => intro pre _; rfl
    | cons x r ih =>
      intro pre hl
      have hk := h pre.length (Nat.zero_le _) (by rw [hl]; simp)
      have hx : l.getD pre.length 0 = x := by rw [hl]; exact getD_mid pre r x 0
      rw [hx] at hk
      have ih' := ih (pre ++ [x]) (by rw [hl]; simp)
      simp only [risesB, Bool.and_eq_true, decide_eq_true_eq]
      refine ⟨?_, by simpa using ih'⟩
      cases pre with
      | nil => simp; omega
      | cons y pre =>
        simp only [List.cons_ne_nil, if_false]
        have h2 : l.getD ((y :: pre).length - 1) 0 = (y :: pre).getLastD 0 := by
          rw [hl]
          simp only [List.getLastD_eq_getLast?, List.getLast?_eq_getElem?, List.getD]
          rw [List.getElem?_append_left (by simp)]
        rw [h2] at hk
        rcases hk.2 with h3 | h3
        · simp at h3
        · exact h3
  refine ⟨by simpa using key l [] rfl, fun x hx => ?_⟩
  obtain ⟨i, hi, rfl⟩ := List.mem_iff_getElem.1 hx
  have := (h i (Nat.zero_le _) hi).1
  rwa [getD_of_lt hi] at this
theorem impl_setOf_eq (l : List Int) (hl : l.length ≤ 1073741824) (hr : ∀ x, x ∈ l → 0 ≤ x ∧ x < 62) : impl_setOf l = some ((maskN 0 l : Nat) : Int) := by
  have key : ∀ i, i ≤ l.length → ∀ m : Nat, m < 4611686018427387904 → impl_setOf.l3 (m : Int) l (l.length : Int) (i : Int) = some ((maskN m (l.drop i) : Nat) : Int) := by
    refine upto ?_ ?_
    · intro m _
      exact impl_setOf.eq3 _ _ _ _ (by simp only [impl_setOf.t3, ix_lt, Nat.lt_irrefl, decide_false, cond_false, List.drop_length]; rfl)
    · intro i hi ih m hm
      have hx := hr _ (getD_mem 0 hi)
      obtain ⟨x, hx'⟩ : ∃ x : Nat, l.getD i 0 = (x : Int) := ⟨(l.getD i 0).toNat, by omega⟩
      have hlt : x < 62 := by omega
      have g := ih (m ||| 2 ^ x) (or_lt hm (pow_lt hlt))
      refine impl_setOf.eq3 _ _ _ _ ?_
      rw [drop_getD 0 hi, maskN_cons]
      simp only [impl_setOf.t3, ix_lt, ix_nn, ix_nat, dec_t hi, cond_true, hx', one_shl hlt, or_nat hm (pow_lt hlt), wrap_succ (show i < 9223372036854775807 by omega)]
      exact g
  exact impl_setOf.eq l (by simp only [impl_setOf.t]; exact key 0 (Nat.zero_le _) 0 (by omega))
theorem impl_set_list_eq (m : Nat) (hm : m < 4611686018427387904) : impl_set_list (m : Int) = some (bitsF m 0 62) := by
  have key : ∀ i, i ≤ 62 → ∀ acc : List Int, acc.length + 62 ≤ 1073741824 + i → impl_set_list.l3 (m : Int) acc (i : Int) = some (acc ++ bitsF m i (62 - i)) := by
    refine upto ?_ ?_
    · intro acc _
      refine impl_set_list.eq3 _ _ _ ?_
      have e : m >>> 62 = 0 := by rw [Nat.shiftRight_eq_div_pow]; omega
      simp only [impl_set_list.t3, ix_nn, ix_nat, cond_true, shr_nat m 62 (by omega), e]
      simp [bitsF]
    · intro i hi ih acc hacc
      refine impl_set_list.eq3 _ _ _ ?_
      simp only [impl_set_list.t3, ix_nn, ix_nat, cond_true, shr_nat m i (show i ≤ 64 by omega)]
      by_cases h0 : m >>> i = 0
      · rw [h0, bitsF_none h0]
        simp
      · have e1 : (((m >>> i : Nat) : Int) != (0 : Int)) = true := by
          have : ((m >>> i : Nat) : Int) ≠ 0 := by omega
          simpa using this
        have hs : m >>> i < 4611686018427387904 := Nat.lt_of_le_of_lt (by rw [Nat.shiftRight_eq_div_pow]; exact Nat.div_le_self _ _) hm
        have e2 := and_nat (m := m >>> i) (n := 1) hs (by omega)
        have e3 : (m >>> i &&& 1) = if m.testBit i then 1 else 0 := by
          rw [Nat.and_one_is_mod, Nat.testBit, Nat.one_and_eq_mod_two]
          rcases Nat.mod_two_eq_zero_or_one (m >>> i) with h | h <;> simp [h]
        rw [e3] at e2
        have e4 : ((1 : Nat) : Int) = (1 : Int) := rfl
        rw [e4] at e2
        have e5 : 62 - i = (62 - (i + 1)) + 1 := by omega
        rw [e5, bitsF_step]
        simp only [e1, cond_true, e2, wrap_succ (show i < 9223372036854775807 by omega)]
        cases hb : m.testBit i with
        | true =>
          have hlen : acc.length + [((i : Nat) : Int)].length ≤ 4294967296 := by simp only [List.length_cons, List.length_nil]; omega
          have g := ih (acc ++ [(i : Int)]) (by simp only [List.length_append, List.length_cons, List.length_nil]; omega)
          simp only [if_true, dec_t hlen, cond_true]
          rw [g]
          simp
        | false =>
          have g := ih acc (by omega)
          simp only [Bool.false_eq_true, if_false]
          rw [g]
          simp
  refine impl_set_list.eq _ ?_
  simp only [impl_set_list.t]
  have g := key 0 (Nat.zero_le _) [] (by simp)
  simpa using g
/-- The numbers of the set of rising numbers are they. -/
theorem set_list_rises {n : Int} {l : List Int} (h : someB n l = true) (hn : n ≤ 62) : impl_set_list ((maskN 0 l : Nat) : Int) = some l := by
  obtain ⟨h1, h2⟩ := some_rises h
  rw [impl_set_list_eq _ (maskN_lt (by omega) fun x hx => by have := h2 x hx; omega), bitsF_mask h1 fun x hx => by have := h2 x hx; omega]
end GoV

/- How great a join is: the program's reckoning is the specification's. -/
namespace GoV
open Go
theorem rises_mid : ∀ {pre r : List Int} {a k : Int}, risesB a (pre ++ k :: r) = true → (∀ x, x ∈ pre → x < k) ∧ (∀ x, x ∈ r → k < x)
  | [], r, a, k, h => by
    simp only [List.nil_append, risesB, Bool.and_eq_true] at h
    exact ⟨fun x hx => (by cases hx), fun x hx => risesB_gt h.2 x hx⟩
  | y :: pre, r, a, k, h => by
    simp only [List.cons_append, risesB, Bool.and_eq_true] at h
    obtain ⟨h1, h2⟩ := rises_mid h.2
    refine ⟨fun x hx => ?_, h2⟩
    rcases List.mem_cons.1 hx with rfl | hx
    · exact risesB_gt h.2 k (by simp)
    · exact h1 x hx
theorem rises_len : ∀ {l : List Int} {a n : Int}, risesB a l = true → (∀ x, x ∈ l → x < n) → l = [] ∨ a + (l.length : Int) < n
  | [], _, _, _, _ => .inl rfl
  | x :: l, a, n, h, hn => by
    right
    simp only [risesB, Bool.and_eq_true, decide_eq_true_eq] at h
    have h1 := hn x List.mem_cons_self
    rcases rises_len h.2 (fun y hy => hn y (List.mem_cons_of_mem _ hy)) with rfl | h2
    · simp; omega
    · simp only [List.length_cons]; omega
def foldD (F : List Int) (l : List Int) (dn : Int) : Int := l.foldl (fun d o => IntKind.i64.wrap (d * F.getD o.toNat 0)) dn
theorem foldD_cons (F : List Int) (o : Int) (l : List Int) (dn : Int) : foldD F (o :: l) dn = foldD F l (IntKind.i64.wrap (dn * F.getD o.toNat 0)) := rfl
def sizeP (S : List Int) (Fs : List (List Int)) : List Int → List Int → Int → Int → Int
  | _, [], up, dn => IntKind.i64.wrap (up.tdiv dn)
  | pre, k :: r, up, dn => sizeP S Fs (pre ++ [k]) r (IntKind.i64.wrap (up * S.getD k.toNat 0)) (foldD (Fs.getD k.toNat []) pre dn)
def tri : Nat → Nat
  | 0 => 0
  | n + 1 => tri n + n
theorem foldD_bound {F : List Int} : ∀ {l : List Int} {dn : Int} {e : Nat}, (∀ o, o ∈ l → 1 ≤ F.getD o.toNat 0 ∧ F.getD o.toNat 0 ≤ 10) → 1 ≤ dn → dn ≤ ((10 ^ e : Nat) : Int) → e + l.length ≤ 15 →
    1 ≤ foldD F l dn ∧ foldD F l dn ≤ ((10 ^ (e + l.length) : Nat) : Int)
  | [], dn, e, _, h1, h2, _ => ⟨h1, h2⟩
  | o :: l, dn, e, hF, h1, h2, hl => by
    have ho := hF o List.mem_cons_self
    simp only [List.length_cons] at hl
    have hp : ((10 ^ (e + 1) : Nat) : Int) = ((10 ^ e : Nat) : Int) * 10 := by rw [Nat.pow_succ]; simp
    have hle : (10 : Nat) ^ (e + 1) ≤ 10 ^ 15 := Nat.pow_le_pow_right (by omega) (by omega)
    have hle' : ((10 ^ (e + 1) : Nat) : Int) ≤ ((10 ^ 15 : Nat) : Int) := by exact_mod_cast hle
    have hm : dn * F.getD o.toNat 0 ≤ ((10 ^ (e + 1) : Nat) : Int) := by
      rw [hp]
      exact Int.mul_le_mul h2 ho.2 (by omega) (by omega)
    have hm1 : 1 ≤ dn * F.getD o.toNat 0 := by
      have := Int.mul_le_mul h1 ho.1 (by omega) (by omega : (0 : Int) ≤ dn)
      omega
    have hw : IntKind.i64.wrap (dn * F.getD o.toNat 0) = dn * F.getD o.toNat 0 := wrap_id (by omega) (by
      have : ((10 ^ 15 : Nat) : Int) = 1000000000000000 := by decide
      omega)
    rw [foldD_cons, hw]
    have := foldD_bound (l := l) (e := e + 1) (fun x hx => hF x (List.mem_cons_of_mem _ hx)) hm1 hm (by omega)
    rw [List.length_cons, show e + (l.length + 1) = e + 1 + l.length by omega]
    exact this
/-- What is asked of statistics and of rising numbers of tables. -/
structure SzOK (S : List Int) (Fs : List (List Int)) (l : List Int) : Prop where
  n6 : S.length ≤ 6
  fl : Fs.length = S.length
  ff : ∀ i, i < S.length → (Fs.getD i []).length = i ∧ ∀ x, x ∈ Fs.getD i [] → 1 ≤ x ∧ x ≤ 10
  up : risesB (-1) l = true
  lt : ∀ x, x ∈ l → 0 ≤ x ∧ x < (S.length : Int)
section
variable {S : List Int} {Fs : List (List Int)} {l : List Int}
theorem SzOK.len (h : SzOK S Fs l) : l.length ≤ 6 := by
  have := h.n6
  rcases rises_len h.up (fun x hx => (h.lt x hx).2) with rfl | h2
  · simp
  · omega
theorem SzOK.mid (h : SzOK S Fs l) {pre r : List Int} {k : Int} (hl : l = pre ++ k :: r) : (0 ≤ k ∧ k.toNat < S.length ∧ k.toNat < Fs.length) ∧ (∀ o, o ∈ pre → 0 ≤ o ∧ o.toNat < (Fs.getD k.toNat []).length ∧ o < k ∧ 1 ≤ (Fs.getD k.toNat []).getD o.toNat 0 ∧ (Fs.getD k.toNat []).getD o.toNat 0 ≤ 10) ∧ ∀ o, o ∈ r → k < o := by
  have hk := h.lt k (by rw [hl]; simp)
  have hf := h.fl
  have hm := rises_mid (by have := h.up; rw [hl] at this; exact this)
  refine ⟨by omega, fun o ho => ?_, hm.2⟩
  have h1 := h.lt o (by rw [hl]; simp [ho])
  have h2 := hm.1 o ho
  have hlt : o.toNat < (Fs.getD k.toNat []).length := by rw [(h.ff k.toNat (by omega)).1]; omega
  exact ⟨h1.1, hlt, h2, (h.ff k.toNat (by omega)).2 _ (getD_mem 0 hlt)⟩
theorem spec_l12Size_eq (h : SzOK S Fs l) : spec_l12Size S Fs l = some (sizeP S Fs [] l 1 1) := by
  have h6 := h.len
  have key : ∀ (rest pre : List Int) (up dn : Int), l = pre ++ rest → 1 ≤ dn → dn ≤ ((10 ^ (tri pre.length) : Nat) : Int) → spec_l12Size.l4 l S Fs up dn l (l.length : Int) (pre.length : Int) = some (sizeP S Fs pre rest up dn) := by
    intro rest
    induction rest with
    | nil =>
      intro pre up dn hl h1 _
      have e : pre.length = l.length := by rw [hl]; simp
      have h0 : dn ≠ 0 := by omega
      refine spec_l12Size.eq4 _ _ _ _ _ _ _ _ ?_
      simp only [spec_l12Size.t4, e, ix_lt, Nat.lt_irrefl, decide_false, cond_false, dec_t h0, cond_true, sizeP]
    | cons k r ih =>
      intro pre up dn hl h1 h2
      obtain ⟨⟨hk0, hk1, hk2⟩, hpre, _⟩ := h.mid hl
      have hi : pre.length < l.length := by rw [hl]; simp
      have hle : pre.length ≤ l.length := by omega
      have hp5 : pre.length ≤ 5 := by omega
      have hg : l.getD pre.length 0 = k := by rw [hl]; exact getD_mid pre r k 0
      have ht : l.take pre.length = pre := by rw [hl]; simp
      have htri : tri pre.length + pre.length ≤ 15 := by
        have : pre.length = 0 ∨ pre.length = 1 ∨ pre.length = 2 ∨ pre.length = 3 ∨ pre.length = 4 ∨ pre.length = 5 := by omega
        rcases this with e | e | e | e | e | e <;> rw [e] <;> decide
      have hb := foldD_bound (F := Fs.getD k.toNat []) (l := pre) (fun o ho => (hpre o ho).2.2.2) h1 h2 htri
      have g := ih (pre ++ [k]) (IntKind.i64.wrap (up * S.getD k.toNat 0)) (foldD (Fs.getD k.toNat []) pre dn) (by rw [hl]; simp) hb.1 (by rw [List.length_append, List.length_singleton]; exact hb.2)
      have inner : ∀ j, j ≤ pre.length → ∀ d : Int, foldD (Fs.getD k.toNat []) (pre.drop j) d = foldD (Fs.getD k.toNat []) pre dn →
          spec_l12Size.l8 l S Fs (IntKind.i64.wrap (up * S.getD k.toNat 0)) d k l (l.length : Int) (pre.length : Int) pre (pre.length : Int) (j : Int) = some (sizeP S Fs pre (k :: r) up dn) := by
        refine upto ?_ ?_
        · intro d hd
          rw [List.drop_length] at hd
          have hd' : d = foldD (Fs.getD k.toNat []) pre dn := hd
          refine spec_l12Size.eq8 _ _ _ _ _ _ _ _ _ _ _ _ ?_
          simp only [spec_l12Size.t8, ix_lt, Nat.lt_irrefl, decide_false, cond_false, wrap_succ (show pre.length < 9223372036854775807 by omega), hd', sizeP]
          rw [List.length_append, List.length_singleton] at g
          exact g
        · intro j hj ihj d hd
          obtain ⟨ho0, ho1, _⟩ := hpre _ (getD_mem 0 hj)
          have g2 := ihj (IntKind.i64.wrap (d * (Fs.getD k.toNat []).getD (pre.getD j 0).toNat 0)) (by rw [drop_getD 0 hj, foldD_cons] at hd; exact hd)
          refine spec_l12Size.eq8 _ _ _ _ _ _ _ _ _ _ _ _ ?_
          simp only [spec_l12Size.t8, ix_lt, ix_nn, ix_nat, dec_t hj, dec_t hk0, dec_t hk2, dec_t ho0, dec_t ho1, cond_true, wrap_succ (show j < 9223372036854775807 by omega)]
          exact g2
      refine spec_l12Size.eq4 _ _ _ _ _ _ _ _ ?_
      have hcast : decide ((pre.length : Int) ≤ (l.length : Int)) = true := by simpa using hle
      simp only [spec_l12Size.t4, ix_lt, ix_nn, ix_nat, dec_t hi, hg, dec_t hk0, dec_t hk1, cond_true, Option.getD_none, hcast, Int.sub_zero, Int.toNat_zero, List.drop_zero, ht]
      exact inner 0 (Nat.zero_le _) dn (by simp)
  refine spec_l12Size.eq S Fs l ?_
  simp only [spec_l12Size.t]
  exact key l [] 1 1 rfl (by omega) (by decide)
def foldC (F : List Int) (k : Int) (l : List Int) (dn : Int) : Int := l.foldl (fun d o => if o < k then IntKind.i64.wrap (d * F.getD o.toNat 0) else d) dn
theorem foldC_cons (F : List Int) (k o : Int) (l : List Int) (dn : Int) : foldC F k (o :: l) dn = foldC F k l (if o < k then IntKind.i64.wrap (dn * F.getD o.toNat 0) else dn) := rfl
theorem foldC_lt (F : List Int) (k : Int) : ∀ (l : List Int) (dn : Int), (∀ o, o ∈ l → o < k) → foldC F k l dn = foldD F l dn
  | [], _, _ => rfl
  | o :: l, dn, h => by rw [foldC_cons, foldD_cons, if_pos (h o List.mem_cons_self)]; exact foldC_lt F k l _ fun x hx => h x (List.mem_cons_of_mem _ hx)
theorem foldC_ge (F : List Int) (k : Int) : ∀ (l : List Int) (dn : Int), (∀ o, o ∈ l → ¬ o < k) → foldC F k l dn = dn
  | [], _, _ => rfl
  | o :: l, dn, h => by rw [foldC_cons, if_neg (h o List.mem_cons_self)]; exact foldC_ge F k l _ fun x hx => h x (List.mem_cons_of_mem _ hx)
theorem foldC_append (F : List Int) (k : Int) (l l' : List Int) (dn : Int) : foldC F k (l ++ l') dn = foldC F k l' (foldC F k l dn) := by simp [foldC]
theorem impl_Stats_size_eq (h : SzOK S Fs l) {m : Int} (hm : impl_set_list m = some l) : impl_Stats_size S Fs m = some (sizeP S Fs [] l 1 1) := by
  have h6 := h.len
  have key : ∀ (rest pre : List Int) (up dn : Int), l = pre ++ rest → 1 ≤ dn → dn ≤ ((10 ^ (tri pre.length) : Nat) : Int) → impl_Stats_size.l3 m S Fs up dn l (l.length : Int) (pre.length : Int) = some (sizeP S Fs pre rest up dn) := by
    intro rest
    induction rest with
    | nil =>
      intro pre up dn hl h1 _
      have e : pre.length = l.length := by rw [hl]; simp
      have h0 : dn ≠ 0 := by omega
      refine impl_Stats_size.eq3 _ _ _ _ _ _ _ _ ?_
      simp only [impl_Stats_size.t3, e, ix_lt, Nat.lt_irrefl, decide_false, cond_false, dec_t h0, cond_true, sizeP]
    | cons k r ih =>
      intro pre up dn hl h1 h2
      obtain ⟨⟨hk0, hk1, hk2⟩, hpre, hr⟩ := h.mid hl
      have hi : pre.length < l.length := by rw [hl]; simp
      have hg : l.getD pre.length 0 = k := by rw [hl]; exact getD_mid pre r k 0
      have hp5 : pre.length ≤ 5 := by omega
      have htri : tri pre.length + pre.length ≤ 15 := by
        have : pre.length = 0 ∨ pre.length = 1 ∨ pre.length = 2 ∨ pre.length = 3 ∨ pre.length = 4 ∨ pre.length = 5 := by omega
        rcases this with e | e | e | e | e | e <;> rw [e] <;> decide
      have hb := foldD_bound (F := Fs.getD k.toNat []) (l := pre) (fun o ho => (hpre o ho).2.2.2) h1 h2 htri
      have hC : foldC (Fs.getD k.toNat []) k l dn = foldD (Fs.getD k.toNat []) pre dn := by
        rw [hl, foldC_append, foldC_lt _ _ pre _ fun o ho => (hpre o ho).2.2.1, foldC_ge]
        intro o ho
        rcases List.mem_cons.1 ho with rfl | ho
        · omega
        · have := hr o ho; omega
      have g := ih (pre ++ [k]) (IntKind.i64.wrap (up * S.getD k.toNat 0)) (foldD (Fs.getD k.toNat []) pre dn) (by rw [hl]; simp) hb.1 (by rw [List.length_append, List.length_singleton]; exact hb.2)
      have inner : ∀ j, j ≤ l.length → ∀ d : Int, foldC (Fs.getD k.toNat []) k (l.drop j) d = foldD (Fs.getD k.toNat []) pre dn →
          impl_Stats_size.l7 m S Fs (IntKind.i64.wrap (up * S.getD k.toNat 0)) d k l (l.length : Int) (pre.length : Int) l (l.length : Int) (j : Int) = some (sizeP S Fs pre (k :: r) up dn) := by
        refine upto ?_ ?_
        · intro d hd
          rw [List.drop_length] at hd
          have hd' : d = foldD (Fs.getD k.toNat []) pre dn := hd
          refine impl_Stats_size.eq7 _ _ _ _ _ _ _ _ _ _ _ _ ?_
          simp only [impl_Stats_size.t7, ix_lt, Nat.lt_irrefl, decide_false, cond_false, wrap_succ (show pre.length < 9223372036854775807 by omega), hd', sizeP]
          rw [List.length_append, List.length_singleton] at g
          exact g
        · intro j hj ihj d hd
          rw [drop_getD 0 hj, foldC_cons] at hd
          have g2 := ihj _ hd
          refine impl_Stats_size.eq7 _ _ _ _ _ _ _ _ _ _ _ _ ?_
          by_cases hlt : l.getD j 0 < k
          · have hmem : l.getD j 0 ∈ pre := by
              have := getD_mem 0 hj
              rw [hl] at this
              rcases List.mem_append.1 this with h' | h'
              · rw [hl]; exact h'
              · rw [← hl] at h'
                rcases List.mem_cons.1 h' with h' | h'
                · omega
                · have := hr _ h'; omega
            obtain ⟨ho0, ho1, _⟩ := hpre _ hmem
            rw [if_pos hlt] at g2
            simp only [impl_Stats_size.t7, ix_lt, ix_nn, ix_nat, dec_t hj, dec_t hlt, dec_t hk0, dec_t hk2, dec_t ho0, dec_t ho1, cond_true, wrap_succ (show j < 9223372036854775807 by omega)]
            exact g2
          · rw [if_neg hlt] at g2
            simp only [impl_Stats_size.t7, ix_lt, ix_nn, ix_nat, dec_t hj, dec_f hlt, cond_true, cond_false, wrap_succ (show j < 9223372036854775807 by omega)]
            exact g2
      refine impl_Stats_size.eq3 _ _ _ _ _ _ _ _ ?_
      simp only [impl_Stats_size.t3, ix_lt, ix_nn, ix_nat, dec_t hi, hg, dec_t hk0, dec_t hk1, cond_true, hm, Option.bind_some]
      exact inner 0 (Nat.zero_le _) dn (by rw [List.drop_zero]; exact hC)
  refine impl_Stats_size.eq S Fs m ?_
  simp only [impl_Stats_size.t, hm, Option.bind_some]
  exact key l [] 1 1 rfl (by omega) (by decide)
end
end GoV

/- Sets as rising lists: numbers put to their place. -/
namespace GoV
open Go
theorem spec_l1Has_eq (l : List Int) (n : Int) (hl : l.length ≤ 1073741824) : spec_l1Has l n = some (l.any fun x => x == n) := by
  have key : ∀ i, i ≤ l.length → spec_l1Has.l2 n l (l.length : Int) (i : Int) = some ((l.drop i).any fun x => x == n) := by
    refine upto ?_ ?_
    · exact spec_l1Has.eq2 _ _ _ _ (by simp only [spec_l1Has.t2, ix_lt, Nat.lt_irrefl, decide_false, cond_false, List.drop_length, List.any_nil])
    · intro i hi ih
      refine spec_l1Has.eq2 _ _ _ _ ?_
      rw [drop_getD 0 hi, List.any_cons]
      simp only [spec_l1Has.t2, ix_lt, ix_nn, ix_nat, dec_t hi, cond_true, wrap_succ (show i < 9223372036854775807 by omega), ih]
      cases (l.getD i 0 == n) <;> rfl
  exact spec_l1Has.eq l n (by simp only [spec_l1Has.t]; exact key 0 (Nat.zero_le _))
theorem spec_l7Put_eq (l : List Int) (n : Int) (hl : l.length ≤ 1073741824) : spec_l7Put l n = some (bif l.any (fun x => x == n) then l else putS n l) := by
  have key : ∀ k, k ≤ l.length → spec_l7Put.l4 l n (k : Int) = some (l.take k ++ (l.drop k).takeWhile (fun x => decide (x < n)) ++ [n] ++ (l.drop k).dropWhile (fun x => decide (x < n))) := by
    have fin : ∀ k, k ≤ l.length → (decide ((none : Option Int).getD (0 : Int) ≤ (k : Int)) = true ∧ decide ((k : Int) ≤ (l.length : Int)) = true ∧ decide ((l.take k).length ≤ 4294967296) = true ∧ decide ((l.take k).length + [n].length ≤ 4294967296) = true ∧
        decide ((l.take k ++ [n]).length + (l.drop k).length ≤ 4294967296) = true) := by
      intro k hk
      refine ⟨by simp, by simpa using hk, ?_, ?_, ?_⟩ <;> simp <;> omega
    refine upto ?_ ?_
    · obtain ⟨f1, f2, f3, f4, f5⟩ := fin l.length (Nat.le_refl _)
      refine spec_l7Put.eq4 _ _ _ ?_
      simp only [spec_l7Put.t4, ix_lt, ix_nn, ix_nat, Nat.lt_irrefl, decide_false, cond_false, cond_true, Option.getD_none, Option.getD_some, Int.sub_zero, Int.toNat_zero, List.drop_zero, f2, f3, f4, f5]
      simp
    · intro k hk ih
      obtain ⟨f1, f2, f3, f4, f5⟩ := fin k (by omega)
      refine spec_l7Put.eq4 _ _ _ ?_
      rw [drop_getD 0 hk]
      simp only [spec_l7Put.t4, ix_lt, ix_nn, ix_nat, dec_t hk, cond_true, wrap_succ (show k < 9223372036854775807 by omega), ih, List.takeWhile_cons, List.dropWhile_cons]
      by_cases h : l.getD k 0 < n
      · simp only [dec_t h, cond_true, if_true]
        congr 1
        have : l.take (k + 1) = l.take k ++ [l.getD k 0] := by rw [List.take_add_one]; simp [List.getD, hk]
        rw [this]
        simp
      · simp only [dec_f h, cond_false, cond_true, Option.getD_none, Option.getD_some, Int.sub_zero, Int.toNat_zero, List.drop_zero, ix_nn, ix_nat, f2, f3, f4, f5, Bool.false_eq_true, if_false]
        simp only [List.append_nil]
        rw [drop_getD 0 hk]
  refine spec_l7Put.eq l n ?_
  simp only [spec_l7Put.t, spec_l1Has_eq l n hl, Option.bind_some]
  cases h : l.any (fun x => x == n) with
  | true => rfl
  | false =>
    simp only [cond_false]
    have := key 0 (Nat.zero_le _)
    simpa [putS] using this
/-- A number put into a set that is told as a rising list. -/
theorem l7Put_bits {m x : Nat} (hx : x < 62) : spec_l7Put (bitsF m 0 62) (x : Int) = some (bitsF (m ||| 2 ^ x) 0 62) := by
  have hl := bitsF_len m 0 62
  rw [spec_l7Put_eq _ _ (by omega)]
  cases h : m.testBit x with
  | true =>
    have : (bitsF m 0 62).any (fun y => y == (x : Int)) = true := by
      rw [List.any_eq_true]
      exact ⟨(x : Int), bitsF_mem.2 ⟨x, rfl, by omega, by omega, h⟩, by simp⟩
    rw [this, or_same h]
    rfl
  | false =>
    have : (bitsF m 0 62).any (fun y => y == (x : Int)) = false := by
      rw [Bool.eq_false_iff]
      intro ha
      rw [List.any_eq_true] at ha
      obtain ⟨y, hy, he⟩ := ha
      obtain ⟨k, rfl, _, _, hk⟩ := bitsF_mem.1 hy
      have : k = x := by
        have he2 : (k : Int) = (x : Int) := by simpa using he
        omega
      rw [this, h] at hk
      cases hk
    rw [this]
    simp only [cond_false]
    rw [putS_bits 62 0 m x (by omega) (by omega) h]
end GoV

/- CostOf: the program's answer is the specification's. -/
namespace GoV
open Go
theorem bitsF_zero : bitsF 0 0 62 = [] := by decide
theorem ix_le (i n : Nat) : decide ((i : Int) ≤ (n : Int)) = decide (i ≤ n) := by by_cases h : i ≤ n <;> simp [h]
/-- Numbers below n, none twice, none in m. -/
def distB (n : Int) : Nat → List Int → Bool
  | _, [] => true
  | m, x :: r => (decide (0 ≤ x) && decide (x < n)) && (!m.testBit x.toNat && distB n (m ||| 2 ^ x.toNat) r)
theorem bits_new {m x : Nat} (hx : x < 62) (h : m.testBit x = false) : (bitsF (m ||| 2 ^ x) 0 62).length = (bitsF m 0 62).length + 1 := by
  rw [← putS_bits 62 0 m x (by omega) (by omega) h]
  have := congrArg List.length (List.takeWhile_append_dropWhile (p := fun y => decide (y < (x : Int))) (l := bitsF m 0 62))
  simp only [putS, List.length_append, List.length_singleton] at this ⊢
  omega
theorem dist_len {n : Int} (hn : n ≤ 62) : ∀ (l : List Int) (m : Nat), (∀ x, x ∈ l → 0 ≤ x ∧ x < n) → (bitsF (maskN m l) 0 62).length ≤ (bitsF m 0 62).length + l.length ∧ (distB n m l = true ↔ (bitsF (maskN m l) 0 62).length = (bitsF m 0 62).length + l.length)
  | [], m, _ => by simp [maskN, distB]
  | x :: r, m, h => by
    have hx := h x List.mem_cons_self
    obtain ⟨i1, i2⟩ := dist_len hn r (m ||| 2 ^ x.toNat) fun y hy => h y (List.mem_cons_of_mem _ hy)
    rw [maskN_cons]
    simp only [distB, dec_t hx.1, dec_t hx.2, Bool.true_and, List.length_cons]
    cases e : m.testBit x.toNat with
    | true =>
      rw [or_same e] at i1 i2 ⊢
      simp only [bang_t, Bool.false_and]
      refine ⟨by omega, ?_⟩
      constructor
      · intro h; cases h
      · intro h; omega
    | false =>
      rw [bits_new (by omega) e] at i1 i2
      simp only [bang_f, Bool.true_and]
      refine ⟨by omega, ?_⟩
      rw [i2]
      constructor <;> intro h <;> omega
theorem dist_range {n : Int} : ∀ {l : List Int} {m : Nat}, distB n m l = true → ∀ x, x ∈ l → 0 ≤ x ∧ x < n
  | y :: r, m, h, x, hx => by
    simp only [distB, Bool.and_eq_true, decide_eq_true_eq] at h
    rcases List.mem_cons.1 hx with rfl | hx
    · exact h.1
    · exact dist_range h.2.2 x hx
section
variable {S : List Int} {Fs : List (List Int)} (hS : S.length ≤ 6)
include hS
theorem impl_set_has_eq {m x : Nat} (hm : m < 4611686018427387904) (hx : x < 62) : impl_set_has (m : Int) ((2 ^ x : Nat) : Int) = some (m.testBit x) := by
  refine impl_set_has.eq _ _ ?_
  simp only [impl_set_has.t, and_nat hm (pow_lt hx)]
  congr 1
  have : m &&& 2 ^ x = if m.testBit x then 2 ^ x else 0 := by
    apply Nat.eq_of_testBit_eq
    intro i
    rw [Nat.testBit_and, Nat.testBit_two_pow]
    by_cases e : x = i
    · subst e
      cases h : m.testBit x <;> simp [h]
    · cases h : m.testBit x <;> simp [e, Nat.testBit_two_pow]
  rw [this]
  have hp : 0 < 2 ^ x := Nat.pow_pos (by omega)
  cases h : m.testBit x with
  | true => simp
  | false =>
    have : ¬ ((0 : Nat) : Int) = ((2 ^ x : Nat) : Int) := by omega
    simp only [Bool.false_eq_true, if_false]
    exact beq_eq_false_iff_ne.2 this
theorem impl_Stats_isOrder_eq (l : List Int) (hl : l.length ≤ 1073741824) : impl_Stats_isOrder S Fs l = some (distB (S.length : Int) 0 l && decide (l.length = S.length)) := by
  have hw : IntKind.i64.wrap ((S.length : Int) - 1) = (S.length : Int) - 1 := wrap_id (by omega) (by omega)
  have key : ∀ i, i ≤ l.length → ∀ m : Nat, m < 4611686018427387904 → impl_Stats_isOrder.l3 l S Fs (m : Int) l (l.length : Int) (i : Int) = some (distB (S.length : Int) m (l.drop i) && decide (l.length = S.length)) := by
    refine upto ?_ ?_
    · intro m _
      refine impl_Stats_isOrder.eq3 _ _ _ _ _ _ _ ?_
      simp only [impl_Stats_isOrder.t3, ix_lt, Nat.lt_irrefl, decide_false, cond_false, List.drop_length, distB, Bool.true_and]
      congr 1
      by_cases h : l.length = S.length
      · simp [h]
      · have : ¬ (l.length : Int) = (S.length : Int) := by omega
        simp [h, this]
    · intro i hi ih m hm
      refine impl_Stats_isOrder.eq3 _ _ _ _ _ _ _ ?_
      rw [drop_getD 0 hi]
      simp only [impl_Stats_isOrder.t3, ix_lt, ix_nn, ix_nat, dec_t hi, cond_true, impl_within_eq, hw, Option.bind_some, distB, inB]
      by_cases g1 : 0 ≤ l.getD i 0
      · by_cases g2 : l.getD i 0 < (S.length : Int)
        · have g3 : l.getD i 0 ≤ (S.length : Int) - 1 := by omega
          obtain ⟨x, hx⟩ : ∃ x : Nat, l.getD i 0 = (x : Int) := ⟨(l.getD i 0).toNat, by omega⟩
          have hlt : x < 62 := by omega
          simp only [dec_t g1, dec_t g2, dec_t g3, Bool.true_and, bang_t, cond_false, cond_true]
          simp only [hx, ix_nat, one_shl hlt, impl_set_has_eq hS hm hlt, Option.bind_some, or_nat hm (pow_lt hlt), wrap_succ (show i < 9223372036854775807 by omega), ih _ (or_lt hm (pow_lt hlt))]
          cases m.testBit x <;> rfl
        · have g3 : ¬ l.getD i 0 ≤ (S.length : Int) - 1 := by omega
          simp only [dec_f g2, dec_f g3, Bool.and_false, Bool.false_and, bang_f, cond_true]
      · simp only [dec_f g1, Bool.false_and, bang_f, cond_true]
  exact impl_Stats_isOrder.eq S Fs l (by simp only [impl_Stats_isOrder.t]; exact key 0 (Nat.zero_le _) 0 (by omega))
theorem spec_order_loop (l : List Int) (hl : l.length = S.length) : spec_IsOrder.l5 l [] l (l.length : Int) (0 : Int) = some (distB (S.length : Int) 0 l) := by
  have bad : ∀ i, i ≤ l.length → (∃ x, x ∈ l.drop i ∧ ¬ (0 ≤ x ∧ x < (S.length : Int))) → ∀ m : Nat, spec_IsOrder.l5 l (bitsF m 0 62) l (l.length : Int) (i : Int) = some false := by
    refine upto ?_ ?_
    · rintro ⟨x, hx, _⟩; rw [List.drop_length] at hx; cases hx
    · intro i hi ih hx m
      refine spec_IsOrder.eq5 _ _ _ _ _ ?_
      simp only [spec_IsOrder.t5, ix_lt, ix_nn, ix_nat, dec_t hi, cond_true]
      by_cases g1 : l.getD i 0 < 0
      · simp only [dec_t g1, cond_true]
      · by_cases g2 : l.getD i 0 ≥ (l.length : Int)
        · simp only [dec_f g1, dec_t g2, cond_true, cond_false]
        · obtain ⟨x, hxe⟩ : ∃ x : Nat, l.getD i 0 = (x : Int) := ⟨(l.getD i 0).toNat, by omega⟩
          simp only [dec_f g1, dec_f g2, cond_false]
          simp only [hxe, l7Put_bits (m := m) (show x < 62 by omega), Option.bind_some, wrap_succ (show i < 9223372036854775807 by omega)]
          refine ih ?_ _
          obtain ⟨y, hy, hy2⟩ := hx
          rw [drop_getD 0 hi] at hy
          rcases List.mem_cons.1 hy with rfl | hy
          · omega
          · exact ⟨y, hy, hy2⟩
  by_cases hr : ∀ x, x ∈ l → 0 ≤ x ∧ x < (S.length : Int)
  · have key : ∀ i, i ≤ l.length → ∀ m : Nat, spec_IsOrder.l5 l (bitsF m 0 62) l (l.length : Int) (i : Int) = some (decide ((bitsF (maskN m (l.drop i)) 0 62).length = l.length)) := by
      refine upto ?_ ?_
      · intro m
        refine spec_IsOrder.eq5 _ _ _ _ _ ?_
        simp only [spec_IsOrder.t5, ix_lt, Nat.lt_irrefl, decide_false, cond_false, List.drop_length]
        congr 1
        by_cases h : (bitsF m 0 62).length = l.length
        · simp [maskN, h]
        · have : ¬ ((bitsF m 0 62).length : Int) = (l.length : Int) := by omega
          simp [maskN, h, this]
      · intro i hi ih m
        have hx := hr _ (getD_mem 0 hi)
        obtain ⟨x, hxe⟩ : ∃ x : Nat, l.getD i 0 = (x : Int) := ⟨(l.getD i 0).toNat, by omega⟩
        have g1 : ¬ (x : Int) < 0 := by omega
        have g2 : ¬ (x : Int) ≥ (l.length : Int) := by omega
        refine spec_IsOrder.eq5 _ _ _ _ _ ?_
        rw [drop_getD 0 hi, maskN_cons]
        simp only [spec_IsOrder.t5, ix_lt, ix_nn, ix_nat, dec_t hi, cond_true, cond_false, hxe, dec_f g1, dec_f g2, l7Put_bits (m := m) (show x < 62 by omega), Option.bind_some, wrap_succ (show i < 9223372036854775807 by omega)]
        exact ih _
    have := key 0 (Nat.zero_le _) 0
    rw [bitsF_zero, List.drop_zero] at this
    refine Eq.trans this ?_
    congr 1
    obtain ⟨_, i2⟩ := dist_len (n := (S.length : Int)) (by omega) l 0 hr
    rw [bitsF_zero] at i2
    refine bool_eq ?_
    rw [i2, decide_eq_true_eq]
    simp
  · have hd : distB (S.length : Int) 0 l = false := by
      rw [Bool.eq_false_iff]
      intro h
      exact hr (dist_range h)
    rw [hd]
    have := bad 0 (Nat.zero_le _) (by
      rw [List.drop_zero]
      by_cases h : ∃ x, x ∈ l ∧ ¬ (0 ≤ x ∧ x < (S.length : Int))
      · exact h
      · refine absurd (fun x hx => ?_) hr
        by_cases h2 : 0 ≤ x ∧ x < (S.length : Int)
        · exact h2
        · exact absurd ⟨x, hx, h2⟩ h) 0
    rw [bitsF_zero] at this
    exact this
/-- The sum of what is told in between. -/
def costP (S : List Int) (Fs : List (List Int)) : Int → Nat → List Int → Int
  | acc, _, [] => acc
  | acc, m, x :: r => costP S Fs (IntKind.i64.wrap (acc + sizeP S Fs [] (bitsF (m ||| 2 ^ x.toNat) 0 62) 1 1)) (m ||| 2 ^ x.toNat) r
theorem mask_take {l : List Int} {i : Nat} (hi : i < l.length) : maskN 0 (l.take (i + 1)) = maskN 0 (l.take i) ||| 2 ^ (l.getD i 0).toNat := by
  have : l.take (i + 1) = l.take i ++ [l.getD i 0] := by rw [List.take_add_one]; simp [List.getD, hi]
  rw [this]
  simp [maskN]
theorem szok_bits (hf : Fs.length = S.length) (hff : ∀ i, i < S.length → (Fs.getD i []).length = i ∧ ∀ x, x ∈ Fs.getD i [] → 1 ≤ x ∧ x ≤ 10) {l : List Int} (hl : ∀ x, x ∈ l → 0 ≤ x ∧ x < (S.length : Int)) : SzOK S Fs (bitsF (maskN 0 l) 0 62) := by
  refine ⟨hS, hf, hff, ?_, ?_⟩
  · have : ∀ (n i m : Nat) (a : Int), a < (i : Int) → risesB a (bitsF m i n) = true := by
      intro n
      induction n with
      | zero => intro i m a _; rfl
      | succ n ih =>
        intro i m a ha
        rw [bitsF_step]
        split
        · simp only [risesB, Bool.and_eq_true, decide_eq_true_eq]
          exact ⟨ha, ih (i + 1) m _ (by omega)⟩
        · exact ih (i + 1) m a (by omega)
    exact this 62 0 _ (-1) (by omega)
  · intro x hx
    obtain ⟨k, rfl, _, hk, hb⟩ := bitsF_mem.1 hx
    rw [maskN_bit] at hb
    simp only [Nat.zero_testBit, Bool.false_or, List.any_eq_true, decide_eq_true_eq] at hb
    obtain ⟨y, hy, rfl⟩ := hb
    have := hl y hy
    omega
end
theorem FnExactCostOf_same (v0 : List Int) (v1 : List (List Int)) (v2 : List Int) (w0 : WfT (.pair (.sl (.int .i64)) (.sl (.sl (.int .i64)))) (v0, v1)) (hz0 : szT (.pair (.sl (.int .i64)) (.sl (.sl (.int .i64)))) (v0, v1) ≤ 1048576)
    (w1 : WfT (.sl (.int .i64)) v2) (hz1 : szT (.sl (.int .i64)) v2 ≤ 1048576) :
    ∃ (a : Int) (b : Bool), spec_CostOf v0 v1 v2 = some (a, b) ∧ impl_CostOf v0 v1 v2 = some (a, b) ∧ True := by
  simp only [szT] at hz0 hz1
  have l0 : v0.length ≤ 1073741824 := by omega
  have l1 : ∀ x, x ∈ v1 → x.length ≤ 1073741824 := by
    intro x hx
    have := szT_mem (t := .sl (.int .i64)) hx
    simp only [szT] at this
    omega
  have l2 : v2.length ≤ 1073741824 := by omega
  have e1 := spec_GoodStats_eq v0 v1 l0 l1
  have e2 := impl_GoodStats_eq v0 v1 l0 l1
  have hO : spec_IsOrder v0 v1 v2 = some (goodS v0 v1 && (distB (v0.length : Int) 0 v2 && decide (v2.length = v0.length))) ∧ impl_IsOrder v0 v1 v2 = some (goodS v0 v1 && (distB (v0.length : Int) 0 v2 && decide (v2.length = v0.length))) := by
    cases h1 : goodS v0 v1 with
    | false => exact ⟨spec_IsOrder.eq v0 v1 v2 (by simp only [spec_IsOrder.t, e1, h1, Option.bind_some, bang_f, cond_true, Bool.false_and]), impl_IsOrder.eq v0 v1 v2 (by simp only [impl_IsOrder.t, e2, h1, Option.bind_some, cond_false, Bool.false_and])⟩
    | true =>
      have h6 := (goodS_iff.1 h1).1.2
      refine ⟨spec_IsOrder.eq v0 v1 v2 ?_, impl_IsOrder.eq v0 v1 v2 (by simp only [impl_IsOrder.t, e2, h1, Option.bind_some, cond_true, impl_Stats_isOrder_eq (Fs := v1) h6 v2 l2, Bool.true_and])⟩
      simp only [spec_IsOrder.t, e1, h1, Option.bind_some, bang_t, cond_false, bneI, Bool.true_and]
      by_cases h2 : v2.length = v0.length
      · simp only [dec_t h2, bang_t, cond_false, Bool.and_true]
        exact spec_order_loop h6 v2 h2
      · simp only [dec_f h2, bang_f, cond_true, Bool.and_false]
  cases h1 : (goodS v0 v1 && (distB (v0.length : Int) 0 v2 && decide (v2.length = v0.length))) with
  | false => exact ⟨0, false, spec_CostOf.eq v0 v1 v2 (by simp only [spec_CostOf.t, hO.1, h1, Option.bind_some, bang_f, cond_true]), impl_CostOf.eq v0 v1 v2 (by simp only [impl_CostOf.t, hO.2, h1, Option.bind_some, bang_f, cond_true]), trivial⟩
  | true =>
    have hh := h1
    simp only [Bool.and_eq_true, decide_eq_true_eq] at hh
    obtain ⟨hg, hd, hlen⟩ := hh
    rw [goodS_iff] at hg
    have h6 := hg.1.2
    have hpos : 0 < v2.length := by omega
    have hrange := dist_range hd
    have hff : ∀ i, i < v0.length → (v1.getD i []).length = i ∧ ∀ x, x ∈ v1.getD i [] → 1 ≤ x ∧ x ≤ 10 := fun i hi => (hg.2.2 i hi).2
    have hsz : ∀ i, SzOK v0 v1 (bitsF (maskN 0 (v2.take i)) 0 62) := fun i => szok_bits h6 hg.2.1 hff fun x hx => hrange x (List.mem_of_mem_take hx)
    have hlt : ∀ i, maskN 0 (v2.take i) < 4611686018427387904 := fun i => maskN_lt (by omega) fun x hx => by have := hrange x (List.mem_of_mem_take hx); omega
    have spec : ∀ i, i ≤ v2.length → 0 < i → ∀ acc : Int, spec_l12Cost.l4 v0 v1 acc (bitsF (maskN 0 (v2.take i)) 0 62) v2 (v2.length : Int) (i : Int) = some (costP v0 v1 acc (maskN 0 (v2.take i)) (v2.drop i)) := by
      refine upto ?_ ?_
      · intro _ acc
        exact spec_l12Cost.eq4 _ _ _ _ _ _ _ (by simp only [spec_l12Cost.t4, ix_lt, Nat.lt_irrefl, decide_false, cond_false, List.drop_length, costP])
      · intro i hi ih h0 acc
        have hx := hrange _ (getD_mem 0 hi)
        obtain ⟨x, hxe⟩ : ∃ x : Nat, v2.getD i 0 = (x : Int) := ⟨(v2.getD i 0).toNat, by omega⟩
        have hm := mask_take h6 hi
        rw [hxe, ix_nat] at hm
        have hs := spec_l12Size_eq (hsz (i + 1))
        rw [hm] at hs
        have g := ih (by omega) (IntKind.i64.wrap (acc + sizeP v0 v1 [] (bitsF (maskN 0 (v2.take i) ||| 2 ^ x) 0 62) 1 1))
        rw [hm] at g
        refine spec_l12Cost.eq4 _ _ _ _ _ _ _ ?_
        rw [drop_getD 0 hi]
        simp only [spec_l12Cost.t4, ix_lt, ix_nn, ix_nat, ix_pos, dec_t hi, dec_t h0, cond_true, hxe, l7Put_bits (m := maskN 0 (v2.take i)) (show x < 62 by omega), Option.bind_some, hs, wrap_succ (show i < 9223372036854775807 by omega), costP]
        exact g
    have impl : ∀ i, i ≤ v2.length → 0 < i → ∀ acc : Int, impl_CostOf.l5 v2 v0 v1 acc ((i + 1 : Nat) : Int) = some (costP v0 v1 acc (maskN 0 (v2.take i)) (v2.drop i), true) := by
      refine upto ?_ ?_
      · intro _ acc
        have : ¬ v2.length + 1 ≤ v2.length := by omega
        exact impl_CostOf.eq5 _ _ _ _ _ (by simp only [impl_CostOf.t5, ix_le, dec_f this, cond_false, List.drop_length, costP])
      · intro i hi ih h0 acc
        have hx := hrange _ (getD_mem 0 hi)
        have hm := mask_take h6 hi
        have hle : i + 1 ≤ v2.length := by omega
        have e3 := impl_setOf_eq (v2.take (i + 1)) (by rw [List.length_take]; omega) (fun x hx => by have := hrange x (List.mem_of_mem_take hx); omega)
        have e4 := impl_Stats_size_eq (hsz (i + 1)) (impl_set_list_eq _ (hlt (i + 1)))
        have g := ih (by omega) (IntKind.i64.wrap (acc + sizeP v0 v1 [] (bitsF (maskN 0 (v2.take (i + 1))) 0 62) 1 1))
        refine impl_CostOf.eq5 _ _ _ _ _ ?_
        rw [drop_getD 0 hi]
        simp only [impl_CostOf.t5, ix_le, ix_nat, dec_t hle, cond_true, Option.getD_none, ix_nn, Int.sub_zero, Int.toNat_zero, List.drop_zero, e3, e4, Option.bind_some, wrap_succ (show i + 1 < 9223372036854775807 by omega), costP]
        rw [g, hm]
    -- the first table
    have hx0 := hrange _ (getD_mem 0 hpos)
    obtain ⟨x, hxe⟩ : ∃ x : Nat, v2.getD 0 0 = (x : Int) := ⟨(v2.getD 0 0).toNat, by omega⟩
    have hm := mask_take h6 hpos
    rw [hxe, ix_nat] at hm
    have s1 := spec 1 (by omega) (by omega) 0
    have i1 := impl 1 (by omega) (by omega) 0
    have hcost : spec_l12Cost v0 v1 v2 = some (costP v0 v1 0 (maskN 0 (v2.take 1)) (v2.drop 1)) := by
      refine spec_l12Cost.eq v0 v1 v2 ?_
      simp only [spec_l12Cost.t]
      refine spec_l12Cost.eq4 _ _ _ _ _ _ _ ?_
      have h00 : ((0 : Nat) : Int) = (0 : Int) := rfl
      have hp : decide ((0 : Int) < (v2.length : Int)) = true := by simpa using hpos
      have hg0 : ¬ (0 : Int) > 0 := by omega
      have put := l7Put_bits (m := 0) (show x < 62 by omega)
      rw [bitsF_zero] at put
      simp only [spec_l12Cost.t4, hp, Int.le_refl, decide_true, Int.toNat_zero, dec_t hpos, cond_true, hxe, put, Option.bind_some, dec_f hg0, cond_false]
      have hw : IntKind.i64.wrap ((0 : Int) + 1) = ((1 : Nat) : Int) := wrap_succ (i := 0) (by omega)
      rw [hw]
      have hm' : maskN 0 (v2.take 1) = 0 ||| 2 ^ x := by
        have : maskN 0 (v2.take 0) = 0 := by simp [maskN]
        rw [this] at hm
        exact hm
      rw [hm'] at s1 ⊢
      exact s1
    refine ⟨_, true, spec_CostOf.eq v0 v1 v2 (by simp only [spec_CostOf.t, hO.1, h1, Option.bind_some, bang_t, cond_false, hcost]; rfl), impl_CostOf.eq v0 v1 v2 ?_, trivial⟩
    simp only [impl_CostOf.t, hO.2, h1, Option.bind_some, bang_t, cond_false]
    exact i1
end GoV

/- FnExactCostOf: the law out of its core. -/
namespace GoV
open Go
theorem FnExactCostOf_true (v0 : List Int) (v1 : List (List Int)) (v2 : List Int) (w0 : WfT (.pair (.sl (.int .i64)) (.sl (.sl (.int .i64)))) (v0, v1)) (w1 : WfT (.sl (.int .i64)) v2) : laws_FnExactCostOf v0 v1 v2 = some true := by
  by_cases b1 : ((v2.length : Int) > (1048576 : Int))
  · exact laws_FnExactCostOf.eq v0 v1 v2 (by simp only [laws_FnExactCostOf.t, dec_t b1, cond_true, cond_false, Option.bind_some])
  have z1 : szT (.sl (.int .i64)) v2 ≤ 1048576 := by rw [szT_sl_flat (t := (.int .i64)) v2 rfl]; omega
  obtain ⟨left2, e2, a2, b2z⟩ := laws_szStats_ok (v0) (v1) ((1048576 : Int)) w0 (by omega) (by omega)
  by_cases n2 : left2 < 0
  · exact laws_FnExactCostOf.eq v0 v1 v2 (by simp only [laws_FnExactCostOf.t, dec_f b1, e2, dec_t n2, cond_true, cond_false, Option.bind_some])
  have z2a := b2z (by omega)
  have hz0 : szT (.pair (.sl (.int .i64)) (.sl (.sl (.int .i64)))) (v0, v1) ≤ 1048576 := by omega
  have hz1 : szT (.sl (.int .i64)) v2 ≤ 1048576 := by omega
  obtain ⟨ga, gb, hspec, himpl, hsm⟩ := FnExactCostOf_same v0 v1 v2 w0 hz0 w1 hz1
  -- the answer is small
  have e3 := laws_toStats_id (v0) (v1) (by omega)
  have e4 := laws_toIntS_id (v2) (by omega)
  have e6 := laws_toStats_id (v0) (v1) (by omega)
  have e7 := laws_toIntS_id (v2) (by omega)
  have e9 := laws_toStats_id (v0) (v1) (by omega)
  have e10 := laws_eqStats_rf (v0) (v1) (by first | omega | (simp only [szT] at *; omega))
  have e11 := laws_toIntS_id (v2) (by omega)
  have e12 := laws_eqIntS_rf (v2) (by first | omega | (simp only [szT] at *; omega))
  refine laws_FnExactCostOf.eq v0 v1 v2 ?_
  simp only [laws_FnExactCostOf.t, dec_f b1, e2, dec_f n2, e3, e4, e6, e7, e9, e10, e11, e12, hspec, himpl, cond_true, cond_false, Option.bind_some, bne_ref, beq_ref, bang_t]
end GoV
