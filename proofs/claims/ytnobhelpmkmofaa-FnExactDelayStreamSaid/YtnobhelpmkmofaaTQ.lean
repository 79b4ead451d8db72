/- A part of the proof of FnExactDelayStream: an interpreter of the model over plain data, its soundness, and what it makes of the functions that the statement reaches. Conditions: none beyond what the given statement itself says. -/
import Derived.Test.YtnobhelpmkmofaaTP
set_option linter.unusedVariables false
set_option linter.unusedSimpArgs false
set_option linter.unnecessarySimpa false
set_option linter.unusedSectionVars false
/- The library's stable sort of rows with weights. -/
namespace GoV
open Go
def Rows (d : List WRow) : Prop := ∀ w, w ∈ d → w.1.length ≤ 1073741824
theorem Rows.perm {d d' : List WRow} (h : Rows d) (hp : d'.Perm d) : Rows d' := fun w hw => h w (hp.mem_iff.1 hw)
open Classical in
/-- An answer that counts where the rows are no longer than they were. -/
noncomputable def gd {β : Type} (d : List WRow) (x : Option β) : Option β := if Rows d then x else none
theorem gd_some {β : Type} {d : List WRow} {x : Option β} {r : β} : gd d x = some r ↔ Rows d ∧ x = some r := by
  unfold gd
  split
  · rename_i h; exact ⟨fun e => ⟨h, e⟩, fun e => e.2⟩
  · rename_i h; exact ⟨fun e => (by cases e), fun e => absurd e.1 h⟩
theorem gd_swap {d : List WRow} {i j : Nat} (hi : i < d.length) (hj : j < d.length) (h : Rows (swapL ([], 0) d i j)) : Rows d := h.perm (swapL_perm hi hj).symm
theorem gt_dec (i j : Nat) : decide ((i : Int) > (j : Int)) = decide (j < i) := ix_lt j i
theorem w_add {i j : Nat} (h : i + j < 4611686018427387904) : IntKind.i64.wrap ((i : Int) + (j : Int)) = ((i + j : Nat) : Int) := by rw [wrap_id] <;> omega
theorem w_sub {i j : Nat} (h : j ≤ i) (h2 : i < 4611686018427387904) : IntKind.i64.wrap ((i : Int) - (j : Int)) = ((i - j : Nat) : Int) := by rw [wrap_id] <;> omega
end GoV

/- The weight of a row: by binary search, and one by one. -/
namespace GoV
open Go
def weightP (l : List WRow) (r : List Int) : Int := match l.find? (fun w => cmpL w.1 r == 0) with | some w => w.2 | none => 0
/-- The middle of two numbers, as Go reckons it. -/
theorem mid_nat (i j : Nat) (h : i + j < 4611686018427387904) : IntKind.i64.wrap ((IntKind.u64.wrap (IntKind.i64.wrap ((i : Int) + (j : Int)))).fdiv ((2 : Int) ^ Min.min (Int.toNat (1 : Int)) IntKind.u64.bits)) = (((i + j) / 2 : Nat) : Int) := by
  have e1 : IntKind.i64.wrap ((i : Int) + (j : Int)) = ((i + j : Nat) : Int) := by rw [wrap_id] <;> omega
  have e2 : IntKind.u64.wrap ((i + j : Nat) : Int) = ((i + j : Nat) : Int) := by
    have : IntKind.u64.wrap ((i + j : Nat) : Int) = ((i + j : Nat) : Int) % 18446744073709551616 := by simp [IntKind.wrap, IntKind.bits, IntKind.signed]
    rw [this]
    omega
  have e3 : Min.min (Int.toNat (1 : Int)) IntKind.u64.bits = 1 := rfl
  rw [e1, e2, e3, Int.pow_one, Int.fdiv_eq_ediv_of_nonneg _ (by omega)]
  rw [wrap_id] <;> omega
section
variable {l : List WRow} {r : List Int} (hl : l.length ≤ 1073741824) (hr : ∀ w, w ∈ l → w.1.length ≤ 1073741824) (hx : r.length ≤ 1073741824) (hs : sortedW l)
include hl hr hx hs
end
end GoV

/- The library's stable sort of rows with weights: merging in place, and all of it. -/
namespace GoV
open Go
theorem RotF.none {f : Nat → WRow} {s m t : Nat} (h : s = m ∨ t = m) (h1 : s ≤ m) (h2 : m ≤ t) : RotF f f s m t := by
  intro k
  by_cases c1 : s ≤ k ∧ k < s + (t - m)
  · rw [if_pos c1]; congr 1; omega
  · rw [if_neg c1]
    by_cases c2 : s + (t - m) ≤ k ∧ k < t
    · rw [if_pos c2]; congr 1; omega
    · rw [if_neg c2]
theorem one_eq (i j : Nat) (h : j ≤ i) (h2 : i < 4611686018427387904) : (IntKind.i64.wrap ((i : Int) - (j : Int)) == (1 : Int)) = decide (i - j = 1) := by
  rw [w_sub h h2]
  by_cases e : i - j = 1
  · rw [e]; rfl
  · rw [dec_f e]
    exact beq_eq_false_iff_ne.2 (by omega)
abbrev zW : WRow := ([], 0)
end GoV

/- The library's stable sort of rows with weights: merging in place. -/
namespace GoV
open Go
end GoV

/- The library's stable sort of rows with weights: blocks sorted, then merged. -/
namespace GoV
open Go
/-- The first A blocks of s are sorted, each in itself. -/
def LoB (d : List WRow) (s A n : Nat) : Prop := ∀ q, q < A → q * s < n → SortS zW ltW d (q * s) (min (q * s + s) n)
/-- The blocks from the A-th on. -/
def HiB (d : List WRow) (s A n : Nat) : Prop := ∀ q, A ≤ q → q * s < n → SortS zW ltW d (q * s) (min (q * s + s) n)
theorem mul_le_of_lt {q A s : Nat} (h : q < A) : q * s + s ≤ A * s := by
  have := Nat.mul_le_mul_right s (show q + 1 ≤ A by omega)
  rwa [Nat.succ_mul] at this
theorem LoB.keep {d d' : List WRow} {s A n a b : Nat} (h : LoB d s A n) (hm : Mv zW d d' a b) (ha : A * s ≤ a) : LoB d' s A n := fun q h1 h2 =>
  (h q h1 h2).congr fun k _ g2 => hm.out k (.inl (by have := mul_le_of_lt (s := s) h1; omega))
theorem HiB.keep {d d' : List WRow} {s A n a b : Nat} (h : HiB d s A n) (hm : Mv zW d d' a b) (hb : b ≤ A * s) : HiB d' s A n := fun q h1 h2 =>
  (h q h1 h2).congr fun k g1 _ => hm.out k (.inr (by have := Nat.mul_le_mul_right s h1; omega))
theorem twice (A s : Nat) : 2 * A * s = A * (2 * s) := by rw [Nat.mul_comm 2 A, Nat.mul_assoc]
theorem twice1 (A s : Nat) : (2 * A + 1) * s = A * (2 * s) + s := by rw [Nat.succ_mul, twice]
theorem twice2 (A s : Nat) : 2 * (A + 1) * s = A * (2 * s) + 2 * s := by rw [twice, Nat.succ_mul]
end GoV

/- The library's stable sort of rows with weights. -/
namespace GoV
open Go
end GoV

/- A table handed on if it is good. -/
namespace GoV
open Go
end GoV

/- Lists of rows summed: what the program's 'summed' gives. -/
namespace GoV
open Go
end GoV

/- Tables that are good, with as many columns. -/
namespace GoV
open Go
def alikeB (c : Int) (a : List WRow) (d : Int) (b : List WRow) : Bool := goodT c a && (goodT d b && (c == d))
end GoV

/- Tables added, as the program does it. -/
namespace GoV
open Go
theorem goodT_put {c : Int} {l : List WRow} (h : goodT c l = true) : PutOK 1000000 60 l ∧ sortedW l ∧ nzW l := by
  obtain ⟨_, h1, h2, h3⟩ := goodT_iff.1 h
  obtain ⟨_, h4⟩ := goodT_rows h
  exact ⟨⟨h1, fun w hw => by have := (h4 w hw).1; omega, fun w hw => (h4 w hw).2.1⟩, h3, fun w hw => (h4 w hw).2.2⟩
theorem puts_small {c d : Int} {a b : List WRow} (g1 : goodT c a = true) (g2 : goodT d b = true) : (putsL a b).length ≤ 120 ∧ ∀ w, w ∈ putsL a b → w.1.length ≤ 6 := by
  obtain ⟨p1, p2, p3⟩ := goodT_put g1
  obtain ⟨h1, h2⟩ := goodT_rows g1
  obtain ⟨h3, h4⟩ := goodT_rows g2
  obtain ⟨_, _, _, r4, r5⟩ := putsL_ok b p2 p3
  refine ⟨by omega, fun w hw => ?_⟩
  rcases r4 w hw with h | ⟨u, hu, e⟩
  · exact (h2 w h).1
  · rw [e]; exact (h4 u hu).1
end GoV

/- Streams of tables. -/
namespace GoV
open Go
abbrev Tab := Int × List WRow
abbrev streamTy : Ty := .pair (.int .i64) (.sl (.pair (.int .i64) (.sl (.pair (.sl (.int .i64)) (.int .i64)))))
def tabOK (c : Int) (t : Tab) : Bool := goodT t.1 t.2 && (t.1 == c)
def goodSt (c : Int) (l : List Tab) : Bool := (inB 0 6 c && decide (l.length ≤ 12)) && l.all (tabOK c)
theorem tabOK_iff {c : Int} {t : Tab} : tabOK c t = true ↔ goodT c t.2 = true ∧ t.1 = c := by
  simp only [tabOK, Bool.and_eq_true, beq_iff_eq]
  constructor
  · rintro ⟨h, rfl⟩; exact ⟨h, rfl⟩
  · rintro ⟨h, rfl⟩; exact ⟨h, rfl⟩
theorem stream_len {c : Int} {l : List Tab} {n : Nat} (h : szT streamTy (c, l) ≤ n) : l.length ≤ n ∧ ∀ t, t ∈ l → t.2.length ≤ n ∧ ∀ w, w ∈ t.2 → w.1.length ≤ n := by
  have h0 : szT (.sl (.pair (.int .i64) (.sl (.pair (.sl (.int .i64)) (.int .i64))))) l ≤ n := by simp only [szT] at h ⊢; omega
  have h1 := szT_len (t := .pair (.int .i64) (.sl (.pair (.sl (.int .i64)) (.int .i64)))) (l := l)
  refine ⟨by omega, fun t ht => ?_⟩
  have h2 := szT_mem (t := .pair (.int .i64) (.sl (.pair (.sl (.int .i64)) (.int .i64)))) (l := l) ht
  exact tab_len (c := t.1) (l := t.2) (Nat.le_trans h2 h0)
def smallT (t : Tab) : Prop := t.2.length ≤ 1073741824 ∧ ∀ w, w ∈ t.2 → w.1.length ≤ 1073741824
theorem stream_small {c : Int} {l : List Tab} (h : szT streamTy (c, l) ≤ 1048576) : l.length ≤ 1073741824 ∧ ∀ t, t ∈ l → smallT t := by
  obtain ⟨h1, h2⟩ := stream_len h
  refine ⟨by omega, fun t ht => ?_⟩
  obtain ⟨h3, h4⟩ := h2 t ht
  exact ⟨by omega, fun w hw => by have := h4 w hw; omega⟩
theorem stream_size {c : Int} {ls : List (List WRow)} (h : ∀ r, r ∈ ls → goodT c r = true) (hl : ls.length ≤ 12) : szT streamTy (c, ls.map fun r => (c, r)) ≤ 1073741824 := by
  have key : ∀ ls : List (List WRow), (∀ r, r ∈ ls → goodT c r = true) → ((ls.map fun r => ((c, r) : Tab)).map (szT (.pair (.int .i64) (.sl (.pair (.sl (.int .i64)) (.int .i64)))))).sum ≤ 1000 * ls.length := by
    intro ls
    induction ls with
    | nil => intro _; simp
    | cons r ls ih =>
      intro h
      have h1 := goodT_size (h r (by simp))
      have h2 := ih fun x hx => h x (List.mem_cons_of_mem _ hx)
      have h3 : szT (.pair (.int .i64) (.sl (.pair (.sl (.int .i64)) (.int .i64)))) ((c, r) : Tab) = szT (.sl (.pair (.sl (.int .i64)) (.int .i64))) r := by
        show 0 + szT (.sl (.pair (.sl (.int .i64)) (.int .i64))) r = _
        omega
      simp only [List.map_cons, List.sum_cons, List.length_cons]
      rw [h3]
      omega
  have := key ls h
  show 0 + ((ls.map fun r => ((c, r) : Tab)).length + ((ls.map fun r => ((c, r) : Tab)).map (szT (.pair (.int .i64) (.sl (.pair (.sl (.int .i64)) (.int .i64)))))).sum) ≤ _
  rw [List.length_map]
  omega
theorem stream_none : szT streamTy ((0 : Int), ([] : List Tab)) ≤ 1073741824 := by simp [szT]
section
variable {c : Int} {l : List Tab} (hl : l.length ≤ 1073741824) (hr : ∀ t, t ∈ l → smallT t)
include hl hr
theorem spec_GoodStream_eq : spec_GoodStream c l = some (goodSt c l) := by
  refine spec_GoodStream.eq c l ?_
  simp only [spec_GoodStream.t]
  have := all_loop l ((0 : Int), []) (fun i => spec_GoodStream.l2 c l l (l.length : Int) (i : Int)) (tabOK c) false (inB 0 6 c && decide (l.length ≤ 12)) ?_ ?_ ?_
  · refine Eq.trans this ?_
    simp only [goodSt]
    cases l.all (tabOK c)
    · simp
    · simp
  · refine spec_GoodStream.eq2 _ _ _ _ _ ?_
    have e : decide ((l.length : Int) ≤ 12) = decide (l.length ≤ 12) := bool_eq (by simp only [decide_eq_true_eq]; omega)
    simp only [spec_GoodStream.t2, ix_lt, Nat.lt_irrefl, decide_false, cond_false, spec_l1In_eq, Option.bind_some, e]
    cases inB 0 6 c <;> rfl
  · intro i hi hb
    obtain ⟨g1, g2⟩ := hr _ (getD_mem ((0 : Int), ([] : List WRow)) hi)
    refine spec_GoodStream.eq2 _ _ _ _ _ ?_
    simp only [tabOK] at hb
    simp only [spec_GoodStream.t2, ix_lt, ix_nn, ix_nat, dec_t hi, cond_true, spec_GoodTable_eq g1 g2, Option.bind_some, bne]
    cases h1 : goodT (l.getD i ((0 : Int), [])).1 (l.getD i ((0 : Int), [])).2
    · rfl
    · rw [h1, Bool.true_and] at hb
      simp only [hb, bang_t, bang_f, cond_true, cond_false]
  · intro i b hi hb hs
    obtain ⟨g1, g2⟩ := hr _ (getD_mem ((0 : Int), ([] : List WRow)) hi)
    simp only [tabOK, Bool.and_eq_true] at hb
    refine spec_GoodStream.eq2 _ _ _ _ _ ?_
    simp only [spec_GoodStream.t2, ix_lt, ix_nn, ix_nat, dec_t hi, cond_true, spec_GoodTable_eq g1 g2, Option.bind_some, bne, hb.1, hb.2, bang_t, cond_false, wrap_succ (show i < 9223372036854775807 by omega)]
    exact hs
theorem impl_GoodStream_eq : impl_GoodStream c l = some (goodSt c l) := by
  refine impl_GoodStream.eq c l ?_
  have e : decide ((l.length : Int) ≤ 12) = decide (l.length ≤ 12) := bool_eq (by simp only [decide_eq_true_eq]; omega)
  have e2 := xi05_ok l c l (tabOK c) (by omega) (fun t ht => by
    obtain ⟨g1, g2⟩ := hr t ht
    refine impl_GoodStream_1.eq _ _ _ _ ?_
    simp only [impl_GoodStream_1.t, impl_GoodTable_eq g1 g2, Option.bind_some, tabOK]
    cases goodT t.1 t.2 <;> rfl)
  simp only [impl_GoodStream.t, impl_isColumns_eq, e, e2, Option.bind_some, goodSt]
  cases inB 0 6 c
  · simp
  · by_cases h : l.length ≤ 12
    · simp only [dec_t h, cond_true, Bool.and_self, Bool.true_and]
    · simp only [dec_f h, cond_true, cond_false, Bool.and_false, Bool.false_and]
end
/-- A list pushed while all is well. -/
theorem push_all_loop {α β γ : Type} (l : List α) (z : α) (p : α → Bool) (g : α → γ) (L : List γ → Nat → Option β) (res : List γ → Option β) (bad : β) (he : ∀ acc b, acc.length ≤ l.length → res acc = some b → L acc l.length = some b)
    (hf : ∀ acc i, i < l.length → p (l.getD i z) = false → L acc i = some bad)
    (hs : ∀ acc i b, i < l.length → acc.length ≤ i → p (l.getD i z) = true → L (acc ++ [g (l.getD i z)]) (i + 1) = some b → L acc i = some b) :
    ∀ b, (bif l.all p then res (l.map g) else some bad) = some b → L [] 0 = some b := by
  have key : ∀ i, i ≤ l.length → ∀ acc b, acc.length ≤ i → (bif (l.drop i).all p then res (acc ++ (l.drop i).map g) else some bad) = some b → L acc i = some b := by
    refine upto ?_ ?_
    · intro acc b ha hb
      rw [List.drop_length, List.map_nil, List.append_nil] at hb
      exact he acc b ha hb
    · intro i hi ih acc b ha hb
      rw [drop_getD z hi, List.map_cons, List.all_cons, push_mid] at hb
      cases hq : p (l.getD i z) with
      | false =>
        rw [hq, Bool.false_and, cond_false] at hb
        rw [← hb]
        exact hf acc i hi hq
      | true =>
        rw [hq, Bool.true_and] at hb
        exact hs acc i b hi ha hq (ih _ b (by rw [List.length_append, List.length_singleton]; omega) hb)
  intro b hb
  exact key 0 (Nat.zero_le _) [] b (Nat.le_refl _) (by rw [List.drop_zero]; exact hb)
theorem spec_l4Stream_eq (c : Int) (ls : List (List WRow)) (hl : ls.length ≤ 1073741824) (hr : ∀ r, r ∈ ls → r.length ≤ 1073741824 ∧ ∀ w, w ∈ r → w.1.length ≤ 1073741824) :
    spec_l4Stream c ls = some (bif ls.all (goodT c) then (c, ls.map fun r => (c, r), true) else (0, [], false)) := by
  refine spec_l4Stream.eq c ls ?_
  simp only [spec_l4Stream.t]
  refine push_all_loop ls [] (goodT c) (fun r => (c, r)) (fun acc i => spec_l4Stream.l3 c 0 [] c acc ls (ls.length : Int) (i : Int)) (fun acc => some (c, acc, true)) (0, [], false) ?_ ?_ ?_ _ ?_
  · intro acc b _ hb
    exact spec_l4Stream.eq3 _ _ _ _ _ _ _ _ (by simp only [spec_l4Stream.t3, ix_lt, Nat.lt_irrefl, decide_false, cond_false]; exact hb)
  · intro acc i hi hq
    obtain ⟨g1, g2⟩ := hr _ (getD_mem [] hi)
    have e := spec_l2Tell_eq c (ls.getD i []) g1 g2
    rw [hq, cond_false] at e
    exact spec_l4Stream.eq3 _ _ _ _ _ _ _ _ (by simp only [spec_l4Stream.t3, ix_lt, ix_nn, ix_nat, dec_t hi, cond_true, e, Option.bind_some, bang_f])
  · intro acc i b hi ha hq hb
    obtain ⟨g1, g2⟩ := hr _ (getD_mem [] hi)
    have e := spec_l2Tell_eq c (ls.getD i []) g1 g2
    rw [hq, cond_true] at e
    have h2 : acc.length + [(c, ls.getD i [])].length ≤ 4294967296 := by simp only [List.length_cons, List.length_nil]; omega
    exact spec_l4Stream.eq3 _ _ _ _ _ _ _ _ (by simp only [spec_l4Stream.t3, ix_lt, ix_nn, ix_nat, dec_t hi, cond_true, e, Option.bind_some, bang_t, cond_false, dec_t h2, wrap_succ (show i < 9223372036854775807 by omega)]; exact hb)
  · cases ls.all (goodT c) <;> rfl
/-! ## A state that goes along a list -/
def scanL {α γ σ : Type} (f : σ → α → γ × σ) : σ → List α → List γ
  | _, [] => []
  | s, x :: r => (f s x).1 :: scanL f (f s x).2 r
theorem scanL_len {α γ σ : Type} (f : σ → α → γ × σ) : ∀ (l : List α) (s : σ), (scanL f s l).length = l.length
  | [], _ => rfl
  | x :: l, s => by simp only [scanL, List.length_cons, scanL_len f l]
theorem scanL_all {α γ σ : Type} (f : σ → α → γ × σ) (z : α) (l : List α) (I : Nat → σ → Prop) (P : γ → Prop) (h : ∀ i s, i < l.length → I i s → P (f s (l.getD i z)).1 ∧ I (i + 1) (f s (l.getD i z)).2) : ∀ s, I 0 s → ∀ x, x ∈ scanL f s l → P x := by
  have key : ∀ i, i ≤ l.length → ∀ s, I i s → ∀ x, x ∈ scanL f s (l.drop i) → P x := by
    refine upto ?_ ?_
    · intro s _ x hx
      rw [List.drop_length] at hx
      cases hx
    · intro i hi ih s hI x hx
      obtain ⟨h1, h2⟩ := h i s hi hI
      rw [drop_getD z hi] at hx
      rcases List.mem_cons.1 hx with rfl | hx
      · exact h1
      · exact ih _ h2 x hx
  intro s hI x hx
  exact key 0 (Nat.zero_le _) s hI x (by rw [List.drop_zero]; exact hx)
theorem scan_loop {α β γ γ' σ : Type} (f : σ → α → γ × σ) (z : α) (l : List α) (I : Nat → σ → Prop) (g : γ → γ') (L : List γ' → σ → Nat → Option β) (res : List γ' → Option β)
    (hI : ∀ i s, i < l.length → I i s → I (i + 1) (f s (l.getD i z)).2)
    (he : ∀ acc s b, acc.length ≤ l.length → res acc = some b → L acc s l.length = some b)
    (hs : ∀ acc s i b, i < l.length → acc.length ≤ i → I i s → L (acc ++ [g (f s (l.getD i z)).1]) (f s (l.getD i z)).2 (i + 1) = some b → L acc s i = some b) :
    ∀ s b, I 0 s → res ((scanL f s l).map g) = some b → L [] s 0 = some b := by
  have key : ∀ i, i ≤ l.length → ∀ acc s b, acc.length ≤ i → I i s → res (acc ++ (scanL f s (l.drop i)).map g) = some b → L acc s i = some b := by
    refine upto ?_ ?_
    · intro acc s b ha _ hb
      rw [List.drop_length, scanL, List.map_nil, List.append_nil] at hb
      exact he acc s b ha hb
    · intro i hi ih acc s b ha h hb
      rw [drop_getD z hi, scanL, List.map_cons, push_mid] at hb
      exact hs acc s i b hi ha h (ih _ _ b (by rw [List.length_append, List.length_singleton]; omega) (hI i s hi h) hb)
  intro s b h hb
  exact key 0 (Nat.zero_le _) [] s b (Nat.le_refl _) h (by rw [List.drop_zero]; exact hb)
theorem scaleL_one {l : List WRow} (h : ∀ w, w ∈ l → -1000000000 ≤ w.2 ∧ w.2 ≤ 1000000000) : scaleL 1 l = l := by
  induction l with
  | nil => rfl
  | cons w l ih =>
    have h1 := h w (by simp)
    have e : scaleG 1 w = [w] := by
      simp only [scaleG]
      rw [if_neg (by omega), Int.one_mul, wrap_id (by omega) (by omega)]
    rw [scaleL, List.flatMap_cons, e]
    have := ih fun x hx => h x (List.mem_cons_of_mem _ hx)
    rw [scaleL] at this
    rw [this]
    rfl
theorem all_map {c : Int} (ls : List (List WRow)) : (ls.map fun r => ((c, r) : Tab)).all (tabOK c) = ls.all (goodT c) := by
  induction ls with
  | nil => rfl
  | cons r ls ih =>
    rw [List.map_cons, List.all_cons, List.all_cons, ih]
    simp [tabOK]
theorem goodSt_map {c : Int} {ls : List (List WRow)} (hc : 0 ≤ c ∧ c ≤ 6) (hl : ls.length ≤ 12) : goodSt c (ls.map fun r => (c, r)) = ls.all (goodT c) := by
  have h1 : inB 0 6 c = true := inB_iff.2 hc
  have h2 : decide ((ls.map fun r => ((c, r) : Tab)).length ≤ 12) = true := dec_t (by rw [List.length_map]; exact hl)
  rw [goodSt, h1, h2, all_map]
  simp
end GoV

/- DelayStream: the program's answer is the specification's. -/
namespace GoV
open Go
def delF (last : List WRow) (t : Tab) : List WRow × List WRow := (last, t.2)
def prevT (l : List Tab) (i : Nat) : List WRow := if i = 0 then [] else (l.getD (i - 1) ((0 : Int), [])).2
theorem FnExactDelayStream_same (v0 : Int) (v1 : List (Int × List (List Int × Int))) (w0 : WfT (.pair (.int .i64) (.sl (.pair (.int .i64) (.sl (.pair (.sl (.int .i64)) (.int .i64)))))) (v0, v1)) (hz0 : szT (.pair (.int .i64) (.sl (.pair (.int .i64) (.sl (.pair (.sl (.int .i64)) (.int .i64)))))) (v0, v1) ≤ 1048576) :
    ∃ (a : Int) (b : List (Int × List (List Int × Int))) (ok : Bool), spec_DelayStream v0 v1 = some (a, b, ok) ∧ impl_DelayStream v0 v1 = some (a, b, ok) ∧ szT (.pair (.int .i64) (.sl (.pair (.int .i64) (.sl (.pair (.sl (.int .i64)) (.int .i64)))))) (a, b) ≤ 1073741824 := by
  obtain ⟨hl, hr⟩ := stream_small hz0
  have e1 := spec_GoodStream_eq (c := v0) hl hr
  have e2 := impl_GoodStream_eq (c := v0) hl hr
  cases hg : goodSt v0 v1 with
  | false => exact ⟨0, [], false, spec_DelayStream.eq _ _ (by simp only [spec_DelayStream.t, e1, hg, Option.bind_some, bang_f, cond_true]), impl_DelayStream.eq _ _ (by simp only [impl_DelayStream.t, e2, hg, Option.bind_some, bang_f, cond_true]), stream_none⟩
  | true =>
    simp only [goodSt, Bool.and_eq_true, decide_eq_true_eq, inB_iff] at hg
    obtain ⟨⟨hc, h12⟩, hall⟩ := hg
    have hgt : ∀ t, t ∈ v1 → goodT v0 t.2 = true ∧ t.1 = v0 := fun t ht => tabOK_iff.1 (List.all_eq_true.1 hall t ht)
    have hI : ∀ i (s : List WRow), i < v1.length → goodT v0 s = true → goodT v0 (delF s (v1.getD i ((0 : Int), []))).1 = true ∧ goodT v0 (delF s (v1.getD i ((0 : Int), []))).2 = true := fun i s hi hs => ⟨hs, (hgt _ (getD_mem _ hi)).1⟩
    have hgood := scanL_all delF ((0 : Int), []) v1 (fun _ s => goodT v0 s = true) (fun r => goodT v0 r = true) hI [] (goodT_nil hc)
    have hlen := scanL_len delF v1 []
    have hA : (scanL delF [] v1).all (goodT v0) = true := List.all_eq_true.2 hgood
    have e3 := spec_l4Stream_eq v0 (scanL delF [] v1) (by omega) (fun r hr' => by
      obtain ⟨g1, g2⟩ := goodT_rows (hgood r hr')
      exact ⟨by omega, fun w hw => by have := (g2 w hw).1; omega⟩)
    rw [hA, cond_true] at e3
    refine ⟨v0, (scanL delF [] v1).map (fun r => (v0, r)), true, spec_DelayStream.eq _ _ ?_, impl_DelayStream.eq _ _ ?_, stream_size hgood (by omega)⟩
    · simp only [spec_DelayStream.t, e1, Option.bind_some]
      have hgg : goodSt v0 v1 = true := by simp only [goodSt, Bool.and_eq_true, decide_eq_true_eq, inB_iff]; exact ⟨⟨hc, h12⟩, hall⟩
      simp only [hgg, bang_t, cond_false]
      have loop := scan_loop delF ((0 : Int), []) v1 (fun i s => s = prevT v1 i) (fun r => r) (fun acc _ i => spec_DelayStream.l5 v0 v1 0 [] acc (v1.length : Int) (i : Int)) (fun acc => (spec_l4Stream v0 acc).bind fun r1 => some (r1.fst, r1.snd.fst, r1.snd.snd)) ?_ ?_ ?_ [] (v0, (scanL delF [] v1).map (fun r => (v0, r)), true) rfl ?_
      · exact loop
      · intro i s hi hs
        simp [prevT, delF]
      · intro acc s b _ hb
        exact spec_DelayStream.eq5 _ _ _ _ _ _ _ (by simp only [spec_DelayStream.t5, ix_lt, Nat.lt_irrefl, decide_false, cond_false]; exact hb)
      · intro acc s i b hi ha hs hb
        subst hs
        refine spec_DelayStream.eq5 _ _ _ _ _ _ _ ?_
        simp only [spec_DelayStream.t5, ix_lt, dec_t hi, cond_true, wrap_succ (show i < 9223372036854775807 by omega)]
        simp only [delF, prevT] at hb
        by_cases h0 : i = 0
        · have h1 : ((i : Int) == 0) = true := beq_iff_eq.2 (by omega)
          rw [if_pos h0] at hb
          have h2 : acc.length + 1 ≤ 4294967296 := by omega
          simp only [h1, cond_true, dec_t h2]
          exact hb
        · have h1 : ((i : Int) == 0) = false := beq_eq_false_iff_ne.2 (by omega)
          rw [if_neg h0] at hb
          have h3 : i - 1 < v1.length := by omega
          have h2 : acc.length + [(v1.getD (i - 1) ((0 : Int), [])).snd].length ≤ 4294967296 := by simp only [List.length_cons, List.length_nil]; omega
          simp only [h1, cond_false, wrap_pred (show 0 < i by omega) (by omega), ix_nn, ix_nat, dec_t h3, cond_true, dec_t h2]
          exact hb
      · rw [List.map_id', e3]; rfl
    · have hgg : goodSt v0 v1 = true := by simp only [goodSt, Bool.and_eq_true, decide_eq_true_eq, inB_iff]; exact ⟨⟨hc, h12⟩, hall⟩
      simp only [impl_DelayStream.t, e2, hgg, Option.bind_some, bang_t, cond_false]
      refine scan_loop delF ((0 : Int), []) v1 (fun _ s => goodT v0 s = true) (fun r => ((v0, r) : Tab)) (fun acc s i => impl_DelayStream.l5 0 [] v0 acc v0 s v1 (v1.length : Int) (i : Int)) (fun acc => some (v0, acc, true)) (fun i s hi hs => (hI i s hi hs).2) ?_ ?_ [] _ (goodT_nil hc) rfl
      · intro acc s b _ hb
        exact impl_DelayStream.eq5 _ _ _ _ _ _ _ _ _ (by simp only [impl_DelayStream.t5, ix_lt, Nat.lt_irrefl, decide_false, cond_false]; exact hb)
      · intro acc s i b hi ha hs hb
        obtain ⟨g1, g2⟩ := goodT_rows hs
        have e4 := impl_Table_scaled_eq v0 s 1 (by omega) (fun w hw => by have := (g2 w hw).1; omega)
        rw [scaleL_one fun w hw => by have := (g2 w hw).2.1; omega] at e4
        have e5 := (hgt _ (getD_mem ((0 : Int), []) hi)).2
        have h2 : acc.length + [(v0, s)].length ≤ 4294967296 := by simp only [List.length_cons, List.length_nil]; omega
        refine impl_DelayStream.eq5 _ _ _ _ _ _ _ _ _ ?_
        simp only [impl_DelayStream.t5, ix_lt, ix_nn, ix_nat, dec_t hi, cond_true, e4, Option.bind_some, dec_t h2, e5, wrap_succ (show i < 9223372036854775807 by omega)]
        exact hb
end GoV

/- FnExactDelayStream: the law out of its core. -/
namespace GoV
open Go
theorem FnExactDelayStream_true (v0 : Int) (v1 : List (Int × List (List Int × Int))) (w0 : WfT (.pair (.int .i64) (.sl (.pair (.int .i64) (.sl (.pair (.sl (.int .i64)) (.int .i64)))))) (v0, v1)) : xl08 v0 v1 = some true := by
  obtain ⟨left1, e1, a1, b1z⟩ := laws_szStream_ok (v0) (v1) ((1048576 : Int)) w0 (by omega) (by omega)
  by_cases n1 : left1 < 0
  · exact xl08.eq v0 v1 (by simp only [xl08.t, e1, dec_t n1, cond_true, cond_false, Option.bind_some])
  have z1a := b1z (by omega)
  have hz0 : szT (.pair (.int .i64) (.sl (.pair (.int .i64) (.sl (.pair (.sl (.int .i64)) (.int .i64)))))) (v0, v1) ≤ 1048576 := by omega
  obtain ⟨ga, gb, gc, hspec, himpl, hsm⟩ := FnExactDelayStream_same v0 v1 w0 hz0
  -- the answer is small
  have e2 := laws_toStream_id (v0) (v1) (by omega)
  have e4 := laws_toStream_id (v0) (v1) (by omega)
  have e6 := laws_eqStream_rf (ga) (gb) (by first | omega | (simp only [szT] at *; omega))
  have e7 := laws_toStream_id (v0) (v1) (by omega)
  have e8 := laws_eqStream_rf (v0) (v1) (by first | omega | (simp only [szT] at *; omega))
  have q9 := cntT_le (T := (.pair (.int .i64) (.sl (.pair (.int .i64) (.sl (.pair (.sl (.int .i64)) (.int .i64))))))) (v0, v1) rfl
  simp only [Ty.size] at q9
  have e9 := xl0c_ok (v0) (v1) ((1 : Int)) (by omega) (by omega) (by omega)
  have p9 := mrT_cnt (.pair (.int .i64) (.sl (.pair (.int .i64) (.sl (.pair (.sl (.int .i64)) (.int .i64)))))) (v0, v1) (1 : Int)
  have g9 : ¬ (mrT (.pair (.int .i64) (.sl (.pair (.int .i64) (.sl (.pair (.sl (.int .i64)) (.int .i64)))))) (v0, v1) (1 : Int)).2 < 0 := by omega
  have e10 := laws_eqStream_rf (ga) (gb) (by first | omega | (simp only [szT] at *; omega))
  have q11 := cntT_le (T := (.pair (.int .i64) (.sl (.pair (.int .i64) (.sl (.pair (.sl (.int .i64)) (.int .i64))))))) (ga, gb) rfl
  simp only [Ty.size] at q11
  have e11 := xl0c_ok (ga) (gb) ((1 : Int)) (by omega) (by omega) (by omega)
  have p11 := mrT_cnt (.pair (.int .i64) (.sl (.pair (.int .i64) (.sl (.pair (.sl (.int .i64)) (.int .i64)))))) (ga, gb) (1 : Int)
  have g11 : ¬ (mrT (.pair (.int .i64) (.sl (.pair (.int .i64) (.sl (.pair (.sl (.int .i64)) (.int .i64)))))) (ga, gb) (1 : Int)).2 < 0 := by omega
  have e12 : laws_heldStream (ga) ((mrT (.pair (.int .i64) (.sl (.pair (.int .i64) (.sl (.pair (.sl (.int .i64)) (.int .i64)))))) (ga, gb) (1 : Int)).1.2) ((1 : Int)) = some (mrT (.pair (.int .i64) (.sl (.pair (.int .i64) (.sl (.pair (.sl (.int .i64)) (.int .i64)))))) (ga, gb) (1 : Int)).2 := laws_heldStream_ok (ga) (gb) (1 : Int) (by omega) (by omega) (by omega)
  have e13 := laws_toStream_id (v0) (v1) (by omega)
  have e15 := laws_eqStream_rf (ga) (gb) (by first | omega | (simp only [szT] at *; omega))
  have e16 : laws_heldStream (ga) ((mrT (.pair (.int .i64) (.sl (.pair (.int .i64) (.sl (.pair (.sl (.int .i64)) (.int .i64)))))) (ga, gb) (1 : Int)).1.2) ((1 : Int)) = some (mrT (.pair (.int .i64) (.sl (.pair (.int .i64) (.sl (.pair (.sl (.int .i64)) (.int .i64)))))) (ga, gb) (1 : Int)).2 := laws_heldStream_ok (ga) (gb) (1 : Int) (by omega) (by omega) (by omega)
  refine xl08.eq v0 v1 ?_
  simp only [xl08.t, e1, dec_f n1, e2, e4, e6, e7, e8, e9, dec_f g9, e10, e11, dec_f g11, e12, e13, e15, e16, hspec, himpl, cond_true, cond_false, Option.bind_some, bne_ref, beq_ref, bang_t]
end GoV
