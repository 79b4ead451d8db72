/- A part of the proof of FnExactGroupFor: an interpreter of the model over plain data, its soundness, and what it makes of the functions that the statement reaches. Conditions: none beyond what the given statement itself says. -/
import Derived.Test.YtjgjnjijhndoiaaTN
set_option linter.unusedVariables false
set_option linter.unusedSimpArgs false
set_option linter.unnecessarySimpa false
set_option linter.unusedSectionVars false
/- Good groups: alike for the program and its specification. -/
namespace GoV
open Go
theorem toNat0g : Int.toNat (0 : Int) = 0 := rfl
theorem spec_l5Sum_eq (n : Int) : spec_l5Sum n = some (sumB n) := spec_l5Sum.eq n (by simp only [spec_l5Sum.t, spec_l1In_eq, Option.bind_some]; rfl)
theorem impl_isSum_eq (n : Int) : impl_isSum n = some (sumB n) := impl_isSum.eq n (by simp only [impl_isSum.t, impl_within_eq, Option.bind_some]; rfl)
theorem impl_keyLength_eq (l : List GRow) : impl_keyLength l = some (klen l : Int) := by
  refine impl_keyLength.eq l ?_
  simp only [impl_keyLength.t, toNat0g]
  cases l with
  | nil => rfl
  | cons g l =>
    have h1 : (((g :: l).length : Int) == 0) = false := beq_eq_false_iff_ne.2 (by simp only [List.length_cons]; omega)
    have h2 : 0 < (g :: l).length := by simp
    simp only [h1, cond_false, dec_t h2, cond_true]
    rfl
theorem gatB_split (l : List GRow) (i : Nat) : gatB l i = (goodR (l.getD i ([], 0, 0)).1 && (((l.getD i ([], 0, 0)).1.length : Int) == (klen l : Int)) && sumB (l.getD i ([], 0, 0)).2.1 && sumB (l.getD i ([], 0, 0)).2.2 && !((l.getD i ([], 0, 0)).2.1 == 0 && (l.getD i ([], 0, 0)).2.2 == 0) && (decide (i = 0) || decide (cmpL (l.getD (i - 1) ([], 0, 0)).1 (l.getD i ([], 0, 0)).1 < 0))) := by
  simp only [gatB, grB, nzB]
  refine bool_eq ?_
  simp only [Bool.and_eq_true, decide_eq_true_eq, beq_iff_eq, and_assoc]
  constructor
  · rintro ⟨h1, h2, h3⟩; exact ⟨h1, by omega, h3⟩
  · rintro ⟨h1, h2, h3⟩; exact ⟨h1, by omega, h3⟩
section
variable {l : List GRow} (hl : l.length ≤ 1073741824) (hr : ∀ w, w ∈ l → w.1.length ≤ 1073741824)
include hl hr
theorem spec_GoodGroups_eq : spec_GoodGroups l = some (goodG l) := by
  have key : ∀ i, i ≤ l.length → spec_GoodGroups.l2 l l (l.length : Int) (i : Int) = some (allR (gatB l) i l.length && decide (l.length ≤ 60)) := by
    refine upto ?_ ?_
    · refine spec_GoodGroups.eq2 _ _ _ _ ?_
      have : decide ((l.length : Int) ≤ 60) = decide (l.length ≤ 60) := bool_eq (by simp only [decide_eq_true_eq]; omega)
      simp only [spec_GoodGroups.t2, ix_lt, Nat.lt_irrefl, decide_false, cond_false, allR_end, Bool.true_and, this]
    · intro i hi ih
      have h1 := hr _ (getD_mem ([], 0, 0) hi)
      have hpos : 0 < l.length := by omega
      refine spec_GoodGroups.eq2 _ _ _ _ ?_
      rw [allR_step _ hi, gatB_split]
      simp only [spec_GoodGroups.t2, ix_lt, ix_nn, ix_nat, dec_t hi, cond_true, toNat0g, dec_t hpos, spec_GoodRow_eq _ h1, spec_l5Sum_eq, Option.bind_some, wrap_succ (show i < 9223372036854775807 by omega), ih, bne, klen]
      cases goodR (l.getD i ([], 0, 0)).1
      · rfl
      · cases ((l.getD i ([], 0, 0)).1.length : Int) == ((l.getD 0 ([], 0, 0)).1.length : Int)
        · rfl
        · cases sumB (l.getD i ([], 0, 0)).2.1
          · rfl
          · cases sumB (l.getD i ([], 0, 0)).2.2
            · rfl
            · by_cases h0 : i = 0
              · subst h0
                cases (l.getD 0 ([], 0, 0)).2.1 == 0 <;> cases (l.getD 0 ([], 0, 0)).2.2 == 0 <;> simp
              · have h2 : 0 < i := by omega
                have h3 : i - 1 < l.length := by omega
                have h4 : (i : Int) > 0 := by omega
                have h5 := hr _ (getD_mem ([], 0, 0) h3)
                simp only [dec_t h4, dec_f h0, bang_t, bang_f, cond_true, cond_false, wrap_pred h2 (by omega), ix_nn, ix_nat, dec_t h3, spec_l1Compare_eq _ _ h5 h1, Option.bind_some, Bool.true_and, Bool.false_or]
                by_cases h6 : cmpL (l.getD (i - 1) ([], 0, 0)).1 (l.getD i ([], 0, 0)).1 ≥ 0
                · have h7 : ¬ cmpL (l.getD (i - 1) ([], 0, 0)).1 (l.getD i ([], 0, 0)).1 < 0 := by omega
                  simp only [dec_t h6, dec_f h7, cond_true]
                  cases (l.getD i ([], 0, 0)).2.1 == 0 <;> cases (l.getD i ([], 0, 0)).2.2 == 0 <;> rfl
                · have h7 : cmpL (l.getD (i - 1) ([], 0, 0)).1 (l.getD i ([], 0, 0)).1 < 0 := by omega
                  simp only [dec_f h6, dec_t h7, cond_false]
                  cases (l.getD i ([], 0, 0)).2.1 == 0 <;> cases (l.getD i ([], 0, 0)).2.2 == 0 <;> simp
  exact spec_GoodGroups.eq l (by simp only [spec_GoodGroups.t]; exact key 0 (Nat.zero_le _))
theorem impl_GoodGroups_eq : impl_GoodGroups l = some (goodG l) := by
  have key : ∀ i, i ≤ l.length → impl_GoodGroups.l2 l l (l.length : Int) (i : Int) = some (allR (gatB l) i l.length && decide (l.length ≤ 60)) := by
    refine upto ?_ ?_
    · refine impl_GoodGroups.eq2 _ _ _ _ ?_
      have : decide ((l.length : Int) ≤ 60) = decide (l.length ≤ 60) := bool_eq (by simp only [decide_eq_true_eq]; omega)
      simp only [impl_GoodGroups.t2, ix_lt, Nat.lt_irrefl, decide_false, cond_false, allR_end, Bool.true_and, this]
    · intro i hi ih
      have h1 := hr _ (getD_mem ([], 0, 0) hi)
      refine impl_GoodGroups.eq2 _ _ _ _ ?_
      rw [allR_step _ hi, gatB_split]
      simp only [impl_GoodGroups.t2, ix_lt, ix_nn, ix_nat, dec_t hi, cond_true, impl_keyLength_eq, impl_isRowOf_eq _ _ h1, impl_isSum_eq, Option.bind_some, wrap_succ (show i < 9223372036854775807 by omega), ih]
      cases goodR (l.getD i ([], 0, 0)).1
      · rfl
      · cases ((l.getD i ([], 0, 0)).1.length : Int) == (klen l : Int)
        · rfl
        · cases sumB (l.getD i ([], 0, 0)).2.1
          · rfl
          · cases sumB (l.getD i ([], 0, 0)).2.2
            · rfl
            · by_cases h0 : i = 0
              · subst h0
                cases (l.getD 0 ([], 0, 0)).2.1 == 0 <;> cases (l.getD 0 ([], 0, 0)).2.2 == 0 <;> simp
              · have h2 : 0 < i := by omega
                have h3 : i - 1 < l.length := by omega
                have h4 : (i : Int) > 0 := by omega
                have h5 := hr _ (getD_mem ([], 0, 0) h3)
                simp only [dec_t h4, dec_f h0, bang_t, bang_f, cond_true, cond_false, wrap_pred h2 (by omega), ix_nn, ix_nat, dec_t h3, impl_compareRows_eq _ _ h5 h1, Option.bind_some, Bool.true_and, Bool.false_or]
                by_cases h6 : cmpL (l.getD (i - 1) ([], 0, 0)).1 (l.getD i ([], 0, 0)).1 ≥ 0
                · have h7 : ¬ cmpL (l.getD (i - 1) ([], 0, 0)).1 (l.getD i ([], 0, 0)).1 < 0 := by omega
                  simp only [dec_t h6, dec_f h7, cond_true]
                  cases (l.getD i ([], 0, 0)).2.1 == 0 <;> cases (l.getD i ([], 0, 0)).2.2 == 0 <;> rfl
                · have h7 : cmpL (l.getD (i - 1) ([], 0, 0)).1 (l.getD i ([], 0, 0)).1 < 0 := by omega
                  simp only [dec_f h6, dec_t h7, cond_false]
                  cases (l.getD i ([], 0, 0)).2.1 == 0 <;> cases (l.getD i ([], 0, 0)).2.2 == 0 <;> simp
  exact impl_GoodGroups.eq l (by simp only [impl_GoodGroups.t]; exact key 0 (Nat.zero_le _))
end
end GoV

/- Tables with all weights times a number, and tables handed on if they are good. -/
namespace GoV
open Go
theorem xs07_eq (r : List Int) (hl : r.length ≤ 1073741824) : xs07 r = some r := by
  refine xs07.eq r ?_
  have : r.length ≤ 4294967296 := by omega
  simp only [xs07.t, dec_t this, cond_true]
theorem impl_Row_own_eq (r : List Int) (hl : r.length ≤ 1073741824) : impl_Row_own r = some r := impl_Row_own.eq r (by simp only [impl_Row_own.t, xs07_eq r hl, Option.bind_some])
end GoV

/- GroupFor: the program's answer is the specification's. -/
namespace GoV
open Go
def isK (key : List Int) (g : GRow) : Bool := cmpL g.1 key == 0
theorem groupFor_index {l : List GRow} {key : List Int} (hl : l.length ≤ 1073741824) (hr : ∀ w, w ∈ l → w.1.length ≤ 1073741824) (hk : key.length ≤ 1073741824) :
    ∃ r : Int, xs01 l key = some r ∧ ((r = -1 ∧ l.find? (isK key) = none) ∨ ∃ k : Nat, k < l.length ∧ r = (k : Int) ∧ l.find? (isK key) = some (l.getD k ([], 0, 0))) := by
  have main : ∀ i, i ≤ l.length → ∃ r : Int, xs01.l2 l key (l.length : Int) (i : Int) = some r ∧ ((r = -1 ∧ (l.drop i).find? (isK key) = none) ∨ ∃ k : Nat, k < l.length ∧ r = (k : Int) ∧ (l.drop i).find? (isK key) = some (l.getD k ([], 0, 0))) := by
    refine upto ?_ ?_
    · refine ⟨-1, xs01.eq2 _ _ _ _ (by simp only [xs01.t2, ix_lt, Nat.lt_irrefl, decide_false, cond_false]), .inl ⟨rfl, by rw [List.drop_length]; rfl⟩⟩
    · intro i hi ⟨r, h1, h2⟩
      have hw := hr _ (getD_mem ([], 0, 0) hi)
      have e1 : impl_GroupFor_1 (l.getD i ([], 0, 0)).1 (l.getD i ([], 0, 0)).2.1 (l.getD i ([], 0, 0)).2.2 key = some (isK key (l.getD i ([], 0, 0))) := impl_GroupFor_1.eq _ _ _ _ (by simp only [impl_GroupFor_1.t, impl_compareRows_eq _ _ hw hk, Option.bind_some]; rfl)
      rw [drop_getD ([], 0, 0) hi]
      cases hp : isK key (l.getD i ([], 0, 0)) with
      | true =>
        refine ⟨(i : Int), xs01.eq2 _ _ _ _ (by simp only [xs01.t2, ix_lt, ix_nn, ix_nat, dec_t hi, cond_true, e1, hp, Option.bind_some]), .inr ⟨i, hi, rfl, ?_⟩⟩
        rw [List.find?_cons_of_pos hp]
      | false =>
        refine ⟨r, xs01.eq2 _ _ _ _ (by simp only [xs01.t2, ix_lt, ix_nn, ix_nat, dec_t hi, cond_true, cond_false, e1, hp, Option.bind_some, wrap_succ (show i < 9223372036854775807 by omega)]; exact h1), ?_⟩
        rw [List.find?_cons_of_neg (by rw [hp]; simp)]
        exact h2
  obtain ⟨r, h1, h2⟩ := main 0 (Nat.zero_le _)
  rw [List.drop_zero] at h2
  exact ⟨r, xs01.eq _ _ (by simp only [xs01.t]; exact h1), h2⟩
def tellG (o : Option GRow) : List Int × Int × Int × Bool := match o with
  | some g => (g.1, g.2.1, g.2.2, true)
  | none => ([], 0, 0, false)
theorem FnExactGroupFor_same (v0 : List (List Int × Int × Int)) (v1 : List Int) (w0 : WfT (.sl (.pair (.sl (.int .i64)) (.pair (.int .i64) (.int .i64)))) v0) (hz0 : szT (.sl (.pair (.sl (.int .i64)) (.pair (.int .i64) (.int .i64)))) v0 ≤ 1048576) (w1 : WfT (.sl (.int .i64)) v1) (hz1 : szT (.sl (.int .i64)) v1 ≤ 1048576) :
    ∃ (a : List Int) (b c : Int) (ok : Bool), spec_GroupFor v0 v1 = some (a, b, c, ok) ∧ impl_GroupFor v0 v1 = some (a, b, c, ok) ∧ szT (.pair (.sl (.int .i64)) (.pair (.int .i64) (.int .i64))) (a, b, c) ≤ 1073741824 := by
  obtain ⟨h1, h2⟩ := groups_len hz0
  have hl : v0.length ≤ 1073741824 := by omega
  have hr : ∀ w, w ∈ v0 → w.1.length ≤ 1073741824 := fun w hw => by have := h2 w hw; omega
  have hk : v1.length ≤ 1073741824 := by have := szT_len (t := .int .i64) (l := v1); omega
  have e1 := spec_GoodGroups_eq hl hr
  have e2 := impl_GoodGroups_eq hl hr
  obtain ⟨r, e3, h3⟩ := groupFor_index hl hr hk
  have hnone : szT (.pair (.sl (.int .i64)) (.pair (.int .i64) (.int .i64))) (([] : List Int), (0 : Int), (0 : Int)) ≤ 1073741824 := by simp [szT]
  cases hg : goodG v0 with
  | false => exact ⟨[], 0, 0, false, spec_GroupFor.eq _ _ (by simp only [spec_GroupFor.t, e1, hg, Option.bind_some, bang_f, cond_true]), impl_GroupFor.eq _ _ (by simp only [impl_GroupFor.t, e3, e2, hg, Option.bind_some, bang_f, cond_true]), hnone⟩
  | true =>
    obtain ⟨hg1, hg2⟩ := goodG_rows hg
    have loop : ∀ i, i ≤ v0.length → spec_GroupFor.l4 v1 [] 0 0 v0 (v0.length : Int) (i : Int) = some (tellG ((v0.drop i).find? (isK v1))) := by
      refine upto ?_ ?_
      · rw [List.drop_length]
        exact spec_GroupFor.eq4 _ _ _ _ _ _ _ (by simp only [spec_GroupFor.t4, ix_lt, Nat.lt_irrefl, decide_false, cond_false]; rfl)
      · intro i hi ih
        have hw := hr _ (getD_mem ([], 0, 0) hi)
        rw [drop_getD ([], 0, 0) hi]
        refine spec_GroupFor.eq4 _ _ _ _ _ _ _ ?_
        simp only [spec_GroupFor.t4, ix_lt, ix_nn, ix_nat, dec_t hi, cond_true, spec_l1Compare_eq _ _ hw hk, spec_l2OwnRow_eq _ hw, Option.bind_some, wrap_succ (show i < 9223372036854775807 by omega), ih]
        cases hp : cmpL (v0.getD i ([], 0, 0)).1 v1 == 0 with
        | true => rw [List.find?_cons_of_pos (by exact hp)]; rfl
        | false => rw [List.find?_cons_of_neg (by rw [isK, hp]; simp)]; rfl
    have hs := loop 0 (Nat.zero_le _)
    rw [List.drop_zero] at hs
    have hspec : spec_GroupFor v0 v1 = some (tellG (v0.find? (isK v1))) := spec_GroupFor.eq _ _ (by simp only [spec_GroupFor.t, e1, hg, Option.bind_some, bang_t, cond_false]; exact hs)
    rcases h3 with ⟨rfl, hf⟩ | ⟨k, hk1, rfl, hf⟩
    · rw [hf] at hspec
      refine ⟨[], 0, 0, false, hspec, impl_GroupFor.eq _ _ ?_, hnone⟩
      have hneg : (-1 : Int) < 0 := by omega
      simp only [impl_GroupFor.t, e3, e2, hg, Option.bind_some, bang_t, cond_false, dec_t hneg, cond_true]
    · rw [hf] at hspec
      have hm := getD_mem (([] : List Int), (0 : Int), (0 : Int)) hk1
      have hw := hr _ hm
      have hnn : ¬ (k : Int) < 0 := by omega
      refine ⟨_, _, _, true, hspec, impl_GroupFor.eq _ _ ?_, ?_⟩
      · simp only [impl_GroupFor.t, e3, e2, hg, Option.bind_some, bang_t, cond_false, dec_f hnn, ix_nn, ix_nat, dec_t hk1, cond_true, impl_Row_own_eq _ hw]
      · have h6 := (hg2 _ hm).1
        show szT (.sl (.int .i64)) (v0.getD k ([], 0, 0)).1 + (0 + 0) ≤ _
        rw [szT_sl_flat (t := .int .i64) _ rfl]
        omega
end GoV

/- FnExactGroupFor: the law out of its core. -/
namespace GoV
open Go
theorem FnExactGroupFor_true (v0 : List (List Int × Int × Int)) (v1 : List Int) (w0 : WfT (.sl (.pair (.sl (.int .i64)) (.pair (.int .i64) (.int .i64)))) v0) (w1 : WfT (.sl (.int .i64)) v1) : xl06 v0 v1 = some true := by
  obtain ⟨left1, e1, a1, b1z⟩ := laws_szGroupS_ok (v0) ((1048576 : Int)) w0 (by omega) (by omega)
  by_cases n1 : left1 < 0
  · exact xl06.eq v0 v1 (by simp only [xl06.t, e1, dec_t n1, cond_true, cond_false, Option.bind_some])
  have z1a := b1z (by omega)
  obtain ⟨left2, e2, a2, b2z⟩ := laws_szRow_ok (v1) (left1) w1 (by omega) (by omega)
  by_cases n2 : left2 < 0
  · exact xl06.eq v0 v1 (by simp only [xl06.t, e1, dec_f n1, e2, dec_t n2, cond_true, cond_false, Option.bind_some])
  have z2a := b2z (by omega)
  have hz0 : szT (.sl (.pair (.sl (.int .i64)) (.pair (.int .i64) (.int .i64)))) v0 ≤ 1048576 := by omega
  have hz1 : szT (.sl (.int .i64)) v1 ≤ 1048576 := by omega
  obtain ⟨ga, gb, gc, gd, hspec, himpl, hsm⟩ := FnExactGroupFor_same v0 v1 w0 hz0 w1 hz1
  -- the answer is small
  have e3 := laws_toGroupS_id (v0) (by omega)
  have e4 := laws_toRow_id (v1) (by omega)
  have e6 := laws_toGroupS_id (v0) (by omega)
  have e7 := laws_toRow_id (v1) (by omega)
  have e9 := laws_eqGroup_rf (ga) (gb) (gc) (by first | omega | (simp only [szT] at *; omega))
  have e10 := laws_toGroupS_id (v0) (by omega)
  have e11 := laws_eqGroupS_rf (v0) (by first | omega | (simp only [szT] at *; omega))
  have e12 := laws_toRow_id (v1) (by omega)
  have e13 := laws_eqRow_rf (v1) (by first | omega | (simp only [szT] at *; omega))
  have q14 := cntT_le (T := (.sl (.pair (.sl (.int .i64)) (.pair (.int .i64) (.int .i64))))) v0 rfl
  simp only [Ty.size] at q14
  have e14 := xl08_ok (v0) ((1 : Int)) (by omega) (by omega) (by omega)
  have p14 := mrL_cnt (t := (.pair (.sl (.int .i64)) (.pair (.int .i64) (.int .i64)))) v0 (1 : Int)
  have g14 : ¬ (mrL (mrE (.pair (.sl (.int .i64)) (.pair (.int .i64) (.int .i64)))) v0 (1 : Int)).2 < 0 := by omega
  have q15 := cntT_le (T := (.sl (.int .i64))) v1 rfl
  simp only [Ty.size] at q15
  have e15 := laws_markRow_2a2_ok (v1) ((mrL (mrE (.pair (.sl (.int .i64)) (.pair (.int .i64) (.int .i64)))) v0 (1 : Int)).2) (by omega) (by omega) (by omega)
  have p15 := mrT_cnt (.sl (.int .i64)) v1 (mrL (mrE (.pair (.sl (.int .i64)) (.pair (.int .i64) (.int .i64)))) v0 (1 : Int)).2
  have g15 : ¬ (mrT (.sl (.int .i64)) v1 (mrL (mrE (.pair (.sl (.int .i64)) (.pair (.int .i64) (.int .i64)))) v0 (1 : Int)).2).2 < 0 := by omega
  have e16 := laws_eqGroup_rf (ga) (gb) (gc) (by first | omega | (simp only [szT] at *; omega))
  have q17 := cntT_le (T := (.pair (.sl (.int .i64)) (.pair (.int .i64) (.int .i64)))) (ga, (gb, gc)) rfl
  simp only [Ty.size] at q17
  have e17 := laws_markGroup_e42_ok (ga) (gb) (gc) ((1 : Int)) (by omega) (by omega) (by omega)
  have p17 := mrT_cnt (.pair (.sl (.int .i64)) (.pair (.int .i64) (.int .i64))) (ga, (gb, gc)) (1 : Int)
  have g17 : ¬ (mrT (.pair (.sl (.int .i64)) (.pair (.int .i64) (.int .i64))) (ga, (gb, gc)) (1 : Int)).2 < 0 := by omega
  have e18 : laws_heldGroup ((mrT (.pair (.sl (.int .i64)) (.pair (.int .i64) (.int .i64))) (ga, (gb, gc)) (1 : Int)).1.1) (gb) (gc) ((1 : Int)) = some (mrT (.pair (.sl (.int .i64)) (.pair (.int .i64) (.int .i64))) (ga, (gb, gc)) (1 : Int)).2 := laws_heldGroup_ok (ga) (gb) (gc) (1 : Int) (by omega) (by omega) (by omega)
  have e19 := laws_toGroupS_id (v0) (by omega)
  have e20 := laws_toRow_id (v1) (by omega)
  have e22 := laws_eqGroup_rf (ga) (gb) (gc) (by first | omega | (simp only [szT] at *; omega))
  have e23 : laws_heldGroup ((mrT (.pair (.sl (.int .i64)) (.pair (.int .i64) (.int .i64))) (ga, (gb, gc)) (1 : Int)).1.1) (gb) (gc) ((1 : Int)) = some (mrT (.pair (.sl (.int .i64)) (.pair (.int .i64) (.int .i64))) (ga, (gb, gc)) (1 : Int)).2 := laws_heldGroup_ok (ga) (gb) (gc) (1 : Int) (by omega) (by omega) (by omega)
  refine xl06.eq v0 v1 ?_
  simp only [xl06.t, e1, dec_f n1, e2, dec_f n2, e3, e4, e6, e7, e9, e10, e11, e12, e13, e14, dec_f g14, e15, dec_f g15, e16, e17, dec_f g17, e18, e19, e20, e22, e23, hspec, himpl, cond_true, cond_false, Option.bind_some, bne_ref, beq_ref, bang_t]
end GoV
