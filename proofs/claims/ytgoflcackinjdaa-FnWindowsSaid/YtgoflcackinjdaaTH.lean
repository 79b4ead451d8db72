/- A part of the proof of FnWindows: an interpreter of the model over plain data, its soundness, and what it makes of the functions that the statement reaches. Conditions: none beyond what the given statement itself says. -/
import Derived.Test.YtgoflcackinjdaaTG
import Derived.Laws.StructEq
set_option linter.unusedVariables false
set_option linter.unusedSimpArgs false
set_option linter.unnecessarySimpa false
set_option linter.unusedSectionVars false
/- Structs of numbers and truth values, compared cell by cell. -/
namespace GoV
open Go
/-- Fields at their places, of such types. -/
def fldT (P : Program) : Nat → List Ty → List Field → Bool
  | _, [], [] => true
  | k, .int q :: ts, f :: fs => (decide (f.name ≠ "_") && (Nat.beq f.offset k && (match P.underlying f.type with | some (.int q') => decide (q = q') | _ => false))) && fldT P (k + 1) ts fs
  | k, .bool :: ts, f :: fs => (decide (f.name ≠ "_") && (Nat.beq f.offset k && (match P.underlying f.type with | some .bool => true | _ => false))) && fldT P (k + 1) ts fs
  | _, _, _ => false
theorem drop_at {α : Type} {l r : List α} {k : Nat} {x : α} (h : l.drop k = x :: r) : l[k]? = some x ∧ l.drop (k + 1) = r := by
  have h1 := congrArg List.head? h
  have h2 := congrArg List.tail h
  rw [List.head?_drop] at h1
  rw [List.tail_drop] at h2
  exact ⟨h1, h2⟩
theorem eqFields_ok {P : Program} {w : World} {us vs : List Value} (d : Nat) : ∀ (ts : List Ty) (fs : List Field) (k : Nat) (us' vs' : List Value), fldT P k ts fs = true → us.drop k = us' → vs.drop k = vs' → TypedL ts us' → TypedL ts vs' →
    ∃ b : Bool, (Op.eqFields (d + 1) us.toArray vs.toArray fs).run P w = .ok b w ∧ (b = true ↔ us' = vs') := by
  intro ts
  induction ts with
  | nil =>
    intro fs k us' vs' hf h1 h2 t1 t2
    cases fs with
    | cons => simp [fldT] at hf
    | nil =>
      cases us' with
      | cons => exact t1.elim
      | nil =>
        cases vs' with
        | cons => exact t2.elim
        | nil => exact ⟨true, by simp [Op.eqFields], by simp⟩
  | cons T ts ih =>
    intro fs k us' vs' hf h1 h2 t1 t2
    cases fs with
    | nil => cases T <;> simp [fldT] at hf
    | cons f fs =>
      cases us' with
      | nil => cases T <;> exact t1.elim
      | cons u us' =>
        cases vs' with
        | nil => cases T <;> exact t2.elim
        | cons v vs' =>
          obtain ⟨hu, hur⟩ := drop_at h1
          obtain ⟨hv, hvr⟩ := drop_at h2
          have hua : us.toArray[k]? = some u := by simpa using hu
          have hva : vs.toArray[k]? = some v := by simpa using hv
          cases T with
          | int q =>
            simp only [fldT, Bool.and_eq_true, decide_eq_true_eq] at hf
            obtain ⟨⟨f1, f2, f3⟩, f4⟩ := hf
            have f2' : f.offset = k := Nat.eq_of_beq_eq_true f2
            split at f3
            · rename_i q' hq
              cases u with
              | int ku x =>
                cases v with
                | int kv y =>
                  obtain ⟨rfl, t1⟩ := t1
                  obtain ⟨rfl, t2⟩ := t2
                  have p1 : (Go.part f.type us.toArray f.offset).run P w = .ok (.int q x) w := by simp [Go.part, isAgg, run_underlying hq, f2', hu]
                  have p2 : (Go.part f.type vs.toArray f.offset).run P w = .ok (.int q y) w := by simp [Go.part, isAgg, run_underlying hq, f2', hv]
                  have p3 := run_equalIn_int (P := P) w d f.type q q' x y hq
                  obtain ⟨b, g1, g2⟩ := ih fs (k + 1) us' vs' f4 hur hvr t1 t2
                  by_cases e : x = y
                  · subst e
                    refine ⟨b, ?_, by simp [g2]⟩
                    simp only [Op.eqFields, f1, ne_eq, not_false_eq_true, if_true, Sem.run_bind, p1, p2, p3, Result.andThen_ok]
                    simpa using g1
                  · refine ⟨false, ?_, by simp [e]⟩
                    have e2 : (x == y) = false := beq_eq_false_iff_ne.2 e
                    simp only [Op.eqFields, f1, ne_eq, not_false_eq_true, if_true, Sem.run_bind, p1, p2, p3, Result.andThen_ok, e2]
                    simp
                | _ => exact t2.elim
              | _ => exact t1.elim
            · cases f3
          | bool =>
            simp only [fldT, Bool.and_eq_true, decide_eq_true_eq] at hf
            obtain ⟨⟨f1, f2, f3⟩, f4⟩ := hf
            have f2' : f.offset = k := Nat.eq_of_beq_eq_true f2
            split at f3
            · rename_i hq
              cases u with
              | bool x =>
                cases v with
                | bool y =>
                  have p1 : (Go.part f.type us.toArray f.offset).run P w = .ok (.bool x) w := by simp [Go.part, isAgg, run_underlying hq, f2', hu]
                  have p2 : (Go.part f.type vs.toArray f.offset).run P w = .ok (.bool y) w := by simp [Go.part, isAgg, run_underlying hq, f2', hv]
                  have p3 := run_equalIn_bool' (P := P) w d f.type x y hq
                  obtain ⟨b, g1, g2⟩ := ih fs (k + 1) us' vs' f4 hur hvr t1 t2
                  by_cases e : x = y
                  · subst e
                    refine ⟨b, ?_, by simp [g2]⟩
                    simp only [Op.eqFields, f1, ne_eq, not_false_eq_true, if_true, Sem.run_bind, p1, p2, p3, Result.andThen_ok]
                    simpa using g1
                  · refine ⟨false, ?_, by simp [e]⟩
                    have e2 : (x == y) = false := beq_eq_false_iff_ne.2 e
                    simp only [Op.eqFields, f1, ne_eq, not_false_eq_true, if_true, Sem.run_bind, p1, p2, p3, Result.andThen_ok, e2]
                    simp
                | _ => exact t2.elim
              | _ => exact t1.elim
            · cases f3
          | sl => exact t1.elim
          | pair => exact t1.elim
          | unit => exact t1.elim
theorem eqt_struct {P : Program} {t : TypeId} {fs : Array Field} {ts : List Ty} (hu : P.underlying t = some (.struct fs)) (hp : P.stoodInHeld t = false) (hm : P.eqGuardType P.depth t = false) (hf : fldT P 0 ts fs.toList = true) : EqtOK P t ts := by
  intro op x y us vs w hop t1 t2
  have hfo : P.fieldsOf t = fs := by simp [Program.fieldsOf, hu]
  obtain ⟨b, g1, g2⟩ := eqFields_ok (P := P) (w := w) 9998 ts fs.toList 0 us vs hf rfl rfl t1 t2
  have ha := run_equalIn_agg (P := P) w 9999 t us.toArray vs.toArray (by rw [hfo]; exact hu) hp
  rw [hfo, g1] at ha
  refine ⟨b, run_eqGuard_agg w op t x y _ _ hm, g2, ?_⟩
  rcases hop with rfl | rfl
  · rw [run_eql_struct, ha]; simp [Result.andThen]
  · rw [run_neq_struct, ha]; simp [Result.andThen]
end GoV
