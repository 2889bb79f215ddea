import Derived.Test.YtdbiiegohemahaaGreatDoorAbZ
set_option linter.unusedVariables false
set_option linter.unusedSimpArgs false
namespace Go.Ab
open Go.RowKit
/-!
  '==' at structs whose fields are whole numbers or structs of whole numbers.
-/
def FOk (P : Program) (k : Nat) (f : Field) (m : Nat) : Prop := f.name ≠ "_" ∧ f.offset = k ∧ ((intOfTy P f.type = some .i64 ∧ m = 1) ∨
  (P.underlying f.type = some (.struct (P.fieldsOf f.type)) ∧ (flatFields P 0 (P.fieldsOf f.type).toList && decide ((P.fieldsOf f.type).toList.length = m)) = true ∧ P.stoodInHeld f.type = false ∧ aggO P f.type = some true ∧ szOf P f.type = m ∧ m ≠ 0))
def FsOk (P : Program) : Nat → List Field → Nat → Prop
  | k, [], n => k = n
  | k, f :: fs, n => ∃ m, FOk P k f m ∧ FsOk P (k + m) fs n
theorem extract_map (xs : List Int) (k m : Nat) : (xs.map (Value.int .i64)).toArray.extract k (k + m) = (((xs.drop k).take m).map (Value.int .i64)).toArray := by
  apply Array.ext'
  simp [List.map_drop, List.map_take, List.extract_eq_take_drop]
theorem drop_split (xs ys : List Int) (k m : Nat) : (xs.drop k = ys.drop k) ↔ ((xs.drop k).take m = (ys.drop k).take m ∧ xs.drop (k + m) = ys.drop (k + m)) := by
  constructor
  · intro h; rw [h]; refine ⟨rfl, ?_⟩; rw [← List.drop_drop, ← List.drop_drop, h]
  · rintro ⟨h1, h2⟩
    rw [← List.take_append_drop m (xs.drop k), ← List.take_append_drop m (ys.drop k), h1, List.drop_drop, List.drop_drop, h2]
theorem FsOk.le {P : Program} : ∀ (fs : List Field) (k n : Nat), FsOk P k fs n → k ≤ n
  | [], k, n, h => Nat.le_of_eq h
  | f :: fs, k, n, ⟨m, _, h⟩ => by have := FsOk.le fs (k + m) n h; omega
theorem eqFields_mix {P : Program} (d : Nat) (xs ys : List Int) (w : World) (hx : xs.length = ys.length) : ∀ (fs : List Field) (k : Nat), FsOk P k fs xs.length →
    (Op.eqFields (d + 2) (xs.map (Value.int .i64)).toArray (ys.map (Value.int .i64)).toArray fs).run P w = .ok (decide (xs.drop k = ys.drop k)) w
  | [], k, h => by
    have h : k = xs.length := h
    simp [Op.eqFields, List.drop_eq_nil_of_le (Nat.le_of_eq h.symm), List.drop_eq_nil_of_le (Nat.le_of_eq (h.trans hx).symm)]
  | f :: fs, k, ⟨m, ⟨hn, ho, hk⟩, hr⟩ => by
    have ih := eqFields_mix d xs ys w hx fs (k + m) hr
    have hle := FsOk.le fs _ _ hr
    have hs := drop_split xs ys k m
    rcases hk with ⟨hu, rfl⟩ | ⟨hu, hf, hp, hag, hsz, hm0⟩
    · have hu := intOf_u hu
      have hag : aggO P f.type = some false := by unfold aggO; rw [hu]
      have hxk : k < xs.length := by omega
      have hyk : k < ys.length := by omega
      have p1 := run_part_int hag xs k hxk w
      have p2 := run_part_int hag ys k hyk w
      have p3 : ∀ a b : Int, (Op.equalIn (d + 2) f.type (.int .i64 a) (.int .i64 b)).run P w = .ok (a == b) w := fun a b => by
        simp [Op.equalIn, run_underlying hu]
      simp only [Op.eqFields, hn, ne_eq, not_false_eq_true, if_true, Sem.run_bind, ho, p1, p2, p3, Result.andThen_ok]
      have hd : (xs.drop k = ys.drop k) = (xs[k] = ys[k] ∧ xs.drop (k + 1) = ys.drop (k + 1)) := by
        rw [List.drop_eq_getElem_cons hxk, List.drop_eq_getElem_cons hyk, List.cons.injEq]
      simp only [hd]
      by_cases hxy : xs[k] = ys[k]
      · simp [hxy, ih]
      · simp [hxy]
    · simp only [Bool.and_eq_true, decide_eq_true_eq] at hf
      have hz : szOf P f.type ≠ 0 := by rw [hsz]; exact hm0
      have p : ∀ zs : List Int, (part f.type (zs.map (Value.int .i64)).toArray k).run P w = .ok (.agg (((zs.drop k).take m).map (Value.int .i64)).toArray) w := fun zs => by
        simp only [part, Sem.run_bind, aggO_run hag, Result.andThen_ok, if_true, run_sizeOf hz, Sem.run_pure, hsz, extract_map]
      have l1 : ((xs.drop k).take m).length = m := by simp; omega
      have l2 : ((ys.drop k).take m).length = m := by simp; omega
      have p3 : (Op.equalIn (d + 2) f.type (.agg (((xs.drop k).take m).map (Value.int .i64)).toArray) (.agg (((ys.drop k).take m).map (Value.int .i64)).toArray)).run P w = .ok (decide ((xs.drop k).take m = (ys.drop k).take m)) w := by
        have h := eqFields_ints (P := P) d ((xs.drop k).take m) ((ys.drop k).take m) w (P.fieldsOf f.type).toList 0 hf.1 (by omega) (by omega)
        rw [run_equalIn_struct w _ f.type _ _ hu hp, h]
        simp
      simp only [Op.eqFields, hn, ne_eq, not_false_eq_true, if_true, Sem.run_bind, ho, p, p3, Result.andThen_ok]
      by_cases hxy : (xs.drop k).take m = (ys.drop k).take m
      · simp [hxy, ih, hs]
      · simp [hxy, hs]
def fB (P : Program) (k : Nat) (f : Field) : Option Nat := if (f.name != "_" && f.offset == k) = true then (match P.underlying f.type with
  | some (.int .i64) => some 1
  | some (.struct fs) => if (flatFields P 0 fs.toList && !P.stoodInHeld f.type && decide (aggO P f.type = some true) && decide (szOf P f.type = fs.toList.length) && decide (fs.toList.length ≠ 0)) = true then some fs.toList.length else none
  | _ => none) else none
def fsB (P : Program) : Nat → List Field → Option Nat
  | k, [] => some k
  | k, f :: fs => match fB P k f with
    | some m => fsB P (k + m) fs
    | none => none
theorem fB_ok {P : Program} {k m : Nat} {f : Field} (h : fB P k f = some m) : FOk P k f m := by
  unfold fB at h
  split at h
  · rename_i h1
    simp only [Bool.and_eq_true, bne_iff_ne, ne_eq, beq_iff_eq] at h1
    split at h
    · rename_i hu
      cases h
      exact ⟨h1.1, h1.2, .inl ⟨by unfold intOfTy; rw [hu], rfl⟩⟩
    · rename_i fs hu
      split at h
      · rename_i h2
        cases h
        simp only [Bool.and_eq_true, Bool.not_eq_true', decide_eq_true_eq] at h2
        obtain ⟨⟨⟨⟨q1, q2⟩, q3⟩, q4⟩, q5⟩ := h2
        have hf : P.fieldsOf f.type = fs := by unfold Program.fieldsOf; rw [hu]
        refine ⟨h1.1, h1.2, .inr ⟨by rw [hf]; exact hu, ?_, q2, q3, q4, q5⟩⟩
        rw [hf]; simp [q1]
      · cases h
    · cases h
  · cases h
theorem fsB_ok {P : Program} {n : Nat} : ∀ (fs : List Field) (k : Nat), fsB P k fs = some n → FsOk P k fs n
  | [], k, h => by
    have : k = n := by simpa [fsB] using h
    exact this
  | f :: fs, k, h => by
    simp only [fsB] at h
    split at h
    · rename_i m hm
      exact ⟨m, fB_ok hm, fsB_ok fs _ h⟩
    · cases h
theorem eq_struct2 {P : Program} {t : TypeId} {n : Nat} (ht : P.underlying t = some (.struct (P.fieldsOf t))) (hf : FsOk P 0 (P.fieldsOf t).toList n) (hp : P.stoodInHeld t = false) (hg : P.eqGuardType P.depth t = false) : EqInts P t n := by
  have key : ∀ (xs ys : List Int) (w : World), xs.length = n → ys.length = n → (Op.equalIn 10000 t (.agg (xs.map (Value.int .i64)).toArray) (.agg (ys.map (Value.int .i64)).toArray)).run P w = .ok (decide (xs = ys)) w := fun xs ys w hx hy => by
    have h := eqFields_mix (P := P) 9997 xs ys w (by omega) (P.fieldsOf t).toList 0 (by rw [hx]; exact hf)
    rw [show (10000 : Nat) = 9997 + 2 + 1 from rfl, run_equalIn_struct w _ t _ _ ht hp, h]
    simp
  refine ⟨hg, fun xs ys w hx hy => ?_⟩
  have h := key xs ys w hx hy
  constructor
  · simp [binOp, Op.equal, Op.maxDepth, h]
  · simp [binOp, Op.equal, Op.maxDepth, h]
end Go.Ab
