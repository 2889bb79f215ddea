import Derived.Test.YthamljpomhjepaaP14
import Derived.Test.YthamljpomhjepaaR2
set_option linter.unusedVariables false
set_option linter.unusedSimpArgs false
namespace Go.Proofs.Ythamljpomhjepaa
open Go.Ab
attribute [local irreducible] Abs CallK CallR CallsTo
set_option linter.unusedSimpArgs false

/-- The first that is worth most, one after the other. -/
def bstL {α : Type} (w : α → Int) : List α → α × Int → α × Int
  | [], p => p
  | x :: xs, p => match decide (p.2 < w x) with
    | true => bstL w xs (x, w x)
    | false => bstL w xs p
def bstN {α : Type} (w : α → Int) (y : α) (p : α × Int) : α × Int := if p.2 < w y then (y, w y) else p
theorem bstL_append {α : Type} (w : α → Int) (y : α) : ∀ (xs : List α) (p : α × Int), bstL w (xs ++ [y]) p = bstN w y (bstL w xs p)
  | [], p => by
    by_cases h : p.2 < w y
    · simp only [List.nil_append, bstL, bstN, h, decide_true, if_true]
    · simp only [List.nil_append, bstL, bstN, h, decide_false, if_false]
  | x :: xs, p => by
    by_cases h : p.2 < w x
    · simp only [List.cons_append, bstL, h, decide_true]; exact bstL_append w y xs _
    · simp only [List.cons_append, bstL, h, decide_false]; exact bstL_append w y xs _
theorem bst_fold {α : Type} [Inhabited α] (w : α → Int) (x : α) (xs : List α) : ∀ k, k ≤ xs.length → bst w (x :: xs) (k + 1) = bstL w (xs.take k) (x, w x)
  | 0, _ => by simp [bst, bstL, nth]
  | k + 1, hk => by
    have ih := bst_fold w x xs k (by omega)
    have hn : nth (x :: xs) (k + 1) = xs[k] := by rw [nth_eq _ _ (by simp; omega)]; simp
    rw [List.take_succ_eq_append_getElem (by omega), bstL_append, ← ih, bst, hn]
    by_cases h : (bst w (x :: xs) (k + 1)).2 < w xs[k]
    · rw [if_pos (.inr h), bstN, if_pos h]
    · rw [if_neg (by intro h'; rcases h' with h' | h'; omega; exact h h'), bstN, if_neg h]
theorem bestS_fold {w : List Int → Int} {c : Nat} {step : Int} {x : List Int} {xs : List (List Int)} (h : stm c step = x :: xs) : bestS w c step = bstL w xs (x, w x) := by
  unfold bestS
  rw [h]
  show bst w (x :: xs) (xs.length + 1) = _
  rw [bst_fold w x xs xs.length (Nat.le_refl _), List.take_length]

theorem stm_cons (c : Nat) (step : Int) (h : (stm c step).isEmpty = false) : stm c step = (stm c step).headD [] :: (stm c step).tail := by
  cases hs : stm c step with
  | nil => rw [hs] at h; cases h
  | cons x xs => rfl
theorem bestS_eval (w : List Int → Int) (c : Nat) (step : Int) (h : (stm c step).isEmpty = false) : bestS w c step = bstL w (stm c step).tail ((stm c step).headD [], w ((stm c step).headD [])) := bestS_fold (stm_cons c step h)

theorem kn_best : bestS (Hp [60, 30, 10]) 3 25 = ([50, 25, 25], Hp [60, 30, 10] [50, 25, 25]) := by
  rw [bestS_eval _ _ _ (by decide +kernel)]
  decide +kernel

theorem bstL_app {α : Type} (w : α → Int) : ∀ (xs ys : List α) (p : α × Int), bstL w (xs ++ ys) p = bstL w ys (bstL w xs p)
  | [], ys, p => rfl
  | x :: xs, ys, p => by
    by_cases h : p.2 < w x
    · simp only [List.cons_append, bstL, h, decide_true]; exact bstL_app w xs ys _
    · simp only [List.cons_append, bstL, h, decide_false]; exact bstL_app w xs ys _
/-- Those of all parts whose first part is one of these. -/
def chk (a n : Nat) : List (List Int) := (List.range' a n).flatMap fun (i : Nat) => srch 1 1 [1 * (i : Int)] (100 - 1 * (i : Int))
theorem stm31 : stm 3 1 = chk 0 8 ++ chk 8 8 ++ chk 16 9 ++ chk 25 10 ++ chk 35 12 ++ chk 47 14 ++ chk 61 40 := by
  have e : stm 3 1 = (List.range' 0 101).flatMap fun (i : Nat) => srch 1 1 [1 * (i : Int)] (100 - 1 * (i : Int)) := by
    show (rng 1 100).flatMap (fun n => srch 1 1 ([] ++ [n]) (100 - n)) = _
    unfold rng
    rw [List.flatMap_map]
    rfl
  rw [e]
  have r : List.range' 0 101 = List.range' 0 8 ++ List.range' 8 8 ++ List.range' 16 9 ++ List.range' 25 10 ++ List.range' 35 12 ++ List.range' 47 14 ++ List.range' 61 40 := by decide
  rw [r]
  simp only [List.flatMap_append]
  rfl
theorem best31 (w : List Int → Int) : bestS w 3 1 = bstL w (chk 61 40) (bstL w (chk 47 14) (bstL w (chk 35 12) (bstL w (chk 25 10) (bstL w (chk 16 9) (bstL w (chk 8 8) (bstL w (chk 0 8) ([0, 0, 100], w [0, 0, 100]))))))) := by
  have h0 : chk 0 8 = [0, 0, 100] :: (chk 0 8).tail := by decide +kernel
  have hs : stm 3 1 = [0, 0, 100] :: ((chk 0 8).tail ++ chk 8 8 ++ chk 16 9 ++ chk 25 10 ++ chk 35 12 ++ chk 47 14 ++ chk 61 40) := by
    rw [stm31]
    conv => lhs; rw [h0]
    rfl
  rw [bestS_fold hs]
  have h1 : bstL w (chk 0 8) ([0, 0, 100], w [0, 0, 100]) = bstL w (chk 0 8).tail ([0, 0, 100], w [0, 0, 100]) := by
    conv => lhs; rw [h0]
    simp [bstL]
  rw [h1]
  simp only [bstL_app]
def w0 (p : List Int) : Int := daySum [[1, 3], [6, 2]] 0 p 2
def w1 (p : List Int) : Int := daySum [[1, 3], [6, 2]] 1 p 2
end Go.Proofs.Ythamljpomhjepaa
