import Derived.Test.YthamljpomhjepaaP10
import Derived.Test.YthamljpomhjepaaR3
set_option linter.unusedVariables false
set_option linter.unusedSimpArgs false
namespace Go.Proofs.Ythamljpomhjepaa
open Go.Ab
attribute [local irreducible] Abs CallK CallR CallsTo
set_option linter.unusedSimpArgs false

/-- How many steps there are. -/
def stN (step left : Int) : Nat := (left / step + 1).toNat
theorem stN_iff {step left : Int} (h1 : 1 ≤ step) (h0 : 0 ≤ left) (i : Nat) : step * i ≤ left ↔ i < stN step left := by
  have h := Int.le_ediv_iff_mul_le (a := (i : Int)) (b := left) (c := step) (by omega)
  rw [Int.mul_comm step]
  have hq : 0 ≤ left / step := Int.ediv_nonneg h0 (by omega)
  unfold stN
  omega
theorem rng_eq (step left : Int) : rng step left = (List.range (stN step left)).map fun (i : Nat) => step * (i : Int) := rfl
def s2 (step : Int) (i : Nat) : List (List Int) := (List.range i).map fun (j : Nat) => [step * (j : Int), 100 - step * (j : Int)]
theorem s2_succ (step : Int) (i : Nat) : s2 step (i + 1) = s2 step i ++ [[step * (i : Int), 100 - step * (i : Int)]] := by simp [s2, List.range_succ]
theorem s2_stm (step : Int) : s2 step (stN step 100) = stm 2 step := by
  unfold stm s2
  simp only [srch, rng_eq, Nat.add_one_sub_one]
  induction (List.range (stN step 100)) with
  | nil => rfl
  | cons a l ih => simp at ih ⊢; exact ih

set_option maxRecDepth 100000 in
set_option maxHeartbeats 4000000 in
theorem stat2_ok (step : Int) (h1 : 1 ≤ step) (h2 : step ≤ 100) : CallsTo Try.prog 53 [i64 2, i64 step] (intss (stm 2 step)) := by
  have hN : stN step 100 ≤ 101 := by
    have : (100 : Int) / step ≤ 100 := Int.ediv_le_self _ (by decide)
    unfold stN; omega
  refine calls_abs Try.func53 Try.ntmps53 Try.results53 Try.call53 rfl (by simp) fun w0 S0 M0 => ?_
  repeat' (first
      | refine abs_seq ?_
      | refine abs_block ?_
      | refine abs_skip ?_
      | refine abs_exit ?_
      | refine abs_ret ?_
      | ((first | refine abs_region fun K hK => ?_ | refine abs_draw Try.ty.mixed (by kernel_rfl) fun K hK => ?_ | refine abs_if ?_); simp only [go_sem, bas, basL, Nat.reduceAdd, Nat.reduceSub, Nat.reduceMul, Nat.reduceLT, Nat.reduceLeDiff, Nat.reduceEqDiff, Nat.reduceBEq, Int.reduceLT, Int.reduceLE, Int.reduceToNat, Int.reduceAdd, Int.reduceSub, Int.reduceMul, Int.reduceNeg, Int.reduceEq, reduceCtorEq, eq_self, ne_eq, not_false_eq_true, if_true, reduceIte])
      | (refine hK _ ?_; clear hK K; simp only [thenQ, blockQ, if_true, Nat.reduceEqDiff, reduceIte])
      | (show thenQ _ _ _ _; simp only [thenQ, blockQ, if_true, Nat.reduceEqDiff, reduceIte])
      | (show blockQ _ _ _ _; simp only [thenQ, blockQ, if_true, Nat.reduceEqDiff, reduceIte])
      | (show retQ _ _ _ _ _; simp only [go_sem, bas, basL, Nat.reduceAdd, Nat.reduceSub, Nat.reduceMul, Nat.reduceLT, Nat.reduceLeDiff, Nat.reduceEqDiff, Nat.reduceBEq, Int.reduceLT, Int.reduceLE, Int.reduceToNat, Int.reduceAdd, Int.reduceSub, Int.reduceMul, Int.reduceNeg, Int.reduceEq, reduceCtorEq, eq_self, ne_eq, not_false_eq_true, if_true, reduceIte])
      | (intro hg; first | (exfalso; omega) | (exfalso; contradiction) | skip)
      | apply And.intro
      | (with_reducible rfl)
      | (clear hK; omega)
      | omega)
  refine abs_adopt 5 22 1 rfl ?_
  refine abs_loopN (ι := Nat) (fun i => [(0, i64 2), (1, i64 step), (5, .own 0), (6, i64 (step * i))]) (fun _ => []) (fun i => [⟨true, 22, 1, (s2 step i).map ints⟩])
    (fun i => i ≤ stN step 100) (fun i => stN step 100 - i) (fun _ _ => ⟨rfl, rfl⟩) 0 (Nat.zero_le _) (le_of rfl (by try simp only [go_sem, bas, basL, Nat.reduceAdd, Nat.reduceSub, Nat.reduceMul, Nat.reduceLT, Nat.reduceLeDiff, Nat.reduceEqDiff, Nat.reduceBEq, Int.reduceLT, Int.reduceLE, Int.reduceToNat, Int.reduceAdd, Int.reduceSub, Int.reduceMul, Int.reduceNeg, Int.reduceEq, reduceCtorEq, eq_self, ne_eq, not_false_eq_true, if_true, reduceIte]; try simp) ⟨_, rfl⟩ ⟨_, rfl⟩) (fun i hi => ?_)
  have hiff := stN_iff h1 (left := 100) (by decide) i
  have h0 : 0 ≤ step * (i : Int) := Int.mul_nonneg (by omega) (by omega)
  have hl : (s2 step i).length = i := by simp [s2]
  simp only [go_sem, bas, basL, Nat.reduceAdd, Nat.reduceSub, Nat.reduceMul, Nat.reduceLT, Nat.reduceLeDiff, Nat.reduceEqDiff, Nat.reduceBEq, Int.reduceLT, Int.reduceLE, Int.reduceToNat, Int.reduceAdd, Int.reduceSub, Int.reduceMul, Int.reduceNeg, Int.reduceEq, reduceCtorEq, eq_self, ne_eq, not_false_eq_true, if_true, reduceIte]
  repeat' (first
      | refine abs_seq ?_
      | refine abs_block ?_
      | refine abs_skip ?_
      | refine abs_exit ?_
      | refine abs_ret ?_
      | ((first | refine abs_region fun K hK => ?_ | refine abs_draw Try.ty.mixed (by kernel_rfl) fun K hK => ?_ | refine abs_if ?_); simp only [go_sem, bas, basL, Nat.reduceAdd, Nat.reduceSub, Nat.reduceMul, Nat.reduceLT, Nat.reduceLeDiff, Nat.reduceEqDiff, Nat.reduceBEq, Int.reduceLT, Int.reduceLE, Int.reduceToNat, Int.reduceAdd, Int.reduceSub, Int.reduceMul, Int.reduceNeg, Int.reduceEq, reduceCtorEq, eq_self, ne_eq, not_false_eq_true, if_true, reduceIte])
      | (refine hK _ ?_; clear hK K; simp only [thenQ, blockQ, if_true, Nat.reduceEqDiff, reduceIte])
      | (show thenQ _ _ _ _; simp only [thenQ, blockQ, if_true, Nat.reduceEqDiff, reduceIte])
      | (show blockQ _ _ _ _; simp only [thenQ, blockQ, if_true, Nat.reduceEqDiff, reduceIte])
      | (show retQ _ _ _ _ _; simp only [go_sem, bas, basL, Nat.reduceAdd, Nat.reduceSub, Nat.reduceMul, Nat.reduceLT, Nat.reduceLeDiff, Nat.reduceEqDiff, Nat.reduceBEq, Int.reduceLT, Int.reduceLE, Int.reduceToNat, Int.reduceAdd, Int.reduceSub, Int.reduceMul, Int.reduceNeg, Int.reduceEq, reduceCtorEq, eq_self, ne_eq, not_false_eq_true, if_true, reduceIte])
      | (intro hg; first | (exfalso; omega) | (exfalso; contradiction) | skip)
      | apply And.intro
      | (with_reducible rfl)
      | (clear hK; omega)
      | omega)
  · exact ⟨i + 1, by omega, by omega, le_of rfl (by try simp only [go_sem, bas, basL, Nat.reduceAdd, Nat.reduceSub, Nat.reduceMul, Nat.reduceLT, Nat.reduceLeDiff, Nat.reduceEqDiff, Nat.reduceBEq, Int.reduceLT, Int.reduceLE, Int.reduceToNat, Int.reduceAdd, Int.reduceSub, Int.reduceMul, Int.reduceNeg, Int.reduceEq, reduceCtorEq, eq_self, ne_eq, not_false_eq_true, if_true, reduceIte]; simp [Int.mul_add]) ⟨_, rfl⟩ ⟨[], by simp [s2_succ]⟩⟩
  · obtain rfl : i = stN step 100 := by omega
    rw [s2_stm]

def s3in (step : Int) (i j : Nat) : List (List Int) := (List.range j).map fun (b : Nat) => [step * (i : Int), step * (b : Int), 100 - step * (i : Int) - step * (b : Int)]
def s3 (step : Int) (i : Nat) : List (List Int) := (List.range i).flatMap fun (a : Nat) => s3in step a (stN step (100 - step * (a : Int)))
theorem s3in_succ (step : Int) (i j : Nat) : s3in step i (j + 1) = s3in step i j ++ [[step * (i : Int), step * (j : Int), 100 - step * (i : Int) - step * (j : Int)]] := by simp [s3in, List.range_succ]
theorem s3_succ (step : Int) (i : Nat) : s3 step (i + 1) = s3 step i ++ s3in step i (stN step (100 - step * (i : Int))) := by simp [s3, List.range_succ]
theorem s3_stm (step : Int) : s3 step (stN step 100) = stm 3 step := by
  have e : ∀ a : Int, (rng step (100 - a)).flatMap (fun n => srch step 0 ([] ++ [a] ++ [n]) (100 - a - n)) = (List.range (stN step (100 - a))).map fun (b : Nat) => [a, step * (b : Int), 100 - a - step * (b : Int)] := by
    intro a
    rw [rng_eq]
    induction (List.range (stN step (100 - a))) with
    | nil => rfl
    | cons x l ih => simp [srch] at ih ⊢; exact ih
  unfold stm s3
  simp only [srch, Nat.add_one_sub_one, Nat.reduceSub]
  have e2 : (rng step 100).flatMap (fun n => (rng step (100 - n)).flatMap fun n_1 => [[] ++ [n] ++ [n_1] ++ [100 - n - n_1]]) = (List.range (stN step 100)).flatMap fun (a : Nat) => s3in step a (stN step (100 - step * (a : Int))) := by
    rw [rng_eq, List.flatMap_map]
    congr 1
    funext a
    have := e (step * (a : Int))
    simp only [srch] at this
    rw [this]
    rfl
  exact e2.symm

set_option maxRecDepth 100000 in
set_option maxHeartbeats 4000000 in
theorem stat3_ok (step : Int) (h1 : 1 ≤ step) (h2 : step ≤ 100) : CallsTo Try.prog 53 [i64 3, i64 step] (intss (stm 3 step)) := by
  have hN : ∀ left : Int, 0 ≤ left → left ≤ 100 → stN step left ≤ 101 := fun left a b => by
    have : left / step ≤ left := Int.ediv_le_self _ a
    unfold stN; omega
  have hL : ∀ i, i ≤ stN step 100 → (s3 step i).length ≤ 101 * i := by
    intro i
    induction i with
    | zero => intro _; simp [s3]
    | succ i ih =>
      intro hi
      have h3 := (stN_iff h1 (left := 100) (by decide) i).2 (by omega)
      have h4 : 0 ≤ step * (i : Int) := Int.mul_nonneg (by omega) (by omega)
      have h5 := hN (100 - step * (i : Int)) (by omega) (by omega)
      have := ih (by omega)
      rw [s3_succ, List.length_append]
      have : (s3in step i (stN step (100 - step * (i : Int)))).length = stN step (100 - step * (i : Int)) := by simp [s3in]
      omega
  have hN1 := hN 100 (by decide) (by decide)
  refine calls_abs Try.func53 Try.ntmps53 Try.results53 Try.call53 rfl (by simp) fun w0 S0 M0 => ?_
  repeat' (first
      | refine abs_seq ?_
      | refine abs_block ?_
      | refine abs_skip ?_
      | refine abs_exit ?_
      | refine abs_ret ?_
      | ((first | refine abs_region fun K hK => ?_ | refine abs_draw Try.ty.mixed (by kernel_rfl) fun K hK => ?_ | refine abs_if ?_); simp only [go_sem, bas, basL, Nat.reduceAdd, Nat.reduceSub, Nat.reduceMul, Nat.reduceLT, Nat.reduceLeDiff, Nat.reduceEqDiff, Nat.reduceBEq, Int.reduceLT, Int.reduceLE, Int.reduceToNat, Int.reduceAdd, Int.reduceSub, Int.reduceMul, Int.reduceNeg, Int.reduceEq, reduceCtorEq, eq_self, ne_eq, not_false_eq_true, if_true, reduceIte])
      | (refine hK _ ?_; clear hK K; simp only [thenQ, blockQ, if_true, Nat.reduceEqDiff, reduceIte])
      | (show thenQ _ _ _ _; simp only [thenQ, blockQ, if_true, Nat.reduceEqDiff, reduceIte])
      | (show blockQ _ _ _ _; simp only [thenQ, blockQ, if_true, Nat.reduceEqDiff, reduceIte])
      | (show retQ _ _ _ _ _; simp only [go_sem, bas, basL, Nat.reduceAdd, Nat.reduceSub, Nat.reduceMul, Nat.reduceLT, Nat.reduceLeDiff, Nat.reduceEqDiff, Nat.reduceBEq, Int.reduceLT, Int.reduceLE, Int.reduceToNat, Int.reduceAdd, Int.reduceSub, Int.reduceMul, Int.reduceNeg, Int.reduceEq, reduceCtorEq, eq_self, ne_eq, not_false_eq_true, if_true, reduceIte])
      | (intro hg; first | (exfalso; omega) | (exfalso; contradiction) | skip)
      | apply And.intro
      | (with_reducible rfl)
      | (clear hK; omega)
      | omega)
  refine abs_adopt 5 22 1 rfl ?_
  refine abs_loopN (ι := Nat) (fun i => [(0, i64 3), (1, i64 step), (5, .own 0), (6, i64 (step * i))]) (fun _ => []) (fun i => [⟨true, 22, 1, (s3 step i).map ints⟩])
    (fun i => i ≤ stN step 100) (fun i => stN step 100 - i) (fun _ _ => ⟨rfl, rfl⟩) 0 (Nat.zero_le _) (le_of rfl (by try simp only [go_sem, bas, basL, Nat.reduceAdd, Nat.reduceSub, Nat.reduceMul, Nat.reduceLT, Nat.reduceLeDiff, Nat.reduceEqDiff, Nat.reduceBEq, Int.reduceLT, Int.reduceLE, Int.reduceToNat, Int.reduceAdd, Int.reduceSub, Int.reduceMul, Int.reduceNeg, Int.reduceEq, reduceCtorEq, eq_self, ne_eq, not_false_eq_true, if_true, reduceIte]; try simp) ⟨_, rfl⟩ ⟨_, rfl⟩) (fun i hi => ?_)
  have hiff := stN_iff h1 (left := 100) (by decide) i
  have h0 : 0 ≤ step * (i : Int) := Int.mul_nonneg (by omega) (by omega)
  have hl := hL i hi
  simp only [go_sem, bas, basL, Nat.reduceAdd, Nat.reduceSub, Nat.reduceMul, Nat.reduceLT, Nat.reduceLeDiff, Nat.reduceEqDiff, Nat.reduceBEq, Int.reduceLT, Int.reduceLE, Int.reduceToNat, Int.reduceAdd, Int.reduceSub, Int.reduceMul, Int.reduceNeg, Int.reduceEq, reduceCtorEq, eq_self, ne_eq, not_false_eq_true, if_true, reduceIte]
  repeat' (first
      | refine abs_seq ?_
      | refine abs_block ?_
      | refine abs_skip ?_
      | refine abs_exit ?_
      | refine abs_ret ?_
      | ((first | refine abs_region fun K hK => ?_ | refine abs_draw Try.ty.mixed (by kernel_rfl) fun K hK => ?_ | refine abs_if ?_); simp only [go_sem, bas, basL, Nat.reduceAdd, Nat.reduceSub, Nat.reduceMul, Nat.reduceLT, Nat.reduceLeDiff, Nat.reduceEqDiff, Nat.reduceBEq, Int.reduceLT, Int.reduceLE, Int.reduceToNat, Int.reduceAdd, Int.reduceSub, Int.reduceMul, Int.reduceNeg, Int.reduceEq, reduceCtorEq, eq_self, ne_eq, not_false_eq_true, if_true, reduceIte])
      | (refine hK _ ?_; clear hK K; simp only [thenQ, blockQ, if_true, Nat.reduceEqDiff, reduceIte])
      | (show thenQ _ _ _ _; simp only [thenQ, blockQ, if_true, Nat.reduceEqDiff, reduceIte])
      | (show blockQ _ _ _ _; simp only [thenQ, blockQ, if_true, Nat.reduceEqDiff, reduceIte])
      | (show retQ _ _ _ _ _; simp only [go_sem, bas, basL, Nat.reduceAdd, Nat.reduceSub, Nat.reduceMul, Nat.reduceLT, Nat.reduceLeDiff, Nat.reduceEqDiff, Nat.reduceBEq, Int.reduceLT, Int.reduceLE, Int.reduceToNat, Int.reduceAdd, Int.reduceSub, Int.reduceMul, Int.reduceNeg, Int.reduceEq, reduceCtorEq, eq_self, ne_eq, not_false_eq_true, if_true, reduceIte])
      | (intro hg; first | (exfalso; omega) | (exfalso; contradiction) | skip)
      | apply And.intro
      | (with_reducible rfl)
      | (clear hK; omega)
      | omega)
  · have hleft : 0 ≤ 100 - step * (i : Int) := by omega
    have hN2 := hN (100 - step * (i : Int)) hleft (by omega)
    refine abs_loopN (ι := Nat) (fun j => [(0, i64 3), (1, i64 step), (5, .own 0), (6, i64 (step * i)), (7, i64 (step * j))]) (fun _ => []) (fun j => [⟨true, 22, 1, (s3 step i ++ s3in step i j).map ints⟩])
      (fun j => j ≤ stN step (100 - step * (i : Int))) (fun j => stN step (100 - step * (i : Int)) - j) (fun _ _ => ⟨rfl, rfl⟩) 0 (Nat.zero_le _) (le_of rfl (by try simp only [go_sem, bas, basL, Nat.reduceAdd, Nat.reduceSub, Nat.reduceMul, Nat.reduceLT, Nat.reduceLeDiff, Nat.reduceEqDiff, Nat.reduceBEq, Int.reduceLT, Int.reduceLE, Int.reduceToNat, Int.reduceAdd, Int.reduceSub, Int.reduceMul, Int.reduceNeg, Int.reduceEq, reduceCtorEq, eq_self, ne_eq, not_false_eq_true, if_true, reduceIte]; try simp) ⟨_, rfl⟩ ⟨[], by simp [s3in]⟩) (fun j hj => ?_)
    have hjff := stN_iff h1 (left := 100 - step * (i : Int)) hleft j
    have h3 : 0 ≤ step * (j : Int) := Int.mul_nonneg (by omega) (by omega)
    have hjb : step * (j : Int) ≤ 100 - step * (i : Int) + step := by
      cases j with
      | zero => simp; omega
      | succ m =>
        have := (stN_iff h1 (left := 100 - step * (i : Int)) hleft m).2 (by omega)
        have e : step * ((m + 1 : Nat) : Int) = step * (m : Int) + step := by rw [Int.natCast_succ, Int.mul_add, Int.mul_one]
        omega
    have hl2 : (s3in step i j).length = j := by simp [s3in]
    have hl3 : (s3 step i ++ s3in step i j).length = (s3 step i).length + j := by simp [hl2]
    simp only [go_sem, bas, basL, Nat.reduceAdd, Nat.reduceSub, Nat.reduceMul, Nat.reduceLT, Nat.reduceLeDiff, Nat.reduceEqDiff, Nat.reduceBEq, Int.reduceLT, Int.reduceLE, Int.reduceToNat, Int.reduceAdd, Int.reduceSub, Int.reduceMul, Int.reduceNeg, Int.reduceEq, reduceCtorEq, eq_self, ne_eq, not_false_eq_true, if_true, reduceIte]
    repeat' (first
        | refine abs_seq ?_
        | refine abs_block ?_
        | refine abs_skip ?_
        | refine abs_exit ?_
        | refine abs_ret ?_
        | ((first | refine abs_region fun K hK => ?_ | refine abs_draw Try.ty.mixed (by kernel_rfl) fun K hK => ?_ | refine abs_if ?_); simp only [go_sem, bas, basL, Nat.reduceAdd, Nat.reduceSub, Nat.reduceMul, Nat.reduceLT, Nat.reduceLeDiff, Nat.reduceEqDiff, Nat.reduceBEq, Int.reduceLT, Int.reduceLE, Int.reduceToNat, Int.reduceAdd, Int.reduceSub, Int.reduceMul, Int.reduceNeg, Int.reduceEq, reduceCtorEq, eq_self, ne_eq, not_false_eq_true, if_true, reduceIte])
        | (refine hK _ ?_; clear hK K; simp only [thenQ, blockQ, if_true, Nat.reduceEqDiff, reduceIte])
        | (show thenQ _ _ _ _; simp only [thenQ, blockQ, if_true, Nat.reduceEqDiff, reduceIte])
        | (show blockQ _ _ _ _; simp only [thenQ, blockQ, if_true, Nat.reduceEqDiff, reduceIte])
        | (show retQ _ _ _ _ _; simp only [go_sem, bas, basL, Nat.reduceAdd, Nat.reduceSub, Nat.reduceMul, Nat.reduceLT, Nat.reduceLeDiff, Nat.reduceEqDiff, Nat.reduceBEq, Int.reduceLT, Int.reduceLE, Int.reduceToNat, Int.reduceAdd, Int.reduceSub, Int.reduceMul, Int.reduceNeg, Int.reduceEq, reduceCtorEq, eq_self, ne_eq, not_false_eq_true, if_true, reduceIte])
        | (intro hg; first | (exfalso; omega) | (exfalso; contradiction) | skip)
        | apply And.intro
        | (with_reducible rfl)
        | (clear hK; omega)
        | omega)
    · exact ⟨j + 1, by omega, by omega, le_of rfl (by try simp only [go_sem, bas, basL, Nat.reduceAdd, Nat.reduceSub, Nat.reduceMul, Nat.reduceLT, Nat.reduceLeDiff, Nat.reduceEqDiff, Nat.reduceBEq, Int.reduceLT, Int.reduceLE, Int.reduceToNat, Int.reduceAdd, Int.reduceSub, Int.reduceMul, Int.reduceNeg, Int.reduceEq, reduceCtorEq, eq_self, ne_eq, not_false_eq_true, if_true, reduceIte]; simp [Int.mul_add]) ⟨_, rfl⟩ ⟨[], by simp [s3in_succ]⟩⟩
    · obtain rfl : j = stN step (100 - step * (i : Int)) := by omega
      exact ⟨i + 1, by omega, by omega, le_of rfl (by try simp only [go_sem, bas, basL, Nat.reduceAdd, Nat.reduceSub, Nat.reduceMul, Nat.reduceLT, Nat.reduceLeDiff, Nat.reduceEqDiff, Nat.reduceBEq, Int.reduceLT, Int.reduceLE, Int.reduceToNat, Int.reduceAdd, Int.reduceSub, Int.reduceMul, Int.reduceNeg, Int.reduceEq, reduceCtorEq, eq_self, ne_eq, not_false_eq_true, if_true, reduceIte]; simp [Int.mul_add]) ⟨_, rfl⟩ ⟨[], by simp [s3_succ]⟩⟩
  · obtain rfl : i = stN step 100 := by omega
    rw [s3_stm]

theorem stat_ok (c step : Int) (hc : c = 2 ∨ c = 3) (h1 : 1 ≤ step) (h2 : step ≤ 100) : CallsTo Try.prog 53 [i64 c, i64 step] (intss (stm c.toNat step)) := by
  rcases hc with rfl | rfl
  · exact stat2_ok step h1 h2
  · exact stat3_ok step h1 h2

/-- The first that is worth most, from the first one on. -/
theorem bst_one {α : Type} [Inhabited α] (w : α → Int) (l : List α) : bst w l 1 = (nth l 0, w (nth l 0)) := by simp [bst]
theorem bst_val {α : Type} [Inhabited α] (w : α → Int) (l : List α) : ∀ k, (bst w l (k + 1)).2 = w (bst w l (k + 1)).1
  | 0 => by simp [bst]
  | k + 1 => by
    rw [bst]
    split
    · rfl
    · exact bst_val w l k

set_option maxRecDepth 100000 in
set_option maxHeartbeats 4000000 in
theorem rbest_ok (b : List Int) (step : Int) (hb : Parts b) (hs : Step step) : CallsTo Try.prog 27 [ints b, i64 step] (ints (bestS (Hp b) b.length step).1) := by
  have p2 := hb.2.1
  have p3 := hb.2.2.1
  have q1 := stat_ok b.length step (by omega) hs.1 hs.2.1
  have q2 := stm_len (c := b.length) (step := step) p3 hs.1
  have q3 : ∀ x ∈ stm b.length step, Small x ∧ x.length = b.length := fun x hx => by
    have := stm_parts (c := b.length) (step := step) (by omega) hs.1 hx
    exact ⟨this.1.small, this.2⟩
  have q4 := List.length_pos_iff.2 (stm_ne (c := b.length) (step := step) hs.1)
  unfold bestS
  simp only [Int.toNat_natCast] at q1
  generalize stm b.length step = Z at *
  have q5 : ∀ i, i < Z.length → CallsTo Try.prog 23 [ints b, ints (nth Z i)] (i64 (Hp b (nth Z i))) := fun i hi => by
    have := q3 (nth Z i) (by rw [nth_eq Z i hi]; exact List.getElem_mem hi)
    exact hope_ok b _ hb.small this.1 (by omega)
  have q6 : ∀ j, 1 ≤ j → j ≤ Z.length → CallsTo Try.prog 23 [ints b, ints (bst (Hp b) Z j).1] (i64 (bst (Hp b) Z j).2) := fun j h1 h2 => by
    obtain ⟨m, rfl⟩ : ∃ m, j = m + 1 := ⟨j - 1, by omega⟩
    rw [bst_val]
    have := q3 _ (bst_mem (w := Hp b) (l := Z) m (by omega))
    exact hope_ok b _ hb.small this.1 (by omega)
  have e0 : (bst (Hp b) Z 1).1 = nth Z 0 := by rw [bst_one]
  refine calls_abs Try.func27 Try.ntmps27 Try.results27 Try.call27 rfl (by simp) fun w0 S0 M0 => ?_
  repeat' (first
      | refine abs_seq ?_
      | refine abs_block ?_
      | refine abs_skip ?_
      | refine abs_exit ?_
      | refine abs_ret ?_
      | ((first | refine abs_region fun K hK => ?_ | refine abs_draw Try.ty.mixed (by kernel_rfl) fun K hK => ?_ | refine abs_if ?_); simp only [go_sem, bas, basL, Nat.reduceAdd, Nat.reduceSub, Nat.reduceMul, Nat.reduceLT, Nat.reduceLeDiff, Nat.reduceEqDiff, Nat.reduceBEq, Int.reduceLT, Int.reduceLE, Int.reduceToNat, Int.reduceAdd, Int.reduceSub, Int.reduceMul, Int.reduceNeg, Int.reduceEq, reduceCtorEq, eq_self, ne_eq, not_false_eq_true, if_true, reduceIte])
      | (refine hK _ ?_; clear hK K; simp only [thenQ, blockQ, if_true, Nat.reduceEqDiff, reduceIte])
      | (show thenQ _ _ _ _; simp only [thenQ, blockQ, if_true, Nat.reduceEqDiff, reduceIte])
      | (show blockQ _ _ _ _; simp only [thenQ, blockQ, if_true, Nat.reduceEqDiff, reduceIte])
      | (refine callK (q1) ?_; try simp only [go_sem, bas, basL, Nat.reduceAdd, Nat.reduceSub, Nat.reduceMul, Nat.reduceLT, Nat.reduceLeDiff, Nat.reduceEqDiff, Nat.reduceBEq, Int.reduceLT, Int.reduceLE, Int.reduceToNat, Int.reduceAdd, Int.reduceSub, Int.reduceMul, Int.reduceNeg, Int.reduceEq, reduceCtorEq, eq_self, ne_eq, not_false_eq_true, if_true, reduceIte])
      | (show retQ _ _ _ _ _; simp only [go_sem, bas, basL, Nat.reduceAdd, Nat.reduceSub, Nat.reduceMul, Nat.reduceLT, Nat.reduceLeDiff, Nat.reduceEqDiff, Nat.reduceBEq, Int.reduceLT, Int.reduceLE, Int.reduceToNat, Int.reduceAdd, Int.reduceSub, Int.reduceMul, Int.reduceNeg, Int.reduceEq, reduceCtorEq, eq_self, ne_eq, not_false_eq_true, if_true, reduceIte])
      | (intro hg; first | (exfalso; omega) | (exfalso; contradiction) | skip)
      | apply And.intro
      | (with_reducible rfl)
      | (clear hK; omega)
      | omega)
  refine abs_loopN (ι := Nat) (fun j => [(0, ints b), (5, intss Z), (6, ints (bst (Hp b) Z j).1), (7, i64 j)]) (fun _ => []) (fun _ => [])
    (fun j => 1 ≤ j ∧ j ≤ Z.length) (fun j => Z.length - j) (fun _ _ => ⟨rfl, rfl⟩) 1 ⟨Nat.le_refl _, q4⟩ (le_of rfl (by try simp only [go_sem, bas, basL, Nat.reduceAdd, Nat.reduceSub, Nat.reduceMul, Nat.reduceLT, Nat.reduceLeDiff, Nat.reduceEqDiff, Nat.reduceBEq, Int.reduceLT, Int.reduceLE, Int.reduceToNat, Int.reduceAdd, Int.reduceSub, Int.reduceMul, Int.reduceNeg, Int.reduceEq, reduceCtorEq, eq_self, ne_eq, not_false_eq_true, if_true, reduceIte]; try simp [e0]) ⟨_, rfl⟩ ⟨_, rfl⟩) (fun j hj => ?_)
  simp only [go_sem, bas, basL, Nat.reduceAdd, Nat.reduceSub, Nat.reduceMul, Nat.reduceLT, Nat.reduceLeDiff, Nat.reduceEqDiff, Nat.reduceBEq, Int.reduceLT, Int.reduceLE, Int.reduceToNat, Int.reduceAdd, Int.reduceSub, Int.reduceMul, Int.reduceNeg, Int.reduceEq, reduceCtorEq, eq_self, ne_eq, not_false_eq_true, if_true, reduceIte]
  repeat' (first
      | refine abs_seq ?_
      | refine abs_block ?_
      | refine abs_skip ?_
      | refine abs_exit ?_
      | refine abs_ret ?_
      | ((first | refine abs_region fun K hK => ?_ | refine abs_draw Try.ty.mixed (by kernel_rfl) fun K hK => ?_ | refine abs_if ?_); simp only [go_sem, bas, basL, Nat.reduceAdd, Nat.reduceSub, Nat.reduceMul, Nat.reduceLT, Nat.reduceLeDiff, Nat.reduceEqDiff, Nat.reduceBEq, Int.reduceLT, Int.reduceLE, Int.reduceToNat, Int.reduceAdd, Int.reduceSub, Int.reduceMul, Int.reduceNeg, Int.reduceEq, reduceCtorEq, eq_self, ne_eq, not_false_eq_true, if_true, reduceIte])
      | (refine hK _ ?_; clear hK K; simp only [thenQ, blockQ, if_true, Nat.reduceEqDiff, reduceIte])
      | (show thenQ _ _ _ _; simp only [thenQ, blockQ, if_true, Nat.reduceEqDiff, reduceIte])
      | (show blockQ _ _ _ _; simp only [thenQ, blockQ, if_true, Nat.reduceEqDiff, reduceIte])
      | ((first | refine callK (q5 j (by omega)) ?_ | refine callK (q6 j hj.1 hj.2) ?_); try simp only [go_sem, bas, basL, Nat.reduceAdd, Nat.reduceSub, Nat.reduceMul, Nat.reduceLT, Nat.reduceLeDiff, Nat.reduceEqDiff, Nat.reduceBEq, Int.reduceLT, Int.reduceLE, Int.reduceToNat, Int.reduceAdd, Int.reduceSub, Int.reduceMul, Int.reduceNeg, Int.reduceEq, reduceCtorEq, eq_self, ne_eq, not_false_eq_true, if_true, reduceIte])
      | (show retQ _ _ _ _ _; simp only [go_sem, bas, basL, Nat.reduceAdd, Nat.reduceSub, Nat.reduceMul, Nat.reduceLT, Nat.reduceLeDiff, Nat.reduceEqDiff, Nat.reduceBEq, Int.reduceLT, Int.reduceLE, Int.reduceToNat, Int.reduceAdd, Int.reduceSub, Int.reduceMul, Int.reduceNeg, Int.reduceEq, reduceCtorEq, eq_self, ne_eq, not_false_eq_true, if_true, reduceIte])
      | (intro hg; first | (exfalso; omega) | (exfalso; contradiction) | skip)
      | apply And.intro
      | (with_reducible rfl)
      | (clear hK; omega)
      | omega)
  · have e := bst_yes (w := Hp b) (l := Z) (k := j) (.inr hg)
    exact ⟨j + 1, by omega, by omega, le_of rfl (by try simp only [go_sem, bas, basL, Nat.reduceAdd, Nat.reduceSub, Nat.reduceMul, Nat.reduceLT, Nat.reduceLeDiff, Nat.reduceEqDiff, Nat.reduceBEq, Int.reduceLT, Int.reduceLE, Int.reduceToNat, Int.reduceAdd, Int.reduceSub, Int.reduceMul, Int.reduceNeg, Int.reduceEq, reduceCtorEq, eq_self, ne_eq, not_false_eq_true, if_true, reduceIte]; try simp [e]) ⟨_, rfl⟩ ⟨_, rfl⟩⟩
  · have e := bst_no (w := Hp b) (l := Z) (k := j) (by omega) hg
    exact ⟨j + 1, by omega, by omega, le_of rfl (by try simp only [go_sem, bas, basL, Nat.reduceAdd, Nat.reduceSub, Nat.reduceMul, Nat.reduceLT, Nat.reduceLeDiff, Nat.reduceEqDiff, Nat.reduceBEq, Int.reduceLT, Int.reduceLE, Int.reduceToNat, Int.reduceAdd, Int.reduceSub, Int.reduceMul, Int.reduceNeg, Int.reduceEq, reduceCtorEq, eq_self, ne_eq, not_false_eq_true, if_true, reduceIte]; try simp [e]) ⟨_, rfl⟩ ⟨_, rfl⟩⟩
  · obtain rfl : j = Z.length := by omega
    rfl
end Go.Proofs.Ythamljpomhjepaa
