/- The law ScoreGamed returns true for every input (a table of how many classes, a step, and rows of points, and two numbers), and leaves its arguments as they were.
Its conditions: none beyond those of the given row, which are the ones that the statement itself names. -/
import Derived.Test.YthamljpomhjepaaL8
import Derived.Test.YthamljpomhjepaaRx
set_option linter.unusedVariables false
set_option linter.unusedSimpArgs false
section
namespace Go.Proofs.Ythamljpomhjepaa
open Go.Ab
attribute [local irreducible] Abs CallK CallR CallsTo

/-- The first statement that earns most: no other earns more, and what earns as much comes behind it. -/
theorem gmB_best {Z P : List (List Int)} (i : Nat) {o : Nat} (ho : o < Z.length) :
    Ern (nth Z i) (nth P o) ≤ (gmB Z P i).2 ∧ (Ern (nth Z i) (nth P o) = (gmB Z P i).2 → (gmB Z P i).1 ≤ o) := by
  have hl := gmX_len Z
  obtain ⟨m, hm⟩ : ∃ m, Z.length = m + 1 := ⟨Z.length - 1, by omega⟩
  have hB : gmB Z P i = bst (gmW Z P i) (gmX Z) (m + 1) := by unfold gmB; rw [hl, hm]; rfl
  obtain ⟨j, hj, he, h1, h2⟩ := bst_first (gmW Z P i) (gmX Z) m
  have hv := bst_val (gmW Z P i) (gmX Z) m
  rw [hB]
  rw [he] at hv
  rw [hv, he]
  have ej : nth (gmX Z) j = (j : Int) := gmX_nth (by omega)
  have eo : gmW Z P i (nth (gmX Z) o) = Ern (nth Z i) (nth P o) := by rw [gmX_nth ho]; simp only [gmW, Int.toNat_natCast]
  have h3 := h1 o (by omega)
  rw [eo] at h3
  refine ⟨h3, fun e => ?_⟩
  rw [ej]
  rcases Nat.lt_or_ge o j with hlt | hge
  · have := h2 o hlt
    rw [eo] at this
    omega
  · omega
theorem gmA_no {Z P : List (List Int)} {i : Nat} (h : gmA Z P i = false) {o : Nat} (ho : o < Z.length) : Ern (nth Z i) (nth P o) ≤ Ern (nth Z i) (nth P i) := by
  have := (gmB_best (P := P) i ho).1
  unfold gmA gmO at h
  have := of_decide_eq_false h
  omega
theorem gmR_no {Z P : List (List Int)} (h : gmR Z P = none) {i : Nat} (hi : i < Z.length) : gmA Z P i = false := by
  unfold gmR at h
  have := List.find?_eq_none.1 h i (List.mem_range.2 hi)
  simpa using this
theorem stm_num {c : Nat} {step : Int} (h : 1 ≤ step) {i : Nat} (hi : i < (stm c step).length) : findI (fun x => decide (x = nth (stm c step) i)) (stm c step) = i := by
  refine findI_some hi (fun j hj => ?_) (decide_eq_true rfl)
  refine decide_eq_false fun e => ?_
  have := List.pairwise_iff_getElem.1 (stm_sorted c h) j i (by omega) hi hj
  rw [← nth_eq _ j (by omega), ← nth_eq _ i hi, e, before_irrefl] at this
  cases this

set_option maxRecDepth 100000 in
set_option maxHeartbeats 4000000 in
theorem number_ok (Z : List (List Int)) (l : List Int) (hZ : Z.length ≤ 1000000) (hr : ∀ i, i < Z.length → (nth Z i).length ≤ 1000000) : CallsTo Try.prog 55 [intss Z, ints l] (i64 (findI (fun x => decide (x = l)) Z)) := by
  refine calls_abs Try.func55 Try.ntmps55 Try.results55 Try.call55 rfl (by simp) fun w0 S0 M0 => ?_
  repeat' (first
      | refine abs_seq ?_
      | refine abs_block ?_
      | refine abs_skip ?_
      | refine abs_exit ?_
      | refine abs_ret ?_
      | ((first | refine abs_region fun K hK => ?_ | refine abs_draw Try.ty.mixed (by kernel_rfl) fun K hK => ?_ | refine abs_if ?_); simp -implicitDefEqProofs only [go_sem, bas, basL, Nat.reduceAdd, Nat.reduceSub, Nat.reduceMul, Nat.reduceLT, Nat.reduceLeDiff, Nat.reduceEqDiff, Nat.reduceBEq, Int.reduceLT, Int.reduceLE, Int.reduceToNat, Int.reduceAdd, Int.reduceSub, Int.reduceMul, Int.reduceNeg, Int.reduceEq, reduceCtorEq, eq_self, ne_eq, not_false_eq_true, if_true, reduceIte])
      | (refine hK _ ?_; clear hK K; simp only [thenQ, blockQ, if_true, Nat.reduceEqDiff, reduceIte])
      | (show thenQ _ _ _ _; simp only [thenQ, blockQ, if_true, Nat.reduceEqDiff, reduceIte])
      | (show blockQ _ _ _ _; simp only [thenQ, blockQ, if_true, Nat.reduceEqDiff, reduceIte])
      | (show retQ _ _ _ _ _; simp -implicitDefEqProofs only [go_sem, bas, basL, Nat.reduceAdd, Nat.reduceSub, Nat.reduceMul, Nat.reduceLT, Nat.reduceLeDiff, Nat.reduceEqDiff, Nat.reduceBEq, Int.reduceLT, Int.reduceLE, Int.reduceToNat, Int.reduceAdd, Int.reduceSub, Int.reduceMul, Int.reduceNeg, Int.reduceEq, reduceCtorEq, eq_self, ne_eq, not_false_eq_true, if_true, reduceIte])
      | (intro hg; first | (exfalso; omega) | (exfalso; contradiction) | skip)
      | apply And.intro
      | (with_reducible rfl)
      | (clear hK; omega)
      | omega)
  refine abs_loopN (ι := Nat) (fun i => [(0, intss Z), (1, ints l), (5, i64 i)]) (fun _ => []) (fun _ => [])
    (fun i => i ≤ Z.length ∧ ∀ a, a < i → ¬ nth Z a = l) (fun i => Z.length - i) (fun _ _ => ⟨rfl, rfl⟩) 0 ⟨Nat.zero_le _, fun i h => absurd h (Nat.not_lt_zero i)⟩ (le_of rfl (by try simp -implicitDefEqProofs only [go_sem, bas, basL, Nat.reduceAdd, Nat.reduceSub, Nat.reduceMul, Nat.reduceLT, Nat.reduceLeDiff, Nat.reduceEqDiff, Nat.reduceBEq, Int.reduceLT, Int.reduceLE, Int.reduceToNat, Int.reduceAdd, Int.reduceSub, Int.reduceMul, Int.reduceNeg, Int.reduceEq, reduceCtorEq, eq_self, ne_eq, not_false_eq_true, if_true, reduceIte]; try simp) ⟨_, rfl⟩ ⟨_, rfl⟩) (fun i ⟨hi, hb⟩ => ?_)
  simp -implicitDefEqProofs only [go_sem, bas, basL, Nat.reduceAdd, Nat.reduceSub, Nat.reduceMul, Nat.reduceLT, Nat.reduceLeDiff, Nat.reduceEqDiff, Nat.reduceBEq, Int.reduceLT, Int.reduceLE, Int.reduceToNat, Int.reduceAdd, Int.reduceSub, Int.reduceMul, Int.reduceNeg, Int.reduceEq, reduceCtorEq, eq_self, ne_eq, not_false_eq_true, if_true, reduceIte]
  repeat' (first
      | refine abs_seq ?_
      | refine abs_block ?_
      | refine abs_skip ?_
      | refine abs_exit ?_
      | refine abs_ret ?_
      | ((first | refine abs_region fun K hK => ?_ | refine abs_draw Try.ty.mixed (by kernel_rfl) fun K hK => ?_ | refine abs_if ?_); simp -implicitDefEqProofs only [go_sem, bas, basL, Nat.reduceAdd, Nat.reduceSub, Nat.reduceMul, Nat.reduceLT, Nat.reduceLeDiff, Nat.reduceEqDiff, Nat.reduceBEq, Int.reduceLT, Int.reduceLE, Int.reduceToNat, Int.reduceAdd, Int.reduceSub, Int.reduceMul, Int.reduceNeg, Int.reduceEq, reduceCtorEq, eq_self, ne_eq, not_false_eq_true, if_true, reduceIte])
      | (refine hK _ ?_; clear hK K; simp only [thenQ, blockQ, if_true, Nat.reduceEqDiff, reduceIte])
      | (show thenQ _ _ _ _; simp only [thenQ, blockQ, if_true, Nat.reduceEqDiff, reduceIte])
      | (show blockQ _ _ _ _; simp only [thenQ, blockQ, if_true, Nat.reduceEqDiff, reduceIte])
      | (refine callK (same_ok (nth Z i) l (by have := hr i (by omega); omega)) ?_; try simp -implicitDefEqProofs only [go_sem, bas, basL, Nat.reduceAdd, Nat.reduceSub, Nat.reduceMul, Nat.reduceLT, Nat.reduceLeDiff, Nat.reduceEqDiff, Nat.reduceBEq, Int.reduceLT, Int.reduceLE, Int.reduceToNat, Int.reduceAdd, Int.reduceSub, Int.reduceMul, Int.reduceNeg, Int.reduceEq, reduceCtorEq, eq_self, ne_eq, not_false_eq_true, if_true, reduceIte])
      | (show retQ _ _ _ _ _; simp -implicitDefEqProofs only [go_sem, bas, basL, Nat.reduceAdd, Nat.reduceSub, Nat.reduceMul, Nat.reduceLT, Nat.reduceLeDiff, Nat.reduceEqDiff, Nat.reduceBEq, Int.reduceLT, Int.reduceLE, Int.reduceToNat, Int.reduceAdd, Int.reduceSub, Int.reduceMul, Int.reduceNeg, Int.reduceEq, reduceCtorEq, eq_self, ne_eq, not_false_eq_true, if_true, reduceIte])
      | (intro hg; first | (exfalso; omega) | (exfalso; contradiction) | skip)
      | apply And.intro
      | (with_reducible rfl)
      | (clear hK; omega)
      | omega)
  · congr 1; exact (findI_some (p := fun x => decide (x = l)) (l := Z) (by omega) (fun a ha => decide_eq_false (hb a ha)) (decide_eq_true hg)).symm
  · refine ⟨i + 1, ⟨by omega, fun a h => ?_⟩, by omega, le_of rfl (by try simp -implicitDefEqProofs only [go_sem, bas, basL, Nat.reduceAdd, Nat.reduceSub, Nat.reduceMul, Nat.reduceLT, Nat.reduceLeDiff, Nat.reduceEqDiff, Nat.reduceBEq, Int.reduceLT, Int.reduceLE, Int.reduceToNat, Int.reduceAdd, Int.reduceSub, Int.reduceMul, Int.reduceNeg, Int.reduceEq, reduceCtorEq, eq_self, ne_eq, not_false_eq_true, if_true, reduceIte]; try simp) ⟨_, rfl⟩ ⟨_, rfl⟩⟩
    by_cases h9 : a = i
    · rw [h9]; exact hg
    · exact hb a (by omega)
  · congr 1; exact (findI_none (p := fun x => decide (x = l)) (l := Z) fun a ha => decide_eq_false (hb a (by omega))).symm
end Go.Proofs.Ythamljpomhjepaa
end
section
namespace Go.Proofs.Ythamljpomhjepaa
open Go.Ab
attribute [local irreducible] Abs CallK CallR CallsTo

set_option maxRecDepth 100000 in
set_option maxHeartbeats 4000000 in
theorem gamed_few (c step one other : Int) (P : List (List Int)) (q0 : CallsTo Try.prog 49 [.agg [i64 c, i64 step, intss P]] (.bool false)) : CallsTo Try.prog 12 [.agg [i64 c, i64 step, intss P], i64 one, i64 other] (.bool true) := by
  refine calls_abs Try.func12 Try.ntmps12 Try.results12 Try.call12 rfl (by simp) fun w0 S0 M0 => ?_
  repeat' (first
      | refine abs_seq ?_
      | refine abs_block ?_
      | refine abs_skip ?_
      | refine abs_exit ?_
      | refine abs_ret ?_
      | ((first | refine abs_region fun K hK => ?_ | refine abs_draw Try.ty.mixed (by kernel_rfl) fun K hK => ?_ | refine abs_if ?_); simp -implicitDefEqProofs only [go_sem, bas, basL, Nat.reduceAdd, Nat.reduceSub, Nat.reduceMul, Nat.reduceLT, Nat.reduceLeDiff, Nat.reduceEqDiff, Nat.reduceBEq, Int.reduceLT, Int.reduceLE, Int.reduceToNat, Int.reduceAdd, Int.reduceSub, Int.reduceMul, Int.reduceNeg, Int.reduceEq, reduceCtorEq, eq_self, ne_eq, not_false_eq_true, if_true, reduceIte])
      | (refine hK _ ?_; clear hK K; simp only [thenQ, blockQ, if_true, Nat.reduceEqDiff, reduceIte])
      | (show thenQ _ _ _ _; simp only [thenQ, blockQ, if_true, Nat.reduceEqDiff, reduceIte])
      | (show blockQ _ _ _ _; simp only [thenQ, blockQ, if_true, Nat.reduceEqDiff, reduceIte])
      | ((first | refine callK (known_ok) ?_ | refine callK (q0) ?_); try simp -implicitDefEqProofs only [go_sem, bas, basL, Nat.reduceAdd, Nat.reduceSub, Nat.reduceMul, Nat.reduceLT, Nat.reduceLeDiff, Nat.reduceEqDiff, Nat.reduceBEq, Int.reduceLT, Int.reduceLE, Int.reduceToNat, Int.reduceAdd, Int.reduceSub, Int.reduceMul, Int.reduceNeg, Int.reduceEq, reduceCtorEq, eq_self, ne_eq, not_false_eq_true, if_true, reduceIte])
      | (show retQ _ _ _ _ _; simp -implicitDefEqProofs only [go_sem, bas, basL, Nat.reduceAdd, Nat.reduceSub, Nat.reduceMul, Nat.reduceLT, Nat.reduceLeDiff, Nat.reduceEqDiff, Nat.reduceBEq, Int.reduceLT, Int.reduceLE, Int.reduceToNat, Int.reduceAdd, Int.reduceSub, Int.reduceMul, Int.reduceNeg, Int.reduceEq, reduceCtorEq, eq_self, ne_eq, not_false_eq_true, if_true, reduceIte])
      | (intro hg; first | (exfalso; omega) | (exfalso; contradiction) | skip)
      | apply And.intro
      | (with_reducible rfl)
      | (clear hK; omega)
      | omega)
set_option maxRecDepth 100000 in
set_option maxHeartbeats 4000000 in
theorem gamed_not (c step one other : Int) (P : List (List Int)) (q0 : CallsTo Try.prog 49 [.agg [i64 c, i64 step, intss P]] (.bool true)) (q2 : CallsTo Try.prog 51 [.agg [i64 c, i64 step, intss P]] (.bool false)) : CallsTo Try.prog 12 [.agg [i64 c, i64 step, intss P], i64 one, i64 other] (.bool true) := by
  refine calls_abs Try.func12 Try.ntmps12 Try.results12 Try.call12 rfl (by simp) fun w0 S0 M0 => ?_
  repeat' (first
      | refine abs_seq ?_
      | refine abs_block ?_
      | refine abs_skip ?_
      | refine abs_exit ?_
      | refine abs_ret ?_
      | ((first | refine abs_region fun K hK => ?_ | refine abs_draw Try.ty.mixed (by kernel_rfl) fun K hK => ?_ | refine abs_if ?_); simp -implicitDefEqProofs only [go_sem, bas, basL, Nat.reduceAdd, Nat.reduceSub, Nat.reduceMul, Nat.reduceLT, Nat.reduceLeDiff, Nat.reduceEqDiff, Nat.reduceBEq, Int.reduceLT, Int.reduceLE, Int.reduceToNat, Int.reduceAdd, Int.reduceSub, Int.reduceMul, Int.reduceNeg, Int.reduceEq, reduceCtorEq, eq_self, ne_eq, not_false_eq_true, if_true, reduceIte])
      | (refine hK _ ?_; clear hK K; simp only [thenQ, blockQ, if_true, Nat.reduceEqDiff, reduceIte])
      | (show thenQ _ _ _ _; simp only [thenQ, blockQ, if_true, Nat.reduceEqDiff, reduceIte])
      | (show blockQ _ _ _ _; simp only [thenQ, blockQ, if_true, Nat.reduceEqDiff, reduceIte])
      | ((first | refine callK (known_ok) ?_ | refine callK (q0) ?_ | refine callK (q2) ?_); try simp -implicitDefEqProofs only [go_sem, bas, basL, Nat.reduceAdd, Nat.reduceSub, Nat.reduceMul, Nat.reduceLT, Nat.reduceLeDiff, Nat.reduceEqDiff, Nat.reduceBEq, Int.reduceLT, Int.reduceLE, Int.reduceToNat, Int.reduceAdd, Int.reduceSub, Int.reduceMul, Int.reduceNeg, Int.reduceEq, reduceCtorEq, eq_self, ne_eq, not_false_eq_true, if_true, reduceIte])
      | (show retQ _ _ _ _ _; simp -implicitDefEqProofs only [go_sem, bas, basL, Nat.reduceAdd, Nat.reduceSub, Nat.reduceMul, Nat.reduceLT, Nat.reduceLeDiff, Nat.reduceEqDiff, Nat.reduceBEq, Int.reduceLT, Int.reduceLE, Int.reduceToNat, Int.reduceAdd, Int.reduceSub, Int.reduceMul, Int.reduceNeg, Int.reduceEq, reduceCtorEq, eq_self, ne_eq, not_false_eq_true, if_true, reduceIte])
      | (intro hg; first | (exfalso; omega) | (exfalso; contradiction) | skip)
      | apply And.intro
      | (with_reducible rfl)
      | (clear hK; omega)
      | omega)
set_option maxRecDepth 100000 in
set_option maxHeartbeats 4000000 in
theorem gamed_none (c step one other : Int) (P Z : List (List Int)) (q0 : CallsTo Try.prog 49 [.agg [i64 c, i64 step, intss P]] (.bool true)) (q2 : CallsTo Try.prog 51 [.agg [i64 c, i64 step, intss P]] (.bool true))
    (q1 : CallsTo Try.prog 50 [.agg [i64 c, i64 step, intss P]] (.tup [ints [], ints [], i64 0, i64 5])) (q4 : CallsTo Try.prog 53 [i64 c, i64 step] (intss Z)) (z1 : P.length = Z.length)
    (q5 : ∀ i a, i < Z.length → a < Z.length → CallsTo Try.prog 54 [ints (nth Z i), ints (nth P a)] (i64 (Ern (nth Z i) (nth P a))))
    (hno : ∀ i o, i < Z.length → o < Z.length → Ern (nth Z i) (nth P o) ≤ Ern (nth Z i) (nth P i)) : CallsTo Try.prog 12 [.agg [i64 c, i64 step, intss P], i64 one, i64 other] (.bool true) := by
  by_cases h1 : 0 ≤ one ∧ one < Z.length
  · by_cases h2 : 0 ≤ other ∧ other < Z.length
    · have w5 := q5 one.toNat other.toNat (by omega) (by omega)
      have w6 := q5 one.toNat one.toNat (by omega) (by omega)
      have w7 := hno one.toNat other.toNat (by omega) (by omega)
      clear q5 hno
      refine calls_abs Try.func12 Try.ntmps12 Try.results12 Try.call12 rfl (by simp) fun w0 S0 M0 => ?_
      repeat' (first
          | refine abs_seq ?_
          | refine abs_block ?_
          | refine abs_skip ?_
          | refine abs_exit ?_
          | refine abs_ret ?_
          | ((first | refine abs_region fun K hK => ?_ | refine abs_draw Try.ty.mixed (by kernel_rfl) fun K hK => ?_ | refine abs_if ?_); simp -implicitDefEqProofs only [go_sem, bas, basL, Nat.reduceAdd, Nat.reduceSub, Nat.reduceMul, Nat.reduceLT, Nat.reduceLeDiff, Nat.reduceEqDiff, Nat.reduceBEq, Int.reduceLT, Int.reduceLE, Int.reduceToNat, Int.reduceAdd, Int.reduceSub, Int.reduceMul, Int.reduceNeg, Int.reduceEq, reduceCtorEq, eq_self, ne_eq, not_false_eq_true, if_true, reduceIte])
          | (refine hK _ ?_; clear hK K; simp only [thenQ, blockQ, if_true, Nat.reduceEqDiff, reduceIte])
          | (show thenQ _ _ _ _; simp only [thenQ, blockQ, if_true, Nat.reduceEqDiff, reduceIte])
          | (show blockQ _ _ _ _; simp only [thenQ, blockQ, if_true, Nat.reduceEqDiff, reduceIte])
          | ((first | refine callK (known_ok) ?_ | refine callK (q0) ?_ | refine callK (q1) ?_ | refine callK (q2) ?_ | refine callK (q4) ?_ | refine callK (w5) ?_ | refine callK (w6) ?_); try simp -implicitDefEqProofs only [go_sem, bas, basL, Nat.reduceAdd, Nat.reduceSub, Nat.reduceMul, Nat.reduceLT, Nat.reduceLeDiff, Nat.reduceEqDiff, Nat.reduceBEq, Int.reduceLT, Int.reduceLE, Int.reduceToNat, Int.reduceAdd, Int.reduceSub, Int.reduceMul, Int.reduceNeg, Int.reduceEq, reduceCtorEq, eq_self, ne_eq, not_false_eq_true, if_true, reduceIte])
          | (show retQ _ _ _ _ _; simp -implicitDefEqProofs only [go_sem, bas, basL, Nat.reduceAdd, Nat.reduceSub, Nat.reduceMul, Nat.reduceLT, Nat.reduceLeDiff, Nat.reduceEqDiff, Nat.reduceBEq, Int.reduceLT, Int.reduceLE, Int.reduceToNat, Int.reduceAdd, Int.reduceSub, Int.reduceMul, Int.reduceNeg, Int.reduceEq, reduceCtorEq, eq_self, ne_eq, not_false_eq_true, if_true, reduceIte])
          | (intro hg; first | (exfalso; omega) | (exfalso; contradiction) | skip)
          | apply And.intro
          | (with_reducible rfl)
          | (clear hK; omega)
          | omega)
    · refine calls_abs Try.func12 Try.ntmps12 Try.results12 Try.call12 rfl (by simp) fun w0 S0 M0 => ?_
      repeat' (first
          | refine abs_seq ?_
          | refine abs_block ?_
          | refine abs_skip ?_
          | refine abs_exit ?_
          | refine abs_ret ?_
          | ((first | refine abs_region fun K hK => ?_ | refine abs_draw Try.ty.mixed (by kernel_rfl) fun K hK => ?_ | refine abs_if ?_); simp -implicitDefEqProofs only [go_sem, bas, basL, Nat.reduceAdd, Nat.reduceSub, Nat.reduceMul, Nat.reduceLT, Nat.reduceLeDiff, Nat.reduceEqDiff, Nat.reduceBEq, Int.reduceLT, Int.reduceLE, Int.reduceToNat, Int.reduceAdd, Int.reduceSub, Int.reduceMul, Int.reduceNeg, Int.reduceEq, reduceCtorEq, eq_self, ne_eq, not_false_eq_true, if_true, reduceIte])
          | (refine hK _ ?_; clear hK K; simp only [thenQ, blockQ, if_true, Nat.reduceEqDiff, reduceIte])
          | (show thenQ _ _ _ _; simp only [thenQ, blockQ, if_true, Nat.reduceEqDiff, reduceIte])
          | (show blockQ _ _ _ _; simp only [thenQ, blockQ, if_true, Nat.reduceEqDiff, reduceIte])
          | ((first | refine callK (known_ok) ?_ | refine callK (q0) ?_ | refine callK (q1) ?_ | refine callK (q2) ?_ | refine callK (q4) ?_); try simp -implicitDefEqProofs only [go_sem, bas, basL, Nat.reduceAdd, Nat.reduceSub, Nat.reduceMul, Nat.reduceLT, Nat.reduceLeDiff, Nat.reduceEqDiff, Nat.reduceBEq, Int.reduceLT, Int.reduceLE, Int.reduceToNat, Int.reduceAdd, Int.reduceSub, Int.reduceMul, Int.reduceNeg, Int.reduceEq, reduceCtorEq, eq_self, ne_eq, not_false_eq_true, if_true, reduceIte])
          | (show retQ _ _ _ _ _; simp -implicitDefEqProofs only [go_sem, bas, basL, Nat.reduceAdd, Nat.reduceSub, Nat.reduceMul, Nat.reduceLT, Nat.reduceLeDiff, Nat.reduceEqDiff, Nat.reduceBEq, Int.reduceLT, Int.reduceLE, Int.reduceToNat, Int.reduceAdd, Int.reduceSub, Int.reduceMul, Int.reduceNeg, Int.reduceEq, reduceCtorEq, eq_self, ne_eq, not_false_eq_true, if_true, reduceIte])
          | (intro hg; first | (exfalso; omega) | (exfalso; contradiction) | skip)
          | apply And.intro
          | (with_reducible rfl)
          | (clear hK; omega)
          | omega)
  · refine calls_abs Try.func12 Try.ntmps12 Try.results12 Try.call12 rfl (by simp) fun w0 S0 M0 => ?_
    repeat' (first
        | refine abs_seq ?_
        | refine abs_block ?_
        | refine abs_skip ?_
        | refine abs_exit ?_
        | refine abs_ret ?_
        | ((first | refine abs_region fun K hK => ?_ | refine abs_draw Try.ty.mixed (by kernel_rfl) fun K hK => ?_ | refine abs_if ?_); simp -implicitDefEqProofs only [go_sem, bas, basL, Nat.reduceAdd, Nat.reduceSub, Nat.reduceMul, Nat.reduceLT, Nat.reduceLeDiff, Nat.reduceEqDiff, Nat.reduceBEq, Int.reduceLT, Int.reduceLE, Int.reduceToNat, Int.reduceAdd, Int.reduceSub, Int.reduceMul, Int.reduceNeg, Int.reduceEq, reduceCtorEq, eq_self, ne_eq, not_false_eq_true, if_true, reduceIte])
        | (refine hK _ ?_; clear hK K; simp only [thenQ, blockQ, if_true, Nat.reduceEqDiff, reduceIte])
        | (show thenQ _ _ _ _; simp only [thenQ, blockQ, if_true, Nat.reduceEqDiff, reduceIte])
        | (show blockQ _ _ _ _; simp only [thenQ, blockQ, if_true, Nat.reduceEqDiff, reduceIte])
        | ((first | refine callK (known_ok) ?_ | refine callK (q0) ?_ | refine callK (q1) ?_ | refine callK (q2) ?_ | refine callK (q4) ?_); try simp -implicitDefEqProofs only [go_sem, bas, basL, Nat.reduceAdd, Nat.reduceSub, Nat.reduceMul, Nat.reduceLT, Nat.reduceLeDiff, Nat.reduceEqDiff, Nat.reduceBEq, Int.reduceLT, Int.reduceLE, Int.reduceToNat, Int.reduceAdd, Int.reduceSub, Int.reduceMul, Int.reduceNeg, Int.reduceEq, reduceCtorEq, eq_self, ne_eq, not_false_eq_true, if_true, reduceIte])
        | (show retQ _ _ _ _ _; simp -implicitDefEqProofs only [go_sem, bas, basL, Nat.reduceAdd, Nat.reduceSub, Nat.reduceMul, Nat.reduceLT, Nat.reduceLeDiff, Nat.reduceEqDiff, Nat.reduceBEq, Int.reduceLT, Int.reduceLE, Int.reduceToNat, Int.reduceAdd, Int.reduceSub, Int.reduceMul, Int.reduceNeg, Int.reduceEq, reduceCtorEq, eq_self, ne_eq, not_false_eq_true, if_true, reduceIte])
        | (intro hg; first | (exfalso; omega) | (exfalso; contradiction) | skip)
        | apply And.intro
        | (with_reducible rfl)
        | (clear hK; omega)
        | omega)
set_option maxRecDepth 100000 in
set_option maxHeartbeats 4000000 in
theorem gamed_some (c step one other k : Int) (P Z : List (List Int)) (i : Nat) (q0 : CallsTo Try.prog 49 [.agg [i64 c, i64 step, intss P]] (.bool true)) (q2 : CallsTo Try.prog 51 [.agg [i64 c, i64 step, intss P]] (.bool true))
    (q1 : CallsTo Try.prog 50 [.agg [i64 c, i64 step, intss P]] (.tup [ints (nth Z i), ints (nth Z k.toNat), i64 (Ern (nth Z i) (nth P k.toNat) - Ern (nth Z i) (nth P i)), i64 0])) (q4 : CallsTo Try.prog 53 [i64 c, i64 step] (intss Z)) (z1 : P.length = Z.length)
    (h1 : 0 ≤ one ∧ one < Z.length) (h2 : 0 ≤ other ∧ other < Z.length)
    (w1 : CallsTo Try.prog 55 [intss Z, ints (nth Z i)] (i64 i)) (w2 : CallsTo Try.prog 55 [intss Z, ints (nth Z k.toNat)] (i64 k))
    (w3 : CallsTo Try.prog 54 [ints (nth Z one.toNat), ints (nth P other.toNat)] (i64 (Ern (nth Z one.toNat) (nth P other.toNat)))) (w4 : CallsTo Try.prog 54 [ints (nth Z i), ints (nth P k.toNat)] (i64 (Ern (nth Z i) (nth P k.toNat))))
    (w5 : CallsTo Try.prog 54 [ints (nth Z i), ints (nth P i)] (i64 (Ern (nth Z i) (nth P i)))) (w6 : CallsTo Try.prog 54 [ints (nth Z one.toNat), ints (nth P one.toNat)] (i64 (Ern (nth Z one.toNat) (nth P one.toNat))))
    (w7 : CallsTo Try.prog 54 [ints (nth Z i), ints (nth P other.toNat)] (i64 (Ern (nth Z i) (nth P other.toNat))))
    (hi : i < Z.length) (hk : 0 ≤ k ∧ k < Z.length)
    (b1 : -30000000 ≤ Ern (nth Z i) (nth P i) ∧ Ern (nth Z i) (nth P i) ≤ 30000000) (b2 : -30000000 ≤ Ern (nth Z i) (nth P k.toNat) ∧ Ern (nth Z i) (nth P k.toNat) ≤ 30000000)
    (g1 : Ern (nth Z i) (nth P i) < Ern (nth Z i) (nth P k.toNat)) (g2 : one < i → Ern (nth Z one.toNat) (nth P other.toNat) ≤ Ern (nth Z one.toNat) (nth P one.toNat))
    (g3 : Ern (nth Z i) (nth P other.toNat) ≤ Ern (nth Z i) (nth P k.toNat) ∧ (Ern (nth Z i) (nth P other.toNat) = Ern (nth Z i) (nth P k.toNat) → k ≤ other)) :
    CallsTo Try.prog 12 [.agg [i64 c, i64 step, intss P], i64 one, i64 other] (.bool true) := by
  obtain ⟨g3, g4⟩ := g3
  refine calls_abs Try.func12 Try.ntmps12 Try.results12 Try.call12 rfl (by simp) fun w0 S0 M0 => ?_
  repeat' (first
      | refine abs_seq ?_
      | refine abs_block ?_
      | refine abs_skip ?_
      | refine abs_exit ?_
      | refine abs_ret ?_
      | ((first | refine abs_region fun K hK => ?_ | refine abs_draw Try.ty.mixed (by kernel_rfl) fun K hK => ?_ | refine abs_if ?_); simp -implicitDefEqProofs only [go_sem, bas, basL, Nat.reduceAdd, Nat.reduceSub, Nat.reduceMul, Nat.reduceLT, Nat.reduceLeDiff, Nat.reduceEqDiff, Nat.reduceBEq, Int.reduceLT, Int.reduceLE, Int.reduceToNat, Int.reduceAdd, Int.reduceSub, Int.reduceMul, Int.reduceNeg, Int.reduceEq, reduceCtorEq, eq_self, ne_eq, not_false_eq_true, if_true, reduceIte])
      | (refine hK _ ?_; clear hK K; simp only [thenQ, blockQ, if_true, Nat.reduceEqDiff, reduceIte])
      | (show thenQ _ _ _ _; simp only [thenQ, blockQ, if_true, Nat.reduceEqDiff, reduceIte])
      | (show blockQ _ _ _ _; simp only [thenQ, blockQ, if_true, Nat.reduceEqDiff, reduceIte])
      | ((first | refine callK (known_ok) ?_ | refine callK (q0) ?_ | refine callK (q1) ?_ | refine callK (q2) ?_ | refine callK (q4) ?_ | refine callK (w1) ?_ | refine callK (w2) ?_ | refine callK (w3) ?_ | refine callK (w4) ?_ | refine callK (w5) ?_ | refine callK (w6) ?_ | refine callK (w7) ?_); try simp -implicitDefEqProofs only [go_sem, bas, basL, Nat.reduceAdd, Nat.reduceSub, Nat.reduceMul, Nat.reduceLT, Nat.reduceLeDiff, Nat.reduceEqDiff, Nat.reduceBEq, Int.reduceLT, Int.reduceLE, Int.reduceToNat, Int.reduceAdd, Int.reduceSub, Int.reduceMul, Int.reduceNeg, Int.reduceEq, reduceCtorEq, eq_self, ne_eq, not_false_eq_true, if_true, reduceIte])
      | (show retQ _ _ _ _ _; simp -implicitDefEqProofs only [go_sem, bas, basL, Nat.reduceAdd, Nat.reduceSub, Nat.reduceMul, Nat.reduceLT, Nat.reduceLeDiff, Nat.reduceEqDiff, Nat.reduceBEq, Int.reduceLT, Int.reduceLE, Int.reduceToNat, Int.reduceAdd, Int.reduceSub, Int.reduceMul, Int.reduceNeg, Int.reduceEq, reduceCtorEq, eq_self, ne_eq, not_false_eq_true, if_true, reduceIte])
      | (intro hg; first | (exfalso; omega) | (exfalso; contradiction) | skip)
      | apply And.intro
      | (with_reducible rfl)
      | (clear hK; omega)
      | omega)
  all_goals skip
set_option maxRecDepth 100000 in
set_option maxHeartbeats 4000000 in
theorem gamed_off (c step one other k : Int) (P Z : List (List Int)) (i : Nat) (n : Int) (q0 : CallsTo Try.prog 49 [.agg [i64 c, i64 step, intss P]] (.bool true)) (q2 : CallsTo Try.prog 51 [.agg [i64 c, i64 step, intss P]] (.bool true))
    (q1 : CallsTo Try.prog 50 [.agg [i64 c, i64 step, intss P]] (.tup [ints (nth Z i), ints (nth Z k.toNat), i64 n, i64 0])) (q4 : CallsTo Try.prog 53 [i64 c, i64 step] (intss Z))
    (h : ¬ ((0 ≤ one ∧ one < Z.length) ∧ 0 ≤ other ∧ other < Z.length)) :
    CallsTo Try.prog 12 [.agg [i64 c, i64 step, intss P], i64 one, i64 other] (.bool true) := by
  refine calls_abs Try.func12 Try.ntmps12 Try.results12 Try.call12 rfl (by simp) fun w0 S0 M0 => ?_
  repeat' (first
      | refine abs_seq ?_
      | refine abs_block ?_
      | refine abs_skip ?_
      | refine abs_exit ?_
      | refine abs_ret ?_
      | ((first | refine abs_region fun K hK => ?_ | refine abs_draw Try.ty.mixed (by kernel_rfl) fun K hK => ?_ | refine abs_if ?_); simp -implicitDefEqProofs only [go_sem, bas, basL, Nat.reduceAdd, Nat.reduceSub, Nat.reduceMul, Nat.reduceLT, Nat.reduceLeDiff, Nat.reduceEqDiff, Nat.reduceBEq, Int.reduceLT, Int.reduceLE, Int.reduceToNat, Int.reduceAdd, Int.reduceSub, Int.reduceMul, Int.reduceNeg, Int.reduceEq, reduceCtorEq, eq_self, ne_eq, not_false_eq_true, if_true, reduceIte])
      | (refine hK _ ?_; clear hK K; simp only [thenQ, blockQ, if_true, Nat.reduceEqDiff, reduceIte])
      | (show thenQ _ _ _ _; simp only [thenQ, blockQ, if_true, Nat.reduceEqDiff, reduceIte])
      | (show blockQ _ _ _ _; simp only [thenQ, blockQ, if_true, Nat.reduceEqDiff, reduceIte])
      | ((first | refine callK (known_ok) ?_ | refine callK (q0) ?_ | refine callK (q1) ?_ | refine callK (q2) ?_ | refine callK (q4) ?_); try simp -implicitDefEqProofs only [go_sem, bas, basL, Nat.reduceAdd, Nat.reduceSub, Nat.reduceMul, Nat.reduceLT, Nat.reduceLeDiff, Nat.reduceEqDiff, Nat.reduceBEq, Int.reduceLT, Int.reduceLE, Int.reduceToNat, Int.reduceAdd, Int.reduceSub, Int.reduceMul, Int.reduceNeg, Int.reduceEq, reduceCtorEq, eq_self, ne_eq, not_false_eq_true, if_true, reduceIte])
      | (show retQ _ _ _ _ _; simp -implicitDefEqProofs only [go_sem, bas, basL, Nat.reduceAdd, Nat.reduceSub, Nat.reduceMul, Nat.reduceLT, Nat.reduceLeDiff, Nat.reduceEqDiff, Nat.reduceBEq, Int.reduceLT, Int.reduceLE, Int.reduceToNat, Int.reduceAdd, Int.reduceSub, Int.reduceMul, Int.reduceNeg, Int.reduceEq, reduceCtorEq, eq_self, ne_eq, not_false_eq_true, if_true, reduceIte])
      | (intro hg; first | (exfalso; omega) | (exfalso; contradiction) | skip)
      | apply And.intro
      | (with_reducible rfl)
      | (clear hK; omega)
      | omega)
  all_goals skip

theorem gamed_law (c step : Int) (P : List (List Int)) (one other : Int) : CallsTo Try.prog 12 [.agg [i64 c, i64 step, intss P], i64 one, i64 other] (.bool true) := by
  have q0 := few_ok c step P
  have q1 := game_ok c step P
  have q2 := table_ok c step P
  by_cases h1 : Few P
  · by_cases h2 : Tab c step P
    · rw [decide_eq_true h1] at q0
      rw [decide_eq_true h2] at q2
      have q4 := stat_ok c step (by have := h2.1; omega) h2.2.1.1 h2.2.1.2.1
      obtain ⟨z1, z2, z3⟩ := tab_ok h2
      have z0 := List.length_pos_iff.2 (stm_ne (c := c.toNat) h2.2.1.1)
      have z9 := stm_len (c := c.toNat) (step := step) (by have := h2.1; omega) h2.2.1.1
      have hnum := fun {i} => stm_num (c := c.toNat) h2.2.1.1 (i := i)
      unfold gmT at q1
      rw [if_pos h2] at q1
      generalize stm c.toNat step = Z at *
      have q5 : ∀ i a, i < Z.length → a < Z.length → CallsTo Try.prog 54 [ints (nth Z i), ints (nth P a)] (i64 (Ern (nth Z i) (nth P a))) := fun i a hi ha => by
        have h1 := z2 i hi
        have h2 := z3 a (by omega)
        exact earns_ok _ _ h1.1 (by omega) (fun k => by have := h2.2 k; omega)
      cases hr : gmR Z P with
      | none =>
        rw [hr] at q1
        exact gamed_none c step one other P Z q0 q2 q1 q4 z1 q5 (fun i o hi ho => gmA_no (gmR_no hr hi) ho)
      | some i =>
        rw [hr] at q1
        simp only [] at q1
        obtain ⟨hi, ha, hbf⟩ := gmR_has hr
        obtain ⟨hk, hv⟩ := gmB_ok (P := P) i z0
        have hO : gmO Z P i = Ern (nth Z i) (nth P i) := rfl
        have hbest := fun {o} => gmB_best (Z := Z) (P := P) i (o := o)
        have hA : gmO Z P i < (gmB Z P i).2 := by simpa [gmA] using ha
        rw [hv, hO] at q1 hA
        rw [hv] at hbest
        generalize (gmB Z P i).1 = k at *
        by_cases h3 : (0 ≤ one ∧ one < Z.length) ∧ 0 ≤ other ∧ other < Z.length
        · have hrow : ∀ i, i < Z.length → (nth Z i).length ≤ 1000000 := fun i hi => by have := (z2 i hi).1.1; omega
          have w1 := number_ok Z (nth Z i) (by omega) hrow
          have w2 := number_ok Z (nth Z k.toNat) (by omega) hrow
          rw [hnum hi] at w1
          rw [hnum (by omega), Int.toNat_of_nonneg hk.1] at w2
          have g3 := hbest (o := other.toNat) (by omega)
          exact gamed_some c step one other k P Z i q0 q2 q1 q4 z1 h3.1 h3.2 w1 w2 (q5 _ _ (by omega) (by omega)) (q5 _ _ (by omega) (by omega)) (q5 _ _ (by omega) (by omega)) (q5 _ _ (by omega) (by omega)) (q5 _ _ (by omega) (by omega)) hi hk
            (Ern_bd (z2 i hi).1 (z3 i (by omega)).2) (Ern_bd (z2 i hi).1 (z3 k.toNat (by omega)).2) hA (fun h => gmA_no (hbf _ (by omega)) (by omega)) ⟨g3.1, fun e => by have := g3.2 e; omega⟩
        · exact gamed_off c step one other k P Z i _ q0 q2 q1 q4 h3
    · rw [decide_eq_true h1] at q0
      rw [decide_eq_false h2] at q2
      exact gamed_not c step one other P q0 q2
  · rw [decide_eq_false h1] at q0
    exact gamed_few c step one other P q0
end Go.Proofs.Ythamljpomhjepaa
end
section
namespace Go.Proofs.Ythamljpomhjepaa
open Go.ChangeShapes Go.WideShapes Go.ChangeAt Go.RowKit Go.Ab
theorem own : ownKnob Try.prog.godebug = none := by kernel_rfl
theorem cells3 : Try.prog.cellsOf 3 = 1 := by kernel_rfl
theorem cells22 : Try.prog.cellsOf 22 = 1 := by kernel_rfl
theorem cells40 : Try.prog.cellsOf 40 = 1 := by kernel_rfl
theorem laid_ok : laidOutB Try.prog = true := by kernel_rfl
theorem maps_ok : mapsRowed Try.prog = true := by kernel_rfl
theorem full_ok : ∀ t e, t < Try.prog.types.size → Try.prog.underlying t = some (.slice e) → 0 < Try.prog.cellsOf e := slices_full_of Try.prog (by kernel_rfl)

set_option maxRecDepth 100000 in
theorem scoreGamed_lifted (os : Os) (started : os.Started) (H : Type) (enc : TypeId × Value → H) :
    ReturnsInHanded {} Try.checked os 12 .any (Rows.scoreGamedSpec.pre6 enc Try.prog Try.f12 Rows.scoreGamedRow.domain false) (Rows.scoreGamedSpec.post enc Try.prog Try.f12 false true false false) := by
  refine returnsInHanded_of_change (C := Try.checked) own started (by kernel_rfl) Try.func12
    (ChangeSpec.witness6 (enc := enc) (C := Try.checked) false ⟨#[], #[.agg #[.int .i64 0, .int .i64 0, .slice none 0 0], .int .i64 0, .int .i64 0], []⟩ 8 (by kernel_rfl) (by kernel_rfl) (by kernel_rfl) (by kernel_rfl)) ?_
  intro W base args ds gs before hval0 hW hcnd _
  have hval : ∀ (j : Nat) t v, Try.f12.params[j]? = some t → args[j]? = some v → Value.okWide Try.prog W .any base t v := hval0
  have hW' := hW
  obtain ⟨p, q, hA0, hV, hpq, hfz, hnd⟩ := hW'
  have hA : DataW.TrodAll enc Try.prog W 0 (fun _ => true) true Try.f12.params.toList args.toList ds p := hA0
  rw [Try.params12] at hA hval
  obtain ⟨v0, v1, v2, d0, d1, d2, p0, p1, p2, rfl, rfl, hp, h0, h1, h2⟩ := trodAll_three hA
  obtain ⟨_, _, _, ⟨a0x, rfl⟩, ⟨a0y, rfl⟩, ⟨a0z, rfl, k0z, j0z⟩, r0⟩ := rel_struct3 Try.underlying72 (by kernel_rfl) ⟨rfl, rfl, rfl⟩ cells3 cells3 cells40 (reads_int Try.underlying3) (reads_int Try.underlying3) (reads_intss Try.underlying40 Try.underlying22 Try.underlying3 cells22 cells3) (hval 0 72 v0 rfl rfl) h0
  obtain ⟨a1, _, r1⟩ := rel_int Try.underlying3 (hval 1 3 v1 rfl rfl) h1
  obtain ⟨a2, _, r2⟩ := rel_int Try.underlying3 (hval 2 3 v2 rfl rfl) h2
  exact calls_law (s := Rows.scoreGamedSpec) (Ds := [.agg [i64 a0x, i64 a0y, intss a0z], i64 a1, i64 a2]) rfl rfl Try.underlying4 ⟨rfl, rfl, rfl⟩ laid_ok maps_ok full_ok (by rw [Try.params12]; decide +kernel) hW (gamed_law a0x a0y a0z a1 a2) rfl (fun q x hx => by
    match q, hx with
    | 0, hx => cases hx; exact r0
    | 1, hx => cases hx; exact r1
    | 2, hx => cases hx; exact r2)

theorem scoreGamed_holds : Rows.ScoreGamedSaid :=
  OpenClaim.holds_of_wide 12 Try.f12 rfl rfl rfl rfl rfl rfl rfl ⟨rfl, rfl, rfl, rfl, rfl⟩ rfl rfl rfl rfl rfl (by kernel_rfl) Try.func12 (by kernel_rfl)
    (of_decide_eq_true (by kernel_rfl)) (by unfold Func.isWrapper; first | (rw [if_pos (by decide +kernel)]; kernel_rfl) | (rw [if_neg (by decide +kernel)]; exact ⟨rfl, rfl⟩))
    (fun os started H enc _ => scoreGamed_lifted os started H enc)
#print axioms scoreGamed_holds
end Go.Proofs.Ythamljpomhjepaa
end
