import Derived.Test.YthamljpomhjepaaP14
import Derived.Test.YthamljpomhjepaaR4
import Derived.Test.YthamljpomhjepaaR5
set_option linter.unusedVariables false
set_option linter.unusedSimpArgs false
namespace Go.Proofs.Ythamljpomhjepaa
open Go.Ab
attribute [local irreducible] Abs CallK CallR CallsTo

theorem badT_of {c : Int} {r : List Int} (h : (r.length : Int) = c) (hb : ∀ i, i < r.length → -100000 ≤ nth r i ∧ nth r i ≤ 100000) : badT c r = false := by
  simp only [badT, Bool.or_eq_false_iff, decide_eq_false_iff_not, List.any_eq_false]
  refine ⟨by omega, fun n hn => ?_⟩
  obtain ⟨k, hk, rfl⟩ := List.getElem_of_mem hn
  have := hb k hk
  rw [nth_eq r k hk] at this
  simp; omega
theorem badT_len {c : Int} {r : List Int} (h : ¬ (r.length : Int) = c) : badT c r = true := by simp [badT, h]
theorem badT_cell {c : Int} {r : List Int} {i : Nat} (hi : i < r.length) (h : ¬ (-100000 ≤ nth r i ∧ nth r i ≤ 100000)) : badT c r = true := by
  have : r.any (fun n => !decide (-100000 ≤ n ∧ n ≤ 100000)) = true := List.any_eq_true.2 ⟨nth r i, by rw [nth_eq r i hi]; exact List.getElem_mem hi, by rw [decide_eq_false h]; rfl⟩
  simp only [badT, this, Bool.or_true]
theorem not_tab {c step : Int} {P : List (List Int)} {i : Nat} (hi : i < P.length) (h : badT c (nth P i) = true) : ¬ Tab c step P := fun hT => by
  have := hT.2.2.2.2
  rw [any_nth.2 ⟨i, hi, h⟩] at this
  cases this
theorem is_tab {c step : Int} {P : List (List Int)} (h1 : 2 ≤ c ∧ c ≤ 3) (h2 : Step step) (h3 : 5 ≤ step) (h4 : P.length = (stm c.toNat step).length) (h : ∀ i, i < P.length → badT c (nth P i) = false) : Tab c step P := by
  refine ⟨h1, h2, h3, h4, ?_⟩
  cases hh : P.any (badT c) with
  | false => rfl
  | true =>
    obtain ⟨i, hi, hb⟩ := any_nth.1 hh
    rw [h i hi] at hb; cases hb

set_option maxRecDepth 100000 in
set_option maxHeartbeats 4000000 in
theorem table_ok (c step : Int) (P : List (List Int)) : CallsTo Try.prog 51 [.agg [i64 c, i64 step, intss P]] (.bool (decide (Tab c step P))) := by
  by_cases h1 : 2 ≤ c ∧ c ≤ 3
  · by_cases h2 : Step step
    · by_cases h3 : 5 ≤ step
      · have q1 := stat_ok c step (by omega) h2.1 h2.2.1
        have z2 := stm_len (c := c.toNat) (step := step) (by omega) h2.1
        by_cases h4 : P.length = (stm c.toNat step).length
        · have hT := is_tab h1 h2 h3 h4
          generalize stm c.toNat step = Z at *
          refine calls_abs Try.func51 Try.ntmps51 Try.results51 Try.call51 rfl (by simp) fun w0 S0 M0 => ?_
          repeat' (first
              | refine abs_seq ?_
              | refine abs_block ?_
              | refine abs_skip ?_
              | refine abs_exit ?_
              | refine abs_ret ?_
              | ((first | refine abs_region fun K hK => ?_ | refine abs_draw Try.ty.mixed (by kernel_rfl) fun K hK => ?_ | refine abs_if ?_); simp only [go_sem, bas, basL, Nat.reduceAdd, Nat.reduceSub, Nat.reduceMul, Nat.reduceLT, Nat.reduceLeDiff, Nat.reduceEqDiff, Nat.reduceBEq, Int.reduceLT, Int.reduceLE, Int.reduceToNat, Int.reduceAdd, Int.reduceSub, Int.reduceMul, Int.reduceNeg, Int.reduceEq, reduceCtorEq, eq_self, ne_eq, not_false_eq_true, if_true, reduceIte])
              | (refine hK _ ?_; clear hK K; simp only [thenQ, blockQ, if_true, Nat.reduceEqDiff, reduceIte])
              | (show thenQ _ _ _ _; simp only [thenQ, blockQ, if_true, Nat.reduceEqDiff, reduceIte])
              | (show blockQ _ _ _ _; simp only [thenQ, blockQ, if_true, Nat.reduceEqDiff, reduceIte])
              | ((first | refine callK (in_ok _ _ _) ?_ | refine callK (step_ok step) ?_ | refine callK (q1) ?_); try simp only [go_sem, bas, basL, Nat.reduceAdd, Nat.reduceSub, Nat.reduceMul, Nat.reduceLT, Nat.reduceLeDiff, Nat.reduceEqDiff, Nat.reduceBEq, Int.reduceLT, Int.reduceLE, Int.reduceToNat, Int.reduceAdd, Int.reduceSub, Int.reduceMul, Int.reduceNeg, Int.reduceEq, reduceCtorEq, eq_self, ne_eq, not_false_eq_true, if_true, reduceIte])
              | (show retQ _ _ _ _ _; simp only [go_sem, bas, basL, Nat.reduceAdd, Nat.reduceSub, Nat.reduceMul, Nat.reduceLT, Nat.reduceLeDiff, Nat.reduceEqDiff, Nat.reduceBEq, Int.reduceLT, Int.reduceLE, Int.reduceToNat, Int.reduceAdd, Int.reduceSub, Int.reduceMul, Int.reduceNeg, Int.reduceEq, reduceCtorEq, eq_self, ne_eq, not_false_eq_true, if_true, reduceIte])
              | (intro hg; first | (exfalso; omega) | (exfalso; contradiction) | skip)
              | apply And.intro
              | (with_reducible rfl)
              | (clear hK; omega)
              | omega)
          refine abs_loopN (ι := Nat) (fun i => [(1, .box 0 0), (3, i64 i)]) (fun _ => [.mu [i64 c, i64 step, intss P]]) (fun _ => [])
            (fun i => i ≤ P.length ∧ ∀ a, a < i → badT c (nth P a) = false) (fun i => P.length - i) (fun _ _ => ⟨rfl, rfl⟩) 0 ⟨Nat.zero_le _, fun i h => absurd h (Nat.not_lt_zero i)⟩ (le_of rfl (by try simp only [go_sem, bas, basL, Nat.reduceAdd, Nat.reduceSub, Nat.reduceMul, Nat.reduceLT, Nat.reduceLeDiff, Nat.reduceEqDiff, Nat.reduceBEq, Int.reduceLT, Int.reduceLE, Int.reduceToNat, Int.reduceAdd, Int.reduceSub, Int.reduceMul, Int.reduceNeg, Int.reduceEq, reduceCtorEq, eq_self, ne_eq, not_false_eq_true, if_true, reduceIte]; try simp) ⟨_, rfl⟩ ⟨_, rfl⟩) (fun i ⟨hi, hb⟩ => ?_)
          simp only [go_sem, bas, basL, Nat.reduceAdd, Nat.reduceSub, Nat.reduceMul, Nat.reduceLT, Nat.reduceLeDiff, Nat.reduceEqDiff, Nat.reduceBEq, Int.reduceLT, Int.reduceLE, Int.reduceToNat, Int.reduceAdd, Int.reduceSub, Int.reduceMul, Int.reduceNeg, Int.reduceEq, reduceCtorEq, eq_self, ne_eq, not_false_eq_true, if_true, reduceIte]
          repeat' (first
              | refine abs_seq ?_
              | refine abs_block ?_
              | refine abs_skip ?_
              | refine abs_exit ?_
              | refine abs_ret ?_
              | ((first | refine abs_region fun K hK => ?_ | refine abs_draw Try.ty.mixed (by kernel_rfl) fun K hK => ?_ | refine abs_if ?_); simp only [go_sem, bas, basL, Nat.reduceAdd, Nat.reduceSub, Nat.reduceMul, Nat.reduceLT, Nat.reduceLeDiff, Nat.reduceEqDiff, Nat.reduceBEq, Int.reduceLT, Int.reduceLE, Int.reduceToNat, Int.reduceAdd, Int.reduceSub, Int.reduceMul, Int.reduceNeg, Int.reduceEq, reduceCtorEq, eq_self, ne_eq, not_false_eq_true, if_true, reduceIte])
              | (refine hK _ ?_; clear hK K; simp only [thenQ, blockQ, if_true, Nat.reduceEqDiff, reduceIte])
              | (show thenQ _ _ _ _; simp only [thenQ, blockQ, if_true, Nat.reduceEqDiff, reduceIte])
              | (show blockQ _ _ _ _; simp only [thenQ, blockQ, if_true, Nat.reduceEqDiff, reduceIte])
              | (show retQ _ _ _ _ _; simp only [go_sem, bas, basL, Nat.reduceAdd, Nat.reduceSub, Nat.reduceMul, Nat.reduceLT, Nat.reduceLeDiff, Nat.reduceEqDiff, Nat.reduceBEq, Int.reduceLT, Int.reduceLE, Int.reduceToNat, Int.reduceAdd, Int.reduceSub, Int.reduceMul, Int.reduceNeg, Int.reduceEq, reduceCtorEq, eq_self, ne_eq, not_false_eq_true, if_true, reduceIte])
              | (intro hg; first | (exfalso; omega) | (exfalso; contradiction) | skip)
              | apply And.intro
              | (with_reducible rfl)
              | (clear hK; omega)
              | omega)
          · rw [decide_eq_false (not_tab (i := i) (by omega) (badT_len hg))]
          · refine abs_loopN (ι := Nat) (fun k => [(1, .box 0 0), (3, i64 i), (4, i64 k)]) (fun _ => [.mu [i64 c, i64 step, intss P]]) (fun _ => [])
              (fun k => k ≤ (nth P i).length ∧ ∀ b, b < k → -100000 ≤ nth (nth P i) b ∧ nth (nth P i) b ≤ 100000) (fun k => (nth P i).length - k) (fun _ _ => ⟨rfl, rfl⟩) 0 ⟨Nat.zero_le _, fun i h => absurd h (Nat.not_lt_zero i)⟩ (le_of rfl (by try simp only [go_sem, bas, basL, Nat.reduceAdd, Nat.reduceSub, Nat.reduceMul, Nat.reduceLT, Nat.reduceLeDiff, Nat.reduceEqDiff, Nat.reduceBEq, Int.reduceLT, Int.reduceLE, Int.reduceToNat, Int.reduceAdd, Int.reduceSub, Int.reduceMul, Int.reduceNeg, Int.reduceEq, reduceCtorEq, eq_self, ne_eq, not_false_eq_true, if_true, reduceIte]; try simp) ⟨_, rfl⟩ ⟨_, rfl⟩) (fun k ⟨hk, hc⟩ => ?_)
            simp only [go_sem, bas, basL, Nat.reduceAdd, Nat.reduceSub, Nat.reduceMul, Nat.reduceLT, Nat.reduceLeDiff, Nat.reduceEqDiff, Nat.reduceBEq, Int.reduceLT, Int.reduceLE, Int.reduceToNat, Int.reduceAdd, Int.reduceSub, Int.reduceMul, Int.reduceNeg, Int.reduceEq, reduceCtorEq, eq_self, ne_eq, not_false_eq_true, if_true, reduceIte]
            repeat' (first
                | refine abs_seq ?_
                | refine abs_block ?_
                | refine abs_skip ?_
                | refine abs_exit ?_
                | refine abs_ret ?_
                | ((first | refine abs_region fun K hK => ?_ | refine abs_draw Try.ty.mixed (by kernel_rfl) fun K hK => ?_ | refine abs_if ?_); simp only [go_sem, bas, basL, Nat.reduceAdd, Nat.reduceSub, Nat.reduceMul, Nat.reduceLT, Nat.reduceLeDiff, Nat.reduceEqDiff, Nat.reduceBEq, Int.reduceLT, Int.reduceLE, Int.reduceToNat, Int.reduceAdd, Int.reduceSub, Int.reduceMul, Int.reduceNeg, Int.reduceEq, reduceCtorEq, eq_self, ne_eq, not_false_eq_true, if_true, reduceIte])
                | (refine hK _ ?_; clear hK K; simp only [thenQ, blockQ, if_true, Nat.reduceEqDiff, reduceIte])
                | (show thenQ _ _ _ _; simp only [thenQ, blockQ, if_true, Nat.reduceEqDiff, reduceIte])
                | (show blockQ _ _ _ _; simp only [thenQ, blockQ, if_true, Nat.reduceEqDiff, reduceIte])
                | (refine callK (in_ok _ _ _) ?_; try simp only [go_sem, bas, basL, Nat.reduceAdd, Nat.reduceSub, Nat.reduceMul, Nat.reduceLT, Nat.reduceLeDiff, Nat.reduceEqDiff, Nat.reduceBEq, Int.reduceLT, Int.reduceLE, Int.reduceToNat, Int.reduceAdd, Int.reduceSub, Int.reduceMul, Int.reduceNeg, Int.reduceEq, reduceCtorEq, eq_self, ne_eq, not_false_eq_true, if_true, reduceIte])
                | (show retQ _ _ _ _ _; simp only [go_sem, bas, basL, Nat.reduceAdd, Nat.reduceSub, Nat.reduceMul, Nat.reduceLT, Nat.reduceLeDiff, Nat.reduceEqDiff, Nat.reduceBEq, Int.reduceLT, Int.reduceLE, Int.reduceToNat, Int.reduceAdd, Int.reduceSub, Int.reduceMul, Int.reduceNeg, Int.reduceEq, reduceCtorEq, eq_self, ne_eq, not_false_eq_true, if_true, reduceIte])
                | (intro hg; first | (exfalso; omega) | (exfalso; contradiction) | skip)
                | apply And.intro
                | (with_reducible rfl)
                | (clear hK; omega)
                | omega)
            · rw [decide_eq_false (not_tab (i := i) (by omega) (badT_cell (i := k) (by omega) hg))]
            · refine ⟨k + 1, ⟨by omega, fun b h => ?_⟩, by omega, le_of rfl (by try simp only [go_sem, bas, basL, Nat.reduceAdd, Nat.reduceSub, Nat.reduceMul, Nat.reduceLT, Nat.reduceLeDiff, Nat.reduceEqDiff, Nat.reduceBEq, Int.reduceLT, Int.reduceLE, Int.reduceToNat, Int.reduceAdd, Int.reduceSub, Int.reduceMul, Int.reduceNeg, Int.reduceEq, reduceCtorEq, eq_self, ne_eq, not_false_eq_true, if_true, reduceIte]; try simp) ⟨_, rfl⟩ ⟨_, rfl⟩⟩
              by_cases h9 : b = k
              · rw [h9]; omega
              · exact hc b (by omega)
            · refine ⟨i + 1, ⟨by omega, fun a h => ?_⟩, by omega, le_of rfl (by try simp only [go_sem, bas, basL, Nat.reduceAdd, Nat.reduceSub, Nat.reduceMul, Nat.reduceLT, Nat.reduceLeDiff, Nat.reduceEqDiff, Nat.reduceBEq, Int.reduceLT, Int.reduceLE, Int.reduceToNat, Int.reduceAdd, Int.reduceSub, Int.reduceMul, Int.reduceNeg, Int.reduceEq, reduceCtorEq, eq_self, ne_eq, not_false_eq_true, if_true, reduceIte]; try simp) ⟨_, rfl⟩ ⟨_, rfl⟩⟩
              by_cases h9 : a = i
              · rw [h9]; exact badT_of (by omega) (fun b hb => hc b (by omega))
              · exact hb a (by omega)
          · rw [decide_eq_true (hT (fun a ha => hb a (by omega)))]
        · have h6 : ¬ Tab c step P := fun h => h4 h.2.2.2.1
          rw [decide_eq_false h6]
          generalize stm c.toNat step = Z at *
          refine calls_abs Try.func51 Try.ntmps51 Try.results51 Try.call51 rfl (by simp) fun w0 S0 M0 => ?_
          repeat' (first
              | refine abs_seq ?_
              | refine abs_block ?_
              | refine abs_skip ?_
              | refine abs_exit ?_
              | refine abs_ret ?_
              | ((first | refine abs_region fun K hK => ?_ | refine abs_draw Try.ty.mixed (by kernel_rfl) fun K hK => ?_ | refine abs_if ?_); simp only [go_sem, bas, basL, Nat.reduceAdd, Nat.reduceSub, Nat.reduceMul, Nat.reduceLT, Nat.reduceLeDiff, Nat.reduceEqDiff, Nat.reduceBEq, Int.reduceLT, Int.reduceLE, Int.reduceToNat, Int.reduceAdd, Int.reduceSub, Int.reduceMul, Int.reduceNeg, Int.reduceEq, reduceCtorEq, eq_self, ne_eq, not_false_eq_true, if_true, reduceIte])
              | (refine hK _ ?_; clear hK K; simp only [thenQ, blockQ, if_true, Nat.reduceEqDiff, reduceIte])
              | (show thenQ _ _ _ _; simp only [thenQ, blockQ, if_true, Nat.reduceEqDiff, reduceIte])
              | (show blockQ _ _ _ _; simp only [thenQ, blockQ, if_true, Nat.reduceEqDiff, reduceIte])
              | ((first | refine callK (in_ok _ _ _) ?_ | refine callK (step_ok step) ?_ | refine callK (q1) ?_); try simp only [go_sem, bas, basL, Nat.reduceAdd, Nat.reduceSub, Nat.reduceMul, Nat.reduceLT, Nat.reduceLeDiff, Nat.reduceEqDiff, Nat.reduceBEq, Int.reduceLT, Int.reduceLE, Int.reduceToNat, Int.reduceAdd, Int.reduceSub, Int.reduceMul, Int.reduceNeg, Int.reduceEq, reduceCtorEq, eq_self, ne_eq, not_false_eq_true, if_true, reduceIte])
              | (show retQ _ _ _ _ _; simp only [go_sem, bas, basL, Nat.reduceAdd, Nat.reduceSub, Nat.reduceMul, Nat.reduceLT, Nat.reduceLeDiff, Nat.reduceEqDiff, Nat.reduceBEq, Int.reduceLT, Int.reduceLE, Int.reduceToNat, Int.reduceAdd, Int.reduceSub, Int.reduceMul, Int.reduceNeg, Int.reduceEq, reduceCtorEq, eq_self, ne_eq, not_false_eq_true, if_true, reduceIte])
              | (intro hg; first | (exfalso; omega) | (exfalso; contradiction) | skip)
              | apply And.intro
              | (with_reducible rfl)
              | (clear hK; omega)
              | omega)
          all_goals skip
      · have h6 : ¬ Tab c step P := fun h => h3 h.2.2.1
        rw [decide_eq_false h6]
        refine calls_abs Try.func51 Try.ntmps51 Try.results51 Try.call51 rfl (by simp) fun w0 S0 M0 => ?_
        repeat' (first
            | refine abs_seq ?_
            | refine abs_block ?_
            | refine abs_skip ?_
            | refine abs_exit ?_
            | refine abs_ret ?_
            | ((first | refine abs_region fun K hK => ?_ | refine abs_draw Try.ty.mixed (by kernel_rfl) fun K hK => ?_ | refine abs_if ?_); simp only [go_sem, bas, basL, Nat.reduceAdd, Nat.reduceSub, Nat.reduceMul, Nat.reduceLT, Nat.reduceLeDiff, Nat.reduceEqDiff, Nat.reduceBEq, Int.reduceLT, Int.reduceLE, Int.reduceToNat, Int.reduceAdd, Int.reduceSub, Int.reduceMul, Int.reduceNeg, Int.reduceEq, reduceCtorEq, eq_self, ne_eq, not_false_eq_true, if_true, reduceIte])
            | (refine hK _ ?_; clear hK K; simp only [thenQ, blockQ, if_true, Nat.reduceEqDiff, reduceIte])
            | (show thenQ _ _ _ _; simp only [thenQ, blockQ, if_true, Nat.reduceEqDiff, reduceIte])
            | (show blockQ _ _ _ _; simp only [thenQ, blockQ, if_true, Nat.reduceEqDiff, reduceIte])
            | ((first | refine callK (in_ok _ _ _) ?_ | refine callK (step_ok step) ?_); try simp only [go_sem, bas, basL, Nat.reduceAdd, Nat.reduceSub, Nat.reduceMul, Nat.reduceLT, Nat.reduceLeDiff, Nat.reduceEqDiff, Nat.reduceBEq, Int.reduceLT, Int.reduceLE, Int.reduceToNat, Int.reduceAdd, Int.reduceSub, Int.reduceMul, Int.reduceNeg, Int.reduceEq, reduceCtorEq, eq_self, ne_eq, not_false_eq_true, if_true, reduceIte])
            | (show retQ _ _ _ _ _; simp only [go_sem, bas, basL, Nat.reduceAdd, Nat.reduceSub, Nat.reduceMul, Nat.reduceLT, Nat.reduceLeDiff, Nat.reduceEqDiff, Nat.reduceBEq, Int.reduceLT, Int.reduceLE, Int.reduceToNat, Int.reduceAdd, Int.reduceSub, Int.reduceMul, Int.reduceNeg, Int.reduceEq, reduceCtorEq, eq_self, ne_eq, not_false_eq_true, if_true, reduceIte])
            | (intro hg; first | (exfalso; omega) | (exfalso; contradiction) | skip)
            | apply And.intro
            | (with_reducible rfl)
            | (clear hK; omega)
            | omega)
        all_goals skip
    · have h6 : ¬ Tab c step P := fun h => h2 h.2.1
      rw [decide_eq_false h6]
      refine calls_abs Try.func51 Try.ntmps51 Try.results51 Try.call51 rfl (by simp) fun w0 S0 M0 => ?_
      repeat' (first
          | refine abs_seq ?_
          | refine abs_block ?_
          | refine abs_skip ?_
          | refine abs_exit ?_
          | refine abs_ret ?_
          | ((first | refine abs_region fun K hK => ?_ | refine abs_draw Try.ty.mixed (by kernel_rfl) fun K hK => ?_ | refine abs_if ?_); simp only [go_sem, bas, basL, Nat.reduceAdd, Nat.reduceSub, Nat.reduceMul, Nat.reduceLT, Nat.reduceLeDiff, Nat.reduceEqDiff, Nat.reduceBEq, Int.reduceLT, Int.reduceLE, Int.reduceToNat, Int.reduceAdd, Int.reduceSub, Int.reduceMul, Int.reduceNeg, Int.reduceEq, reduceCtorEq, eq_self, ne_eq, not_false_eq_true, if_true, reduceIte])
          | (refine hK _ ?_; clear hK K; simp only [thenQ, blockQ, if_true, Nat.reduceEqDiff, reduceIte])
          | (show thenQ _ _ _ _; simp only [thenQ, blockQ, if_true, Nat.reduceEqDiff, reduceIte])
          | (show blockQ _ _ _ _; simp only [thenQ, blockQ, if_true, Nat.reduceEqDiff, reduceIte])
          | ((first | refine callK (in_ok _ _ _) ?_ | refine callK (step_ok step) ?_); try simp only [go_sem, bas, basL, Nat.reduceAdd, Nat.reduceSub, Nat.reduceMul, Nat.reduceLT, Nat.reduceLeDiff, Nat.reduceEqDiff, Nat.reduceBEq, Int.reduceLT, Int.reduceLE, Int.reduceToNat, Int.reduceAdd, Int.reduceSub, Int.reduceMul, Int.reduceNeg, Int.reduceEq, reduceCtorEq, eq_self, ne_eq, not_false_eq_true, if_true, reduceIte])
          | (show retQ _ _ _ _ _; simp only [go_sem, bas, basL, Nat.reduceAdd, Nat.reduceSub, Nat.reduceMul, Nat.reduceLT, Nat.reduceLeDiff, Nat.reduceEqDiff, Nat.reduceBEq, Int.reduceLT, Int.reduceLE, Int.reduceToNat, Int.reduceAdd, Int.reduceSub, Int.reduceMul, Int.reduceNeg, Int.reduceEq, reduceCtorEq, eq_self, ne_eq, not_false_eq_true, if_true, reduceIte])
          | (intro hg; first | (exfalso; omega) | (exfalso; contradiction) | skip)
          | apply And.intro
          | (with_reducible rfl)
          | (clear hK; omega)
          | omega)
      all_goals skip
  · have h6 : ¬ Tab c step P := fun h => h1 h.1
    rw [decide_eq_false h6]
    refine calls_abs Try.func51 Try.ntmps51 Try.results51 Try.call51 rfl (by simp) fun w0 S0 M0 => ?_
    repeat' (first
        | refine abs_seq ?_
        | refine abs_block ?_
        | refine abs_skip ?_
        | refine abs_exit ?_
        | refine abs_ret ?_
        | ((first | refine abs_region fun K hK => ?_ | refine abs_draw Try.ty.mixed (by kernel_rfl) fun K hK => ?_ | refine abs_if ?_); simp only [go_sem, bas, basL, Nat.reduceAdd, Nat.reduceSub, Nat.reduceMul, Nat.reduceLT, Nat.reduceLeDiff, Nat.reduceEqDiff, Nat.reduceBEq, Int.reduceLT, Int.reduceLE, Int.reduceToNat, Int.reduceAdd, Int.reduceSub, Int.reduceMul, Int.reduceNeg, Int.reduceEq, reduceCtorEq, eq_self, ne_eq, not_false_eq_true, if_true, reduceIte])
        | (refine hK _ ?_; clear hK K; simp only [thenQ, blockQ, if_true, Nat.reduceEqDiff, reduceIte])
        | (show thenQ _ _ _ _; simp only [thenQ, blockQ, if_true, Nat.reduceEqDiff, reduceIte])
        | (show blockQ _ _ _ _; simp only [thenQ, blockQ, if_true, Nat.reduceEqDiff, reduceIte])
        | ((first | refine callK (in_ok _ _ _) ?_ | refine callK (step_ok step) ?_); try simp only [go_sem, bas, basL, Nat.reduceAdd, Nat.reduceSub, Nat.reduceMul, Nat.reduceLT, Nat.reduceLeDiff, Nat.reduceEqDiff, Nat.reduceBEq, Int.reduceLT, Int.reduceLE, Int.reduceToNat, Int.reduceAdd, Int.reduceSub, Int.reduceMul, Int.reduceNeg, Int.reduceEq, reduceCtorEq, eq_self, ne_eq, not_false_eq_true, if_true, reduceIte])
        | (show retQ _ _ _ _ _; simp only [go_sem, bas, basL, Nat.reduceAdd, Nat.reduceSub, Nat.reduceMul, Nat.reduceLT, Nat.reduceLeDiff, Nat.reduceEqDiff, Nat.reduceBEq, Int.reduceLT, Int.reduceLE, Int.reduceToNat, Int.reduceAdd, Int.reduceSub, Int.reduceMul, Int.reduceNeg, Int.reduceEq, reduceCtorEq, eq_self, ne_eq, not_false_eq_true, if_true, reduceIte])
        | (intro hg; first | (exfalso; omega) | (exfalso; contradiction) | skip)
        | apply And.intro
        | (with_reducible rfl)
        | (clear hK; omega)
        | omega)
    all_goals skip
end Go.Proofs.Ythamljpomhjepaa
