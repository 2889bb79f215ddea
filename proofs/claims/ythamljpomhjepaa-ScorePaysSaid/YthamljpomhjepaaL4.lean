import Derived.Test.YthamljpomhjepaaR6
import Derived.Test.YthamljpomhjepaaKn
set_option linter.unusedVariables false
set_option linter.unusedSimpArgs false
namespace Go.Proofs.Ythamljpomhjepaa
open Go.Ab
attribute [local irreducible] Abs CallK CallR CallsTo
set_option linter.unusedSimpArgs false

set_option maxRecDepth 100000 in
set_option maxHeartbeats 4000000 in
theorem pays_law (a r c n step : Int) (b : List Int) (hb : b.length ≤ 9223372036854775807) : CallsTo Try.prog 14 [.agg [i64 a, i64 r, i64 c], i64 n, ints b, i64 step] (.bool true) := by
  have q1 := payx_ok a r c n
  have q2 := ptempt_ok a r c n step b
  by_cases hp : Paper a r c
  · by_cases hn : -100000000 ≤ n ∧ n ≤ 100000000
    · rw [if_pos ⟨hp, hn⟩] at q1
      have q3 := pay_ok a r c n hp hn.1 hn.2
      by_cases hs : -99990000 ≤ n ∧ n ≤ 99990000
      · by_cases h1 : Parts b
        · have p2 := h1.2.2.1
          by_cases h2 : Step step
          · rw [if_pos ⟨hp, hs, h1, h2⟩] at q2
            have q4 := rtempt_ok a r c n step b hp hs h1 h2
            have q5 := stm_parts (c := b.length) (step := step) (by have := h1.2.1; omega) h2.1 (bestS_mem (Erg a r c n b) h2.1)
            have q6 := same_ok (bestS (Erg a r c n b) b.length step).1 (bestS (Erg a r c n b) b.length step).1 (by omega)
            have q7 := earning_ok a r c n b (bestS (Erg a r c n b) b.length step).1 hp hs h1.small q5.1 q5.2.symm
            have q8 := earning_ok a r c n b b hp hs h1.small h1 rfl
            have q9 : (bestS (Erg a r c n b) b.length step).2 = Erg a r c n b (bestS (Erg a r c n b) b.length step).1 := by
              have hne := List.length_pos_iff.2 (stm_ne (c := b.length) (step := step) h2.1)
              unfold bestS
              obtain ⟨m, hm⟩ : ∃ m, (stm b.length step).length = m + 1 := ⟨(stm b.length step).length - 1, by omega⟩
              rw [hm]
              exact bst_val _ _ m
            have b1 := Erg_bd (a := a) (b := r) (c := c) (sofar := n) (bl := b) (l := b) hp ⟨by omega, by omega⟩ h1.small h1.small
            have b2 := Erg_bd (a := a) (b := r) (c := c) (sofar := n) (bl := b) (l := (bestS (Erg a r c n b) b.length step).1) hp ⟨by omega, by omega⟩ h1.small q5.1.small
            rw [q9] at q2
            generalize (bestS (Erg a r c n b) b.length step).1 = x at *
            refine calls_abs Try.func14 Try.ntmps14 Try.results14 Try.call14 rfl (by simp) fun w0 S0 M0 => ?_
            repeat' (first
                | refine abs_seq ?_
                | refine abs_block ?_
                | refine abs_skip ?_
                | refine abs_exit ?_
                | refine abs_ret ?_
                | ((first | refine abs_region fun K hK => ?_ | refine abs_draw Try.ty.mixed (by kernel_rfl) fun K hK => ?_ | refine abs_if ?_); simp only [go_sem, bas, basL, Nat.reduceAdd, Nat.reduceSub, Nat.reduceMul, Nat.reduceLT, Nat.reduceLeDiff, Nat.reduceEqDiff, Nat.reduceBEq, Int.reduceLT, Int.reduceLE, Int.reduceToNat, Int.reduceAdd, Int.reduceSub, Int.reduceMul, Int.reduceNeg, Int.reduceEq, reduceCtorEq, eq_self, ne_eq, not_false_eq_true, if_true, reduceIte])
                | (refine hK _ ?_; clear hK K; simp only [thenQ, blockQ, if_true, Nat.reduceEqDiff, reduceIte])
                | (show thenQ _ _ _ _; simp only [thenQ, blockQ, if_true, Nat.reduceEqDiff, reduceIte])
                | (show blockQ _ _ _ _; simp only [thenQ, blockQ, if_true, Nat.reduceEqDiff, reduceIte])
                | ((first | refine callK (known_ok) ?_ | refine callK (q1) ?_ | refine callK (q2) ?_ | refine callK (q3) ?_ | refine callK (q4) ?_ | refine callK (q6) ?_ | refine callK (q7) ?_ | refine callK (q8) ?_ | refine callK (paper_ok a r c) ?_ | refine callK (points_ok n) ?_ | refine callK (sofar_ok n) ?_ | refine callK (parts_ok b hb) ?_ | refine callK (step_ok step) ?_); try simp only [go_sem, bas, basL, Nat.reduceAdd, Nat.reduceSub, Nat.reduceMul, Nat.reduceLT, Nat.reduceLeDiff, Nat.reduceEqDiff, Nat.reduceBEq, Int.reduceLT, Int.reduceLE, Int.reduceToNat, Int.reduceAdd, Int.reduceSub, Int.reduceMul, Int.reduceNeg, Int.reduceEq, reduceCtorEq, eq_self, ne_eq, not_false_eq_true, if_true, reduceIte])
                | (show retQ _ _ _ _ _; simp only [go_sem, bas, basL, Nat.reduceAdd, Nat.reduceSub, Nat.reduceMul, Nat.reduceLT, Nat.reduceLeDiff, Nat.reduceEqDiff, Nat.reduceBEq, Int.reduceLT, Int.reduceLE, Int.reduceToNat, Int.reduceAdd, Int.reduceSub, Int.reduceMul, Int.reduceNeg, Int.reduceEq, reduceCtorEq, eq_self, ne_eq, not_false_eq_true, if_true, reduceIte])
                | (intro hg; first | (exfalso; omega) | (exfalso; contradiction) | skip)
                | apply And.intro
                | (with_reducible rfl)
                | (clear hK; omega)
                | omega)
            all_goals skip
          · rw [if_neg (fun h => h2 h.2.2.2)] at q2
            refine calls_abs Try.func14 Try.ntmps14 Try.results14 Try.call14 rfl (by simp) fun w0 S0 M0 => ?_
            repeat' (first
                | refine abs_seq ?_
                | refine abs_block ?_
                | refine abs_skip ?_
                | refine abs_exit ?_
                | refine abs_ret ?_
                | ((first | refine abs_region fun K hK => ?_ | refine abs_draw Try.ty.mixed (by kernel_rfl) fun K hK => ?_ | refine abs_if ?_); simp only [go_sem, bas, basL, Nat.reduceAdd, Nat.reduceSub, Nat.reduceMul, Nat.reduceLT, Nat.reduceLeDiff, Nat.reduceEqDiff, Nat.reduceBEq, Int.reduceLT, Int.reduceLE, Int.reduceToNat, Int.reduceAdd, Int.reduceSub, Int.reduceMul, Int.reduceNeg, Int.reduceEq, reduceCtorEq, eq_self, ne_eq, not_false_eq_true, if_true, reduceIte])
                | (refine hK _ ?_; clear hK K; simp only [thenQ, blockQ, if_true, Nat.reduceEqDiff, reduceIte])
                | (show thenQ _ _ _ _; simp only [thenQ, blockQ, if_true, Nat.reduceEqDiff, reduceIte])
                | (show blockQ _ _ _ _; simp only [thenQ, blockQ, if_true, Nat.reduceEqDiff, reduceIte])
                | ((first | refine callK (known_ok) ?_ | refine callK (q1) ?_ | refine callK (q2) ?_ | refine callK (q3) ?_ | refine callK (paper_ok a r c) ?_ | refine callK (points_ok n) ?_ | refine callK (sofar_ok n) ?_ | refine callK (parts_ok b hb) ?_ | refine callK (step_ok step) ?_); try simp only [go_sem, bas, basL, Nat.reduceAdd, Nat.reduceSub, Nat.reduceMul, Nat.reduceLT, Nat.reduceLeDiff, Nat.reduceEqDiff, Nat.reduceBEq, Int.reduceLT, Int.reduceLE, Int.reduceToNat, Int.reduceAdd, Int.reduceSub, Int.reduceMul, Int.reduceNeg, Int.reduceEq, reduceCtorEq, eq_self, ne_eq, not_false_eq_true, if_true, reduceIte])
                | (show retQ _ _ _ _ _; simp only [go_sem, bas, basL, Nat.reduceAdd, Nat.reduceSub, Nat.reduceMul, Nat.reduceLT, Nat.reduceLeDiff, Nat.reduceEqDiff, Nat.reduceBEq, Int.reduceLT, Int.reduceLE, Int.reduceToNat, Int.reduceAdd, Int.reduceSub, Int.reduceMul, Int.reduceNeg, Int.reduceEq, reduceCtorEq, eq_self, ne_eq, not_false_eq_true, if_true, reduceIte])
                | (intro hg; first | (exfalso; omega) | (exfalso; contradiction) | skip)
                | apply And.intro
                | (with_reducible rfl)
                | (clear hK; omega)
                | omega)
            all_goals skip
        · rw [if_neg (fun h => h1 h.2.2.1)] at q2
          refine calls_abs Try.func14 Try.ntmps14 Try.results14 Try.call14 rfl (by simp) fun w0 S0 M0 => ?_
          repeat' (first
              | refine abs_seq ?_
              | refine abs_block ?_
              | refine abs_skip ?_
              | refine abs_exit ?_
              | refine abs_ret ?_
              | ((first | refine abs_region fun K hK => ?_ | refine abs_draw Try.ty.mixed (by kernel_rfl) fun K hK => ?_ | refine abs_if ?_); simp only [go_sem, bas, basL, Nat.reduceAdd, Nat.reduceSub, Nat.reduceMul, Nat.reduceLT, Nat.reduceLeDiff, Nat.reduceEqDiff, Nat.reduceBEq, Int.reduceLT, Int.reduceLE, Int.reduceToNat, Int.reduceAdd, Int.reduceSub, Int.reduceMul, Int.reduceNeg, Int.reduceEq, reduceCtorEq, eq_self, ne_eq, not_false_eq_true, if_true, reduceIte])
              | (refine hK _ ?_; clear hK K; simp only [thenQ, blockQ, if_true, Nat.reduceEqDiff, reduceIte])
              | (show thenQ _ _ _ _; simp only [thenQ, blockQ, if_true, Nat.reduceEqDiff, reduceIte])
              | (show blockQ _ _ _ _; simp only [thenQ, blockQ, if_true, Nat.reduceEqDiff, reduceIte])
              | ((first | refine callK (known_ok) ?_ | refine callK (q1) ?_ | refine callK (q2) ?_ | refine callK (q3) ?_ | refine callK (paper_ok a r c) ?_ | refine callK (points_ok n) ?_ | refine callK (sofar_ok n) ?_ | refine callK (parts_ok b hb) ?_); try simp only [go_sem, bas, basL, Nat.reduceAdd, Nat.reduceSub, Nat.reduceMul, Nat.reduceLT, Nat.reduceLeDiff, Nat.reduceEqDiff, Nat.reduceBEq, Int.reduceLT, Int.reduceLE, Int.reduceToNat, Int.reduceAdd, Int.reduceSub, Int.reduceMul, Int.reduceNeg, Int.reduceEq, reduceCtorEq, eq_self, ne_eq, not_false_eq_true, if_true, reduceIte])
              | (show retQ _ _ _ _ _; simp only [go_sem, bas, basL, Nat.reduceAdd, Nat.reduceSub, Nat.reduceMul, Nat.reduceLT, Nat.reduceLeDiff, Nat.reduceEqDiff, Nat.reduceBEq, Int.reduceLT, Int.reduceLE, Int.reduceToNat, Int.reduceAdd, Int.reduceSub, Int.reduceMul, Int.reduceNeg, Int.reduceEq, reduceCtorEq, eq_self, ne_eq, not_false_eq_true, if_true, reduceIte])
              | (intro hg; first | (exfalso; omega) | (exfalso; contradiction) | skip)
              | apply And.intro
              | (with_reducible rfl)
              | (clear hK; omega)
              | omega)
          all_goals skip
      · rw [if_neg (fun h => hs h.2.1)] at q2
        refine calls_abs Try.func14 Try.ntmps14 Try.results14 Try.call14 rfl (by simp) fun w0 S0 M0 => ?_
        repeat' (first
            | refine abs_seq ?_
            | refine abs_block ?_
            | refine abs_skip ?_
            | refine abs_exit ?_
            | refine abs_ret ?_
            | ((first | refine abs_region fun K hK => ?_ | refine abs_draw Try.ty.mixed (by kernel_rfl) fun K hK => ?_ | refine abs_if ?_); simp only [go_sem, bas, basL, Nat.reduceAdd, Nat.reduceSub, Nat.reduceMul, Nat.reduceLT, Nat.reduceLeDiff, Nat.reduceEqDiff, Nat.reduceBEq, Int.reduceLT, Int.reduceLE, Int.reduceToNat, Int.reduceAdd, Int.reduceSub, Int.reduceMul, Int.reduceNeg, Int.reduceEq, reduceCtorEq, eq_self, ne_eq, not_false_eq_true, if_true, reduceIte])
            | (refine hK _ ?_; clear hK K; simp only [thenQ, blockQ, if_true, Nat.reduceEqDiff, reduceIte])
            | (show thenQ _ _ _ _; simp only [thenQ, blockQ, if_true, Nat.reduceEqDiff, reduceIte])
            | (show blockQ _ _ _ _; simp only [thenQ, blockQ, if_true, Nat.reduceEqDiff, reduceIte])
            | ((first | refine callK (known_ok) ?_ | refine callK (q1) ?_ | refine callK (q2) ?_ | refine callK (q3) ?_ | refine callK (paper_ok a r c) ?_ | refine callK (points_ok n) ?_ | refine callK (sofar_ok n) ?_); try simp only [go_sem, bas, basL, Nat.reduceAdd, Nat.reduceSub, Nat.reduceMul, Nat.reduceLT, Nat.reduceLeDiff, Nat.reduceEqDiff, Nat.reduceBEq, Int.reduceLT, Int.reduceLE, Int.reduceToNat, Int.reduceAdd, Int.reduceSub, Int.reduceMul, Int.reduceNeg, Int.reduceEq, reduceCtorEq, eq_self, ne_eq, not_false_eq_true, if_true, reduceIte])
            | (show retQ _ _ _ _ _; simp only [go_sem, bas, basL, Nat.reduceAdd, Nat.reduceSub, Nat.reduceMul, Nat.reduceLT, Nat.reduceLeDiff, Nat.reduceEqDiff, Nat.reduceBEq, Int.reduceLT, Int.reduceLE, Int.reduceToNat, Int.reduceAdd, Int.reduceSub, Int.reduceMul, Int.reduceNeg, Int.reduceEq, reduceCtorEq, eq_self, ne_eq, not_false_eq_true, if_true, reduceIte])
            | (intro hg; first | (exfalso; omega) | (exfalso; contradiction) | skip)
            | apply And.intro
            | (with_reducible rfl)
            | (clear hK; omega)
            | omega)
        all_goals skip
    · rw [if_neg (fun h => hn h.2)] at q1
      rw [if_neg (fun h => hn (by have := h.2.1; omega))] at q2
      refine calls_abs Try.func14 Try.ntmps14 Try.results14 Try.call14 rfl (by simp) fun w0 S0 M0 => ?_
      repeat' (first
          | refine abs_seq ?_
          | refine abs_block ?_
          | refine abs_skip ?_
          | refine abs_exit ?_
          | refine abs_ret ?_
          | ((first | refine abs_region fun K hK => ?_ | refine abs_draw Try.ty.mixed (by kernel_rfl) fun K hK => ?_ | refine abs_if ?_); simp only [go_sem, bas, basL, Nat.reduceAdd, Nat.reduceSub, Nat.reduceMul, Nat.reduceLT, Nat.reduceLeDiff, Nat.reduceEqDiff, Nat.reduceBEq, Int.reduceLT, Int.reduceLE, Int.reduceToNat, Int.reduceAdd, Int.reduceSub, Int.reduceMul, Int.reduceNeg, Int.reduceEq, reduceCtorEq, eq_self, ne_eq, not_false_eq_true, if_true, reduceIte])
          | (refine hK _ ?_; clear hK K; simp only [thenQ, blockQ, if_true, Nat.reduceEqDiff, reduceIte])
          | (show thenQ _ _ _ _; simp only [thenQ, blockQ, if_true, Nat.reduceEqDiff, reduceIte])
          | (show blockQ _ _ _ _; simp only [thenQ, blockQ, if_true, Nat.reduceEqDiff, reduceIte])
          | ((first | refine callK (known_ok) ?_ | refine callK (q1) ?_ | refine callK (q2) ?_ | refine callK (paper_ok a r c) ?_ | refine callK (points_ok n) ?_ | refine callK (sofar_ok n) ?_); try simp only [go_sem, bas, basL, Nat.reduceAdd, Nat.reduceSub, Nat.reduceMul, Nat.reduceLT, Nat.reduceLeDiff, Nat.reduceEqDiff, Nat.reduceBEq, Int.reduceLT, Int.reduceLE, Int.reduceToNat, Int.reduceAdd, Int.reduceSub, Int.reduceMul, Int.reduceNeg, Int.reduceEq, reduceCtorEq, eq_self, ne_eq, not_false_eq_true, if_true, reduceIte])
          | (show retQ _ _ _ _ _; simp only [go_sem, bas, basL, Nat.reduceAdd, Nat.reduceSub, Nat.reduceMul, Nat.reduceLT, Nat.reduceLeDiff, Nat.reduceEqDiff, Nat.reduceBEq, Int.reduceLT, Int.reduceLE, Int.reduceToNat, Int.reduceAdd, Int.reduceSub, Int.reduceMul, Int.reduceNeg, Int.reduceEq, reduceCtorEq, eq_self, ne_eq, not_false_eq_true, if_true, reduceIte])
          | (intro hg; first | (exfalso; omega) | (exfalso; contradiction) | skip)
          | apply And.intro
          | (with_reducible rfl)
          | (clear hK; omega)
          | omega)
      all_goals skip
  · rw [if_neg (fun h => hp h.1)] at q1
    rw [if_neg (fun h => hp h.1)] at q2
    refine calls_abs Try.func14 Try.ntmps14 Try.results14 Try.call14 rfl (by simp) fun w0 S0 M0 => ?_
    repeat' (first
        | refine abs_seq ?_
        | refine abs_block ?_
        | refine abs_skip ?_
        | refine abs_exit ?_
        | refine abs_ret ?_
        | ((first | refine abs_region fun K hK => ?_ | refine abs_draw Try.ty.mixed (by kernel_rfl) fun K hK => ?_ | refine abs_if ?_); simp only [go_sem, bas, basL, Nat.reduceAdd, Nat.reduceSub, Nat.reduceMul, Nat.reduceLT, Nat.reduceLeDiff, Nat.reduceEqDiff, Nat.reduceBEq, Int.reduceLT, Int.reduceLE, Int.reduceToNat, Int.reduceAdd, Int.reduceSub, Int.reduceMul, Int.reduceNeg, Int.reduceEq, reduceCtorEq, eq_self, ne_eq, not_false_eq_true, if_true, reduceIte])
        | (refine hK _ ?_; clear hK K; simp only [thenQ, blockQ, if_true, Nat.reduceEqDiff, reduceIte])
        | (show thenQ _ _ _ _; simp only [thenQ, blockQ, if_true, Nat.reduceEqDiff, reduceIte])
        | (show blockQ _ _ _ _; simp only [thenQ, blockQ, if_true, Nat.reduceEqDiff, reduceIte])
        | ((first | refine callK (known_ok) ?_ | refine callK (q1) ?_ | refine callK (q2) ?_ | refine callK (paper_ok a r c) ?_); try simp only [go_sem, bas, basL, Nat.reduceAdd, Nat.reduceSub, Nat.reduceMul, Nat.reduceLT, Nat.reduceLeDiff, Nat.reduceEqDiff, Nat.reduceBEq, Int.reduceLT, Int.reduceLE, Int.reduceToNat, Int.reduceAdd, Int.reduceSub, Int.reduceMul, Int.reduceNeg, Int.reduceEq, reduceCtorEq, eq_self, ne_eq, not_false_eq_true, if_true, reduceIte])
        | (show retQ _ _ _ _ _; simp only [go_sem, bas, basL, Nat.reduceAdd, Nat.reduceSub, Nat.reduceMul, Nat.reduceLT, Nat.reduceLeDiff, Nat.reduceEqDiff, Nat.reduceBEq, Int.reduceLT, Int.reduceLE, Int.reduceToNat, Int.reduceAdd, Int.reduceSub, Int.reduceMul, Int.reduceNeg, Int.reduceEq, reduceCtorEq, eq_self, ne_eq, not_false_eq_true, if_true, reduceIte])
        | (intro hg; first | (exfalso; omega) | (exfalso; contradiction) | skip)
        | apply And.intro
        | (with_reducible rfl)
        | (clear hK; omega)
        | omega)
    all_goals skip
end Go.Proofs.Ythamljpomhjepaa
