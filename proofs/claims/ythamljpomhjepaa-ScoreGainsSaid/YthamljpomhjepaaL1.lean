import Derived.Test.YthamljpomhjepaaR3
import Derived.Test.YthamljpomhjepaaKn
set_option linter.unusedVariables false
set_option linter.unusedSimpArgs false
namespace Go.Proofs.Ythamljpomhjepaa
open Go.Ab
attribute [local irreducible] Abs CallK CallR CallsTo
set_option linter.unusedSimpArgs false

set_option maxRecDepth 100000 in
set_option maxHeartbeats 4000000 in
theorem gains_law (l : List Int) (k : Int) (b : List Int) (hl : l.length ≤ 9223372036854775807) (hb : b.length ≤ 9223372036854775807) : CallsTo Try.prog 3 [ints l, i64 k, ints b] (.bool true) := by
  have q1 := gainx_ok l k
  have q2 := hopex_ok b l
  by_cases h1 : Parts l
  · have p1 := h1.2.1
    have p2 := h1.2.2.1
    by_cases h2 : 0 ≤ k ∧ k < l.length
    · rw [if_pos ⟨h1, h2⟩, if_pos ⟨h1, h2⟩] at q1
      by_cases h3 : Parts b
      · have p3 := h3.2.1
        have p4 := h3.2.2.1
        by_cases h4 : b.length = l.length
        · rw [if_pos ⟨h3, h1, h4⟩] at q2
          have b1 := Hp_bd h3.small h1.small
          have b2 := Hp_bd h3.small h3.small
          refine calls_abs Try.func3 Try.ntmps3 Try.results3 Try.call3 rfl (by simp) fun w0 S0 M0 => ?_
          repeat' (first
              | refine abs_seq ?_
              | refine abs_block ?_
              | refine abs_skip ?_
              | refine abs_exit ?_
              | refine abs_ret ?_
              | ((first | refine abs_region fun K hK => ?_ | refine abs_draw Try.ty.mixed (by kernel_rfl) fun K hK => ?_ | refine abs_if ?_); simp only [go_sem, bas, basL, Nat.reduceAdd, Nat.reduceSub, Nat.reduceMul, Nat.reduceLT, Nat.reduceLeDiff, Nat.reduceEqDiff, Nat.reduceBEq, Int.reduceLT, Int.reduceLE, Int.reduceToNat, Int.reduceAdd, Int.reduceSub, Int.reduceMul, Int.reduceNeg, Int.reduceEq, reduceCtorEq, eq_self, ne_eq, not_false_eq_true, if_true, reduceIte])
              | (refine hK _ ?_; clear hK K; simp only [thenQ, blockQ, if_true, Nat.reduceEqDiff, reduceIte])
              | (show thenQ _ _ _ _; simp only [thenQ, blockQ, if_true, Nat.reduceEqDiff, reduceIte])
              | (show blockQ _ _ _ _; simp only [thenQ, blockQ, if_true, Nat.reduceEqDiff, reduceIte])
              | ((first | refine callK (known_ok) ?_ | refine callK (q1) ?_ | refine callK (q2) ?_ | refine callK (parts_ok l hl) ?_ | refine callK (parts_ok b hb) ?_ | refine callK (gain_ok l h1.small k h2.1 h2.2) ?_ | refine callK (hope_ok b l h3.small h1.small (by omega)) ?_ | refine callK (hope_ok b b h3.small h3.small (by omega)) ?_); try simp only [go_sem, bas, basL, Nat.reduceAdd, Nat.reduceSub, Nat.reduceMul, Nat.reduceLT, Nat.reduceLeDiff, Nat.reduceEqDiff, Nat.reduceBEq, Int.reduceLT, Int.reduceLE, Int.reduceToNat, Int.reduceAdd, Int.reduceSub, Int.reduceMul, Int.reduceNeg, Int.reduceEq, reduceCtorEq, eq_self, ne_eq, not_false_eq_true, if_true, reduceIte])
              | (show retQ _ _ _ _ _; simp only [go_sem, bas, basL, Nat.reduceAdd, Nat.reduceSub, Nat.reduceMul, Nat.reduceLT, Nat.reduceLeDiff, Nat.reduceEqDiff, Nat.reduceBEq, Int.reduceLT, Int.reduceLE, Int.reduceToNat, Int.reduceAdd, Int.reduceSub, Int.reduceMul, Int.reduceNeg, Int.reduceEq, reduceCtorEq, eq_self, ne_eq, not_false_eq_true, if_true, reduceIte])
              | (intro hg; first | (exfalso; omega) | (exfalso; contradiction) | skip)
              | apply And.intro
              | (with_reducible rfl)
              | (clear hK; omega)
              | omega)
          all_goals skip
        · rw [if_neg (fun h => h4 h.2.2)] at q2
          refine calls_abs Try.func3 Try.ntmps3 Try.results3 Try.call3 rfl (by simp) fun w0 S0 M0 => ?_
          repeat' (first
              | refine abs_seq ?_
              | refine abs_block ?_
              | refine abs_skip ?_
              | refine abs_exit ?_
              | refine abs_ret ?_
              | ((first | refine abs_region fun K hK => ?_ | refine abs_draw Try.ty.mixed (by kernel_rfl) fun K hK => ?_ | refine abs_if ?_); simp only [go_sem, bas, basL, Nat.reduceAdd, Nat.reduceSub, Nat.reduceMul, Nat.reduceLT, Nat.reduceLeDiff, Nat.reduceEqDiff, Nat.reduceBEq, Int.reduceLT, Int.reduceLE, Int.reduceToNat, Int.reduceAdd, Int.reduceSub, Int.reduceMul, Int.reduceNeg, Int.reduceEq, reduceCtorEq, eq_self, ne_eq, not_false_eq_true, if_true, reduceIte])
              | (refine hK _ ?_; clear hK K; simp only [thenQ, blockQ, if_true, Nat.reduceEqDiff, reduceIte])
              | (show thenQ _ _ _ _; simp only [thenQ, blockQ, if_true, Nat.reduceEqDiff, reduceIte])
              | (show blockQ _ _ _ _; simp only [thenQ, blockQ, if_true, Nat.reduceEqDiff, reduceIte])
              | ((first | refine callK (known_ok) ?_ | refine callK (q1) ?_ | refine callK (q2) ?_ | refine callK (parts_ok l hl) ?_ | refine callK (parts_ok b hb) ?_ | refine callK (gain_ok l h1.small k h2.1 h2.2) ?_); try simp only [go_sem, bas, basL, Nat.reduceAdd, Nat.reduceSub, Nat.reduceMul, Nat.reduceLT, Nat.reduceLeDiff, Nat.reduceEqDiff, Nat.reduceBEq, Int.reduceLT, Int.reduceLE, Int.reduceToNat, Int.reduceAdd, Int.reduceSub, Int.reduceMul, Int.reduceNeg, Int.reduceEq, reduceCtorEq, eq_self, ne_eq, not_false_eq_true, if_true, reduceIte])
              | (show retQ _ _ _ _ _; simp only [go_sem, bas, basL, Nat.reduceAdd, Nat.reduceSub, Nat.reduceMul, Nat.reduceLT, Nat.reduceLeDiff, Nat.reduceEqDiff, Nat.reduceBEq, Int.reduceLT, Int.reduceLE, Int.reduceToNat, Int.reduceAdd, Int.reduceSub, Int.reduceMul, Int.reduceNeg, Int.reduceEq, reduceCtorEq, eq_self, ne_eq, not_false_eq_true, if_true, reduceIte])
              | (intro hg; first | (exfalso; omega) | (exfalso; contradiction) | skip)
              | apply And.intro
              | (with_reducible rfl)
              | (clear hK; omega)
              | omega)
          all_goals skip
      · rw [if_neg (fun h => h3 h.1)] at q2
        refine calls_abs Try.func3 Try.ntmps3 Try.results3 Try.call3 rfl (by simp) fun w0 S0 M0 => ?_
        repeat' (first
            | refine abs_seq ?_
            | refine abs_block ?_
            | refine abs_skip ?_
            | refine abs_exit ?_
            | refine abs_ret ?_
            | ((first | refine abs_region fun K hK => ?_ | refine abs_draw Try.ty.mixed (by kernel_rfl) fun K hK => ?_ | refine abs_if ?_); simp only [go_sem, bas, basL, Nat.reduceAdd, Nat.reduceSub, Nat.reduceMul, Nat.reduceLT, Nat.reduceLeDiff, Nat.reduceEqDiff, Nat.reduceBEq, Int.reduceLT, Int.reduceLE, Int.reduceToNat, Int.reduceAdd, Int.reduceSub, Int.reduceMul, Int.reduceNeg, Int.reduceEq, reduceCtorEq, eq_self, ne_eq, not_false_eq_true, if_true, reduceIte])
            | (refine hK _ ?_; clear hK K; simp only [thenQ, blockQ, if_true, Nat.reduceEqDiff, reduceIte])
            | (show thenQ _ _ _ _; simp only [thenQ, blockQ, if_true, Nat.reduceEqDiff, reduceIte])
            | (show blockQ _ _ _ _; simp only [thenQ, blockQ, if_true, Nat.reduceEqDiff, reduceIte])
            | ((first | refine callK (known_ok) ?_ | refine callK (q1) ?_ | refine callK (q2) ?_ | refine callK (parts_ok l hl) ?_ | refine callK (parts_ok b hb) ?_ | refine callK (gain_ok l h1.small k h2.1 h2.2) ?_); try simp only [go_sem, bas, basL, Nat.reduceAdd, Nat.reduceSub, Nat.reduceMul, Nat.reduceLT, Nat.reduceLeDiff, Nat.reduceEqDiff, Nat.reduceBEq, Int.reduceLT, Int.reduceLE, Int.reduceToNat, Int.reduceAdd, Int.reduceSub, Int.reduceMul, Int.reduceNeg, Int.reduceEq, reduceCtorEq, eq_self, ne_eq, not_false_eq_true, if_true, reduceIte])
            | (show retQ _ _ _ _ _; simp only [go_sem, bas, basL, Nat.reduceAdd, Nat.reduceSub, Nat.reduceMul, Nat.reduceLT, Nat.reduceLeDiff, Nat.reduceEqDiff, Nat.reduceBEq, Int.reduceLT, Int.reduceLE, Int.reduceToNat, Int.reduceAdd, Int.reduceSub, Int.reduceMul, Int.reduceNeg, Int.reduceEq, reduceCtorEq, eq_self, ne_eq, not_false_eq_true, if_true, reduceIte])
            | (intro hg; first | (exfalso; omega) | (exfalso; contradiction) | skip)
            | apply And.intro
            | (with_reducible rfl)
            | (clear hK; omega)
            | omega)
        all_goals skip
    · rw [if_neg (fun h => h2 h.2), if_neg (fun h => h2 h.2)] at q1
      by_cases h3 : Parts b
      · have p3 := h3.2.1
        have p4 := h3.2.2.1
        by_cases h4 : b.length = l.length
        · rw [if_pos ⟨h3, h1, h4⟩] at q2
          have b1 := Hp_bd h3.small h1.small
          have b2 := Hp_bd h3.small h3.small
          refine calls_abs Try.func3 Try.ntmps3 Try.results3 Try.call3 rfl (by simp) fun w0 S0 M0 => ?_
          repeat' (first
              | refine abs_seq ?_
              | refine abs_block ?_
              | refine abs_skip ?_
              | refine abs_exit ?_
              | refine abs_ret ?_
              | ((first | refine abs_region fun K hK => ?_ | refine abs_draw Try.ty.mixed (by kernel_rfl) fun K hK => ?_ | refine abs_if ?_); simp only [go_sem, bas, basL, Nat.reduceAdd, Nat.reduceSub, Nat.reduceMul, Nat.reduceLT, Nat.reduceLeDiff, Nat.reduceEqDiff, Nat.reduceBEq, Int.reduceLT, Int.reduceLE, Int.reduceToNat, Int.reduceAdd, Int.reduceSub, Int.reduceMul, Int.reduceNeg, Int.reduceEq, reduceCtorEq, eq_self, ne_eq, not_false_eq_true, if_true, reduceIte])
              | (refine hK _ ?_; clear hK K; simp only [thenQ, blockQ, if_true, Nat.reduceEqDiff, reduceIte])
              | (show thenQ _ _ _ _; simp only [thenQ, blockQ, if_true, Nat.reduceEqDiff, reduceIte])
              | (show blockQ _ _ _ _; simp only [thenQ, blockQ, if_true, Nat.reduceEqDiff, reduceIte])
              | ((first | refine callK (known_ok) ?_ | refine callK (q1) ?_ | refine callK (q2) ?_ | refine callK (parts_ok l hl) ?_ | refine callK (parts_ok b hb) ?_ | refine callK (hope_ok b l h3.small h1.small (by omega)) ?_ | refine callK (hope_ok b b h3.small h3.small (by omega)) ?_); try simp only [go_sem, bas, basL, Nat.reduceAdd, Nat.reduceSub, Nat.reduceMul, Nat.reduceLT, Nat.reduceLeDiff, Nat.reduceEqDiff, Nat.reduceBEq, Int.reduceLT, Int.reduceLE, Int.reduceToNat, Int.reduceAdd, Int.reduceSub, Int.reduceMul, Int.reduceNeg, Int.reduceEq, reduceCtorEq, eq_self, ne_eq, not_false_eq_true, if_true, reduceIte])
              | (show retQ _ _ _ _ _; simp only [go_sem, bas, basL, Nat.reduceAdd, Nat.reduceSub, Nat.reduceMul, Nat.reduceLT, Nat.reduceLeDiff, Nat.reduceEqDiff, Nat.reduceBEq, Int.reduceLT, Int.reduceLE, Int.reduceToNat, Int.reduceAdd, Int.reduceSub, Int.reduceMul, Int.reduceNeg, Int.reduceEq, reduceCtorEq, eq_self, ne_eq, not_false_eq_true, if_true, reduceIte])
              | (intro hg; first | (exfalso; omega) | (exfalso; contradiction) | skip)
              | apply And.intro
              | (with_reducible rfl)
              | (clear hK; omega)
              | omega)
          all_goals skip
        · rw [if_neg (fun h => h4 h.2.2)] at q2
          refine calls_abs Try.func3 Try.ntmps3 Try.results3 Try.call3 rfl (by simp) fun w0 S0 M0 => ?_
          repeat' (first
              | refine abs_seq ?_
              | refine abs_block ?_
              | refine abs_skip ?_
              | refine abs_exit ?_
              | refine abs_ret ?_
              | ((first | refine abs_region fun K hK => ?_ | refine abs_draw Try.ty.mixed (by kernel_rfl) fun K hK => ?_ | refine abs_if ?_); simp only [go_sem, bas, basL, Nat.reduceAdd, Nat.reduceSub, Nat.reduceMul, Nat.reduceLT, Nat.reduceLeDiff, Nat.reduceEqDiff, Nat.reduceBEq, Int.reduceLT, Int.reduceLE, Int.reduceToNat, Int.reduceAdd, Int.reduceSub, Int.reduceMul, Int.reduceNeg, Int.reduceEq, reduceCtorEq, eq_self, ne_eq, not_false_eq_true, if_true, reduceIte])
              | (refine hK _ ?_; clear hK K; simp only [thenQ, blockQ, if_true, Nat.reduceEqDiff, reduceIte])
              | (show thenQ _ _ _ _; simp only [thenQ, blockQ, if_true, Nat.reduceEqDiff, reduceIte])
              | (show blockQ _ _ _ _; simp only [thenQ, blockQ, if_true, Nat.reduceEqDiff, reduceIte])
              | ((first | refine callK (known_ok) ?_ | refine callK (q1) ?_ | refine callK (q2) ?_ | refine callK (parts_ok l hl) ?_ | refine callK (parts_ok b hb) ?_); try simp only [go_sem, bas, basL, Nat.reduceAdd, Nat.reduceSub, Nat.reduceMul, Nat.reduceLT, Nat.reduceLeDiff, Nat.reduceEqDiff, Nat.reduceBEq, Int.reduceLT, Int.reduceLE, Int.reduceToNat, Int.reduceAdd, Int.reduceSub, Int.reduceMul, Int.reduceNeg, Int.reduceEq, reduceCtorEq, eq_self, ne_eq, not_false_eq_true, if_true, reduceIte])
              | (show retQ _ _ _ _ _; simp only [go_sem, bas, basL, Nat.reduceAdd, Nat.reduceSub, Nat.reduceMul, Nat.reduceLT, Nat.reduceLeDiff, Nat.reduceEqDiff, Nat.reduceBEq, Int.reduceLT, Int.reduceLE, Int.reduceToNat, Int.reduceAdd, Int.reduceSub, Int.reduceMul, Int.reduceNeg, Int.reduceEq, reduceCtorEq, eq_self, ne_eq, not_false_eq_true, if_true, reduceIte])
              | (intro hg; first | (exfalso; omega) | (exfalso; contradiction) | skip)
              | apply And.intro
              | (with_reducible rfl)
              | (clear hK; omega)
              | omega)
          all_goals skip
      · rw [if_neg (fun h => h3 h.1)] at q2
        refine calls_abs Try.func3 Try.ntmps3 Try.results3 Try.call3 rfl (by simp) fun w0 S0 M0 => ?_
        repeat' (first
            | refine abs_seq ?_
            | refine abs_block ?_
            | refine abs_skip ?_
            | refine abs_exit ?_
            | refine abs_ret ?_
            | ((first | refine abs_region fun K hK => ?_ | refine abs_draw Try.ty.mixed (by kernel_rfl) fun K hK => ?_ | refine abs_if ?_); simp only [go_sem, bas, basL, Nat.reduceAdd, Nat.reduceSub, Nat.reduceMul, Nat.reduceLT, Nat.reduceLeDiff, Nat.reduceEqDiff, Nat.reduceBEq, Int.reduceLT, Int.reduceLE, Int.reduceToNat, Int.reduceAdd, Int.reduceSub, Int.reduceMul, Int.reduceNeg, Int.reduceEq, reduceCtorEq, eq_self, ne_eq, not_false_eq_true, if_true, reduceIte])
            | (refine hK _ ?_; clear hK K; simp only [thenQ, blockQ, if_true, Nat.reduceEqDiff, reduceIte])
            | (show thenQ _ _ _ _; simp only [thenQ, blockQ, if_true, Nat.reduceEqDiff, reduceIte])
            | (show blockQ _ _ _ _; simp only [thenQ, blockQ, if_true, Nat.reduceEqDiff, reduceIte])
            | ((first | refine callK (known_ok) ?_ | refine callK (q1) ?_ | refine callK (q2) ?_ | refine callK (parts_ok l hl) ?_ | refine callK (parts_ok b hb) ?_); try simp only [go_sem, bas, basL, Nat.reduceAdd, Nat.reduceSub, Nat.reduceMul, Nat.reduceLT, Nat.reduceLeDiff, Nat.reduceEqDiff, Nat.reduceBEq, Int.reduceLT, Int.reduceLE, Int.reduceToNat, Int.reduceAdd, Int.reduceSub, Int.reduceMul, Int.reduceNeg, Int.reduceEq, reduceCtorEq, eq_self, ne_eq, not_false_eq_true, if_true, reduceIte])
            | (show retQ _ _ _ _ _; simp only [go_sem, bas, basL, Nat.reduceAdd, Nat.reduceSub, Nat.reduceMul, Nat.reduceLT, Nat.reduceLeDiff, Nat.reduceEqDiff, Nat.reduceBEq, Int.reduceLT, Int.reduceLE, Int.reduceToNat, Int.reduceAdd, Int.reduceSub, Int.reduceMul, Int.reduceNeg, Int.reduceEq, reduceCtorEq, eq_self, ne_eq, not_false_eq_true, if_true, reduceIte])
            | (intro hg; first | (exfalso; omega) | (exfalso; contradiction) | skip)
            | apply And.intro
            | (with_reducible rfl)
            | (clear hK; omega)
            | omega)
        all_goals skip
  · rw [if_neg (fun h => h1 h.1), if_neg (fun h => h1 h.1)] at q1
    rw [if_neg (fun h => h1 h.2.1)] at q2
    refine calls_abs Try.func3 Try.ntmps3 Try.results3 Try.call3 rfl (by simp) fun w0 S0 M0 => ?_
    repeat' (first
        | refine abs_seq ?_
        | refine abs_block ?_
        | refine abs_skip ?_
        | refine abs_exit ?_
        | refine abs_ret ?_
        | ((first | refine abs_region fun K hK => ?_ | refine abs_draw Try.ty.mixed (by kernel_rfl) fun K hK => ?_ | refine abs_if ?_); simp only [go_sem, bas, basL, Nat.reduceAdd, Nat.reduceSub, Nat.reduceMul, Nat.reduceLT, Nat.reduceLeDiff, Nat.reduceEqDiff, Nat.reduceBEq, Int.reduceLT, Int.reduceLE, Int.reduceToNat, Int.reduceAdd, Int.reduceSub, Int.reduceMul, Int.reduceNeg, Int.reduceEq, reduceCtorEq, eq_self, ne_eq, not_false_eq_true, if_true, reduceIte])
        | (refine hK _ ?_; clear hK K; simp only [thenQ, blockQ, if_true, Nat.reduceEqDiff, reduceIte])
        | (show thenQ _ _ _ _; simp only [thenQ, blockQ, if_true, Nat.reduceEqDiff, reduceIte])
        | (show blockQ _ _ _ _; simp only [thenQ, blockQ, if_true, Nat.reduceEqDiff, reduceIte])
        | ((first | refine callK (known_ok) ?_ | refine callK (q1) ?_ | refine callK (q2) ?_ | refine callK (parts_ok l hl) ?_ | refine callK (parts_ok b hb) ?_); try simp only [go_sem, bas, basL, Nat.reduceAdd, Nat.reduceSub, Nat.reduceMul, Nat.reduceLT, Nat.reduceLeDiff, Nat.reduceEqDiff, Nat.reduceBEq, Int.reduceLT, Int.reduceLE, Int.reduceToNat, Int.reduceAdd, Int.reduceSub, Int.reduceMul, Int.reduceNeg, Int.reduceEq, reduceCtorEq, eq_self, ne_eq, not_false_eq_true, if_true, reduceIte])
        | (show retQ _ _ _ _ _; simp only [go_sem, bas, basL, Nat.reduceAdd, Nat.reduceSub, Nat.reduceMul, Nat.reduceLT, Nat.reduceLeDiff, Nat.reduceEqDiff, Nat.reduceBEq, Int.reduceLT, Int.reduceLE, Int.reduceToNat, Int.reduceAdd, Int.reduceSub, Int.reduceMul, Int.reduceNeg, Int.reduceEq, reduceCtorEq, eq_self, ne_eq, not_false_eq_true, if_true, reduceIte])
        | (intro hg; first | (exfalso; omega) | (exfalso; contradiction) | skip)
        | apply And.intro
        | (with_reducible rfl)
        | (clear hK; omega)
        | omega)
    all_goals skip
end Go.Proofs.Ythamljpomhjepaa
