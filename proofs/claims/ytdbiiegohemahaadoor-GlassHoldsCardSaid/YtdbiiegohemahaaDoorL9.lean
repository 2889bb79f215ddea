import Derived.Test.YtdbiiegohemahaaDoorL0
import Derived.Test.YtdbiiegohemahaaDoorM0
import Derived.Test.YtdbiiegohemahaaDoorL4
set_option linter.unusedVariables false
set_option linter.unusedSimpArgs false
namespace Go.Proofs.YtdbiiegohemahaaDoor
open Go.Ab
attribute [local irreducible] Abs CallK CallR CallsTo IA
set_option maxRecDepth 100000 in
set_option maxHeartbeats 4000000 in
theorem holds_law (s : Stn) (hl : s.ck.length ≤ 9223372036854775807) (r : Rdg) (t : Tru) : CallsTo Tryd.prog 8 [stD s, rdD r, trD t] (.bool true) := by
  by_cases hag : StOk s ∧ NoClash s
  · have hs := hag.1
    have hn := hag.2
    have h1 := agr1 hs hn
    by_cases hr : RdOk r
    · have d1 : CallsTo Tryd.prog 31 [rdD r] (.bool true) := decide_eq_true hr ▸ reading_ok r
      by_cases ht : TrOk s r t
      · have d2 : CallsTo Tryd.prog 32 [stD s, rdD r, trD t] (.bool true) := decide_eq_true ht ▸ rtruth_ok s hs r hr t
        have he := errN_ok (s := s) (fine := RdOk r) ⟨hs, hr⟩ hn
        have h4 := gPlay_ok s hl r t
        have e : plE s r t = 0 := by unfold plE; rw [if_pos he, if_pos ht]
        rw [e, if_pos rfl] at h4
        have h5 := gKnow_ok s hl r
        rw [he, if_pos rfl] at h5
        obtain ⟨q1, q2, q3, q4, q5⟩ := holds hs hr hn ht
        have w1 : CallsTo Tryd.prog 36 [i64 (here r t), spD (here r (endT s r 0)) (here r (endT s r 1))] (.bool true) := decide_eq_true q1 ▸ rwithin_ok _ _ _
        have w2 : CallsTo Tryd.prog 36 [i64 (seaT r t), spD (seaT r (endT s r 2)) (seaT r (endT s r 3))] (.bool true) := decide_eq_true q2 ▸ rwithin_ok _ _ _
        have w3 : CallsTo Tryd.prog 36 [i64 (hum r t), spD (hum r (endT s r 4)) (hum r (endT s r 5))] (.bool true) := decide_eq_true q3 ▸ rwithin_ok _ _ _
        refine calls_abs Tryd.func8 Tryd.ntmps8 Tryd.results8 Tryd.call8 rfl (by simp) fun w0 S0 M0 => ?_
        repeat' (first
            | refine abs_seq ?_
            | refine abs_block ?_
            | refine abs_skip ?_
            | refine abs_scope ?_
            | refine abs_label ?_
            | refine abs_exit ?_
            | refine abs_ret ?_
            | ((first | refine abs_region fun K hK => ?_ | refine abs_draw Tryd.ty.mixed (by kernel_rfl) fun K hK => ?_ | refine abs_if ?_ | show retQ _ _ _ _ _ | refine callK (h1) ?_ | refine callK (d1) ?_ | refine callK (d2) ?_ | refine callK (h4) ?_ | refine callK (h5) ?_ | refine callK (w1) ?_ | refine callK (w2) ?_ | refine callK (w3) ?_ | refine callK (known_ok) ?_); simp -implicitDefEqProofs only [go_sem, bas, basL, Nat.reduceAdd, Nat.reduceSub, Nat.reduceMul, Nat.reduceLT, Nat.reduceLeDiff, Nat.reduceEqDiff, Nat.reduceBEq, Int.reduceLT, Int.reduceLE, Int.reduceToNat, Int.reduceAdd, Int.reduceSub, Int.reduceMul, Int.reduceNeg, Int.reduceEq, reduceCtorEq, eq_self, ne_eq, not_false_eq_true, if_true, reduceIte])
            | ((first | (refine hK _ ?_; clear hK K) | show thenQ _ _ _ _ | show blockQ _ _ _ _ | show noGoQ _ _ _); simp only [noGoQ, thenQ, blockQ, if_true, Nat.reduceEqDiff, reduceIte])
            | (intro hg; first | (exfalso; omega) | (exfalso; contradiction) | skip)
            | apply And.intro
            | (with_reducible rfl)
            | (clear hK; omega)
            | omega)
      · have d2 : CallsTo Tryd.prog 32 [stD s, rdD r, trD t] (.bool false) := decide_eq_false ht ▸ rtruth_ok s hs r hr t
        refine calls_abs Tryd.func8 Tryd.ntmps8 Tryd.results8 Tryd.call8 rfl (by simp) fun w0 S0 M0 => ?_
        repeat' (first
            | refine abs_seq ?_
            | refine abs_block ?_
            | refine abs_skip ?_
            | refine abs_scope ?_
            | refine abs_label ?_
            | refine abs_exit ?_
            | refine abs_ret ?_
            | ((first | refine abs_region fun K hK => ?_ | refine abs_draw Tryd.ty.mixed (by kernel_rfl) fun K hK => ?_ | refine abs_if ?_ | show retQ _ _ _ _ _ | refine callK (h1) ?_ | refine callK (d1) ?_ | refine callK (d2) ?_ | refine callK (known_ok) ?_); simp -implicitDefEqProofs only [go_sem, bas, basL, Nat.reduceAdd, Nat.reduceSub, Nat.reduceMul, Nat.reduceLT, Nat.reduceLeDiff, Nat.reduceEqDiff, Nat.reduceBEq, Int.reduceLT, Int.reduceLE, Int.reduceToNat, Int.reduceAdd, Int.reduceSub, Int.reduceMul, Int.reduceNeg, Int.reduceEq, reduceCtorEq, eq_self, ne_eq, not_false_eq_true, if_true, reduceIte])
            | ((first | (refine hK _ ?_; clear hK K) | show thenQ _ _ _ _ | show blockQ _ _ _ _ | show noGoQ _ _ _); simp only [noGoQ, thenQ, blockQ, if_true, Nat.reduceEqDiff, reduceIte])
            | (intro hg; first | (exfalso; omega) | (exfalso; contradiction) | skip)
            | apply And.intro
            | (with_reducible rfl)
            | (clear hK; omega)
            | omega)
    · have d1 : CallsTo Tryd.prog 31 [rdD r] (.bool false) := decide_eq_false hr ▸ reading_ok r
      refine calls_abs Tryd.func8 Tryd.ntmps8 Tryd.results8 Tryd.call8 rfl (by simp) fun w0 S0 M0 => ?_
      repeat' (first
          | refine abs_seq ?_
          | refine abs_block ?_
          | refine abs_skip ?_
          | refine abs_scope ?_
          | refine abs_label ?_
          | refine abs_exit ?_
          | refine abs_ret ?_
          | ((first | refine abs_region fun K hK => ?_ | refine abs_draw Tryd.ty.mixed (by kernel_rfl) fun K hK => ?_ | refine abs_if ?_ | show retQ _ _ _ _ _ | refine callK (h1) ?_ | refine callK (d1) ?_ | refine callK (known_ok) ?_); simp -implicitDefEqProofs only [go_sem, bas, basL, Nat.reduceAdd, Nat.reduceSub, Nat.reduceMul, Nat.reduceLT, Nat.reduceLeDiff, Nat.reduceEqDiff, Nat.reduceBEq, Int.reduceLT, Int.reduceLE, Int.reduceToNat, Int.reduceAdd, Int.reduceSub, Int.reduceMul, Int.reduceNeg, Int.reduceEq, reduceCtorEq, eq_self, ne_eq, not_false_eq_true, if_true, reduceIte])
          | ((first | (refine hK _ ?_; clear hK K) | show thenQ _ _ _ _ | show blockQ _ _ _ _ | show noGoQ _ _ _); simp only [noGoQ, thenQ, blockQ, if_true, Nat.reduceEqDiff, reduceIte])
          | (intro hg; first | (exfalso; omega) | (exfalso; contradiction) | skip)
          | apply And.intro
          | (with_reducible rfl)
          | (clear hK; omega)
          | omega)
  · have h1 := agr0 hl hag
    refine calls_abs Tryd.func8 Tryd.ntmps8 Tryd.results8 Tryd.call8 rfl (by simp) fun w0 S0 M0 => ?_
    repeat' (first
        | refine abs_seq ?_
        | refine abs_block ?_
        | refine abs_skip ?_
        | refine abs_scope ?_
        | refine abs_label ?_
        | refine abs_exit ?_
        | refine abs_ret ?_
        | ((first | refine abs_region fun K hK => ?_ | refine abs_draw Tryd.ty.mixed (by kernel_rfl) fun K hK => ?_ | refine abs_if ?_ | show retQ _ _ _ _ _ | refine callK (h1) ?_ | refine callK (known_ok) ?_); simp -implicitDefEqProofs only [go_sem, bas, basL, Nat.reduceAdd, Nat.reduceSub, Nat.reduceMul, Nat.reduceLT, Nat.reduceLeDiff, Nat.reduceEqDiff, Nat.reduceBEq, Int.reduceLT, Int.reduceLE, Int.reduceToNat, Int.reduceAdd, Int.reduceSub, Int.reduceMul, Int.reduceNeg, Int.reduceEq, reduceCtorEq, eq_self, ne_eq, not_false_eq_true, if_true, reduceIte])
        | ((first | (refine hK _ ?_; clear hK K) | show thenQ _ _ _ _ | show blockQ _ _ _ _ | show noGoQ _ _ _); simp only [noGoQ, thenQ, blockQ, if_true, Nat.reduceEqDiff, reduceIte])
        | (intro hg; first | (exfalso; omega) | (exfalso; contradiction) | skip)
        | apply And.intro
        | (with_reducible rfl)
        | (clear hK; omega)
        | omega)
end Go.Proofs.YtdbiiegohemahaaDoor
