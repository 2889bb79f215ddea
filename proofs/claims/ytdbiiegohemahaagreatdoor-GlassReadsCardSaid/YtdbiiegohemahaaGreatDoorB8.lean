import Derived.Test.YtdbiiegohemahaaGreatDoorB5
set_option linter.unusedVariables false
set_option linter.unusedSimpArgs false
namespace Go.Proofs.YtdbiiegohemahaaGreatDoor
open Go.Ab
attribute [local irreducible] Abs CallK CallR CallsTo IA

set_option maxRecDepth 100000 in
set_option maxHeartbeats 4000000 in
theorem gRise_ok (s : Stn) (hl : s.ck.length ≤ 9223372036854775807) (a b : Rdg) : CallsTo Tryz.prog 19 [stD s, rdD a, rdD b]
    (.tup [if errN s (RdOk a ∧ RdOk b) = 0 then spD (riseL s a b) (riseH s a b) else spD 0 0, i64 (errN s (RdOk a ∧ RdOk b))]) := by
  have ha := asked_ok (s := s) (fine := RdOk a ∧ RdOk b) hl
  by_cases h : errN s (RdOk a ∧ RdOk b) = 0
  · have h2 := errN_zero h
    have hs := h2.1.1
    have hra := h2.1.2.1
    have hrb := h2.1.2.2
    rw [h] at ha ⊢
    rw [if_pos rfl] at ha ⊢
    rw [decide_eq_true h2.1.2] at ha
    have g1 : CallsTo Tryz.prog 37 [rdD a] (.bool true) := decide_eq_true hra ▸ greading_ok a
    have g2 : CallsTo Tryz.prog 37 [rdD b] (.bool true) := decide_eq_true hrb ▸ greading_ok b
    have b1 := ixH_bd hs hra.d; have b2 := ixL_bd hs hrb.d; have b3 := ixH_bd hs hrb.d; have b4 := ixL_bd hs hra.d
    have b5 := mul_bd hs.d.1 hs.d.2 (far_bd hra.d hrb.d).1 (far_bd hra.d hrb.d).2
    have q1 := hra.q; have q2 := hrb.q; have q3 := hs.r
    have e1 : riseL s a b = b.mer - a.mer - min (ixH s b.day - ixL s a.day) (s.dr * far a.day b.day) - 2 * s.rd := by unfold riseL; rw [far_comm b.day a.day]
    have e2 : riseH s a b = b.mer - a.mer - max (ixL s b.day - ixH s a.day) (-(s.dr * far a.day b.day)) + 2 * s.rd := by unfold riseH; omega
    rw [e1, e2]
    refine calls_abs Tryz.func19 Tryz.ntmps19 Tryz.results19 Tryz.call19 rfl (by simp) fun w0 S0 M0 => ?_
    repeat' (first
        | refine abs_seq ?_
        | refine abs_block ?_
        | refine abs_skip ?_
        | refine abs_scope ?_
        | refine abs_label ?_
        | refine abs_exit ?_
        | refine abs_ret ?_
        | ((first | (show Abs _ (.region 1 _ true) _ _; refine abs_drawD [(3, 8), (4, 8), (5, 8)] Tryz.ty.mixed (by kernel_rfl) fun K hK => ?_) | (show Abs _ (.region 5 _ true) _ _; refine abs_drawP [(8, 11), (8, 12), (40, 11), (40, 12), (44, 11), (44, 12), (12, 11), (11, 12)] [0, 1, 2, 3, 4, 5, 6, 7] 8 9 [10, 11] Tryz.ty.mixed (by kernel_rfl) fun K hK => ?_) | show Sep _ _ | refine abs_region fun K hK => ?_ | refine abs_draw Tryz.ty.mixed (by kernel_rfl) fun K hK => ?_ | refine abs_if ?_ | show retQ _ _ _ _ _ | refine callK (g1) ?_ | refine callK (g2) ?_ | refine callK (ha) ?_ | refine callK (gofar_ok _ _ hra.d hrb.d) ?_ | refine callK (index_ok s hs a.day hra.d) ?_ | refine callK (index_ok s hs b.day hrb.d) ?_ | refine callK (least_ok _ _) ?_ | refine callK (greatest_ok _ _) ?_); simp -implicitDefEqProofs only [go_sem, bas, basL, Nat.reduceAdd, Nat.reduceSub, Nat.reduceMul, Nat.reduceLT, Nat.reduceLeDiff, Nat.reduceEqDiff, Nat.reduceBEq, Int.reduceLT, Int.reduceLE, Int.reduceToNat, Int.reduceAdd, Int.reduceSub, Int.reduceMul, Int.reduceNeg, Int.reduceEq, reduceCtorEq, eq_self, ne_eq, not_false_eq_true, if_true, reduceIte])
        | ((first | (refine hK _ ?_; clear hK K) | show thenQ _ _ _ _ | show blockQ _ _ _ _ | show noGoQ _ _ _); simp only [noGoQ, thenQ, blockQ, if_true, Nat.reduceEqDiff, reduceIte])
        | (show SLe _ _; refine sle_of rfl ?_ ?_ rfl)
        | (show SlLe _ _; first | refine slle_none | refine slle_put ?_ ?_)
        | (show @Eq D _ _; simp -implicitDefEqProofs only [go_sem, bas, basL, Nat.reduceAdd, Nat.reduceSub, Nat.reduceMul, Nat.reduceLT, Nat.reduceLeDiff, Nat.reduceEqDiff, Nat.reduceBEq, Int.reduceLT, Int.reduceLE, Int.reduceToNat, Int.reduceAdd, Int.reduceSub, Int.reduceMul, Int.reduceNeg, Int.reduceEq, reduceCtorEq, eq_self, ne_eq, not_false_eq_true, if_true, reduceIte]; done)
        | (show @Eq (List Bx) _ _; simp -implicitDefEqProofs only [go_sem, bas, basL, Nat.reduceAdd, Nat.reduceSub, Nat.reduceMul, Nat.reduceLT, Nat.reduceLeDiff, Nat.reduceEqDiff, Nat.reduceBEq, Int.reduceLT, Int.reduceLE, Int.reduceToNat, Int.reduceAdd, Int.reduceSub, Int.reduceMul, Int.reduceNeg, Int.reduceEq, reduceCtorEq, eq_self, ne_eq, not_false_eq_true, if_true, reduceIte]; done)
        | (intro hg; first | (exfalso; omega) | (exfalso; contradiction) | skip)
        | apply And.intro
        | (with_reducible rfl)
        | (clear hK; omega)
        | omega)
    all_goals skip
  · by_cases hra : RdOk a
    · have g1 : CallsTo Tryz.prog 37 [rdD a] (.bool true) := decide_eq_true hra ▸ greading_ok a
      have e : decide (RdOk a ∧ RdOk b) = decide (RdOk b) := by simp [hra]
      rw [e] at ha
      generalize errN s (RdOk a ∧ RdOk b) = e at *
      rw [if_neg h] at ha ⊢
      refine calls_abs Tryz.func19 Tryz.ntmps19 Tryz.results19 Tryz.call19 rfl (by simp) fun w0 S0 M0 => ?_
      repeat' (first
          | refine abs_seq ?_
          | refine abs_block ?_
          | refine abs_skip ?_
          | refine abs_scope ?_
          | refine abs_label ?_
          | refine abs_exit ?_
          | refine abs_ret ?_
          | ((first | (show Abs _ (.region 1 _ true) _ _; refine abs_drawD [(3, 8), (4, 8), (5, 8)] Tryz.ty.mixed (by kernel_rfl) fun K hK => ?_) | (show Abs _ (.region 5 _ true) _ _; refine abs_drawP [(8, 11), (8, 12), (40, 11), (40, 12), (44, 11), (44, 12), (12, 11), (11, 12)] [0, 1, 2, 3, 4, 5, 6, 7] 8 9 [10, 11] Tryz.ty.mixed (by kernel_rfl) fun K hK => ?_) | show Sep _ _ | refine abs_region fun K hK => ?_ | refine abs_draw Tryz.ty.mixed (by kernel_rfl) fun K hK => ?_ | refine abs_if ?_ | show retQ _ _ _ _ _ | refine callK (g1) ?_ | refine callK (greading_ok _) ?_ | refine callK (ha) ?_); simp -implicitDefEqProofs only [go_sem, bas, basL, Nat.reduceAdd, Nat.reduceSub, Nat.reduceMul, Nat.reduceLT, Nat.reduceLeDiff, Nat.reduceEqDiff, Nat.reduceBEq, Int.reduceLT, Int.reduceLE, Int.reduceToNat, Int.reduceAdd, Int.reduceSub, Int.reduceMul, Int.reduceNeg, Int.reduceEq, reduceCtorEq, eq_self, ne_eq, not_false_eq_true, if_true, reduceIte])
          | ((first | (refine hK _ ?_; clear hK K) | show thenQ _ _ _ _ | show blockQ _ _ _ _ | show noGoQ _ _ _); simp only [noGoQ, thenQ, blockQ, if_true, Nat.reduceEqDiff, reduceIte])
          | (show SLe _ _; refine sle_of rfl ?_ ?_ rfl)
          | (show SlLe _ _; first | refine slle_none | refine slle_put ?_ ?_)
          | (show @Eq D _ _; simp -implicitDefEqProofs only [go_sem, bas, basL, Nat.reduceAdd, Nat.reduceSub, Nat.reduceMul, Nat.reduceLT, Nat.reduceLeDiff, Nat.reduceEqDiff, Nat.reduceBEq, Int.reduceLT, Int.reduceLE, Int.reduceToNat, Int.reduceAdd, Int.reduceSub, Int.reduceMul, Int.reduceNeg, Int.reduceEq, reduceCtorEq, eq_self, ne_eq, not_false_eq_true, if_true, reduceIte]; done)
          | (show @Eq (List Bx) _ _; simp -implicitDefEqProofs only [go_sem, bas, basL, Nat.reduceAdd, Nat.reduceSub, Nat.reduceMul, Nat.reduceLT, Nat.reduceLeDiff, Nat.reduceEqDiff, Nat.reduceBEq, Int.reduceLT, Int.reduceLE, Int.reduceToNat, Int.reduceAdd, Int.reduceSub, Int.reduceMul, Int.reduceNeg, Int.reduceEq, reduceCtorEq, eq_self, ne_eq, not_false_eq_true, if_true, reduceIte]; done)
          | (exact (rfl : (Value.slice none 0 0).oneCell' = true))
          | (exact (rfl : (Value.map none).oneCell' = true))
          | (intro hg; first | (exfalso; omega) | (exfalso; contradiction) | skip)
          | apply And.intro
          | (with_reducible rfl)
          | (clear hK; omega)
          | omega)
    · have g1 : CallsTo Tryz.prog 37 [rdD a] (.bool false) := decide_eq_false hra ▸ greading_ok a
      have e : decide (RdOk a ∧ RdOk b) = false := by simp [hra]
      rw [e] at ha
      generalize errN s (RdOk a ∧ RdOk b) = e at *
      rw [if_neg h] at ha ⊢
      refine calls_abs Tryz.func19 Tryz.ntmps19 Tryz.results19 Tryz.call19 rfl (by simp) fun w0 S0 M0 => ?_
      repeat' (first
          | refine abs_seq ?_
          | refine abs_block ?_
          | refine abs_skip ?_
          | refine abs_scope ?_
          | refine abs_label ?_
          | refine abs_exit ?_
          | refine abs_ret ?_
          | ((first | (show Abs _ (.region 1 _ true) _ _; refine abs_drawD [(3, 8), (4, 8), (5, 8)] Tryz.ty.mixed (by kernel_rfl) fun K hK => ?_) | (show Abs _ (.region 5 _ true) _ _; refine abs_drawP [(8, 11), (8, 12), (40, 11), (40, 12), (44, 11), (44, 12), (12, 11), (11, 12)] [0, 1, 2, 3, 4, 5, 6, 7] 8 9 [10, 11] Tryz.ty.mixed (by kernel_rfl) fun K hK => ?_) | show Sep _ _ | refine abs_region fun K hK => ?_ | refine abs_draw Tryz.ty.mixed (by kernel_rfl) fun K hK => ?_ | refine abs_if ?_ | show retQ _ _ _ _ _ | refine callK (g1) ?_ | refine callK (greading_ok _) ?_ | refine callK (ha) ?_); simp -implicitDefEqProofs only [go_sem, bas, basL, Nat.reduceAdd, Nat.reduceSub, Nat.reduceMul, Nat.reduceLT, Nat.reduceLeDiff, Nat.reduceEqDiff, Nat.reduceBEq, Int.reduceLT, Int.reduceLE, Int.reduceToNat, Int.reduceAdd, Int.reduceSub, Int.reduceMul, Int.reduceNeg, Int.reduceEq, reduceCtorEq, eq_self, ne_eq, not_false_eq_true, if_true, reduceIte])
          | ((first | (refine hK _ ?_; clear hK K) | show thenQ _ _ _ _ | show blockQ _ _ _ _ | show noGoQ _ _ _); simp only [noGoQ, thenQ, blockQ, if_true, Nat.reduceEqDiff, reduceIte])
          | (show SLe _ _; refine sle_of rfl ?_ ?_ rfl)
          | (show SlLe _ _; first | refine slle_none | refine slle_put ?_ ?_)
          | (show @Eq D _ _; simp -implicitDefEqProofs only [go_sem, bas, basL, Nat.reduceAdd, Nat.reduceSub, Nat.reduceMul, Nat.reduceLT, Nat.reduceLeDiff, Nat.reduceEqDiff, Nat.reduceBEq, Int.reduceLT, Int.reduceLE, Int.reduceToNat, Int.reduceAdd, Int.reduceSub, Int.reduceMul, Int.reduceNeg, Int.reduceEq, reduceCtorEq, eq_self, ne_eq, not_false_eq_true, if_true, reduceIte]; done)
          | (show @Eq (List Bx) _ _; simp -implicitDefEqProofs only [go_sem, bas, basL, Nat.reduceAdd, Nat.reduceSub, Nat.reduceMul, Nat.reduceLT, Nat.reduceLeDiff, Nat.reduceEqDiff, Nat.reduceBEq, Int.reduceLT, Int.reduceLE, Int.reduceToNat, Int.reduceAdd, Int.reduceSub, Int.reduceMul, Int.reduceNeg, Int.reduceEq, reduceCtorEq, eq_self, ne_eq, not_false_eq_true, if_true, reduceIte]; done)
          | (exact (rfl : (Value.slice none 0 0).oneCell' = true))
          | (exact (rfl : (Value.map none).oneCell' = true))
          | (intro hg; first | (exfalso; omega) | (exfalso; contradiction) | skip)
          | apply And.intro
          | (with_reducible rfl)
          | (clear hK; omega)
          | omega)
end Go.Proofs.YtdbiiegohemahaaGreatDoor
