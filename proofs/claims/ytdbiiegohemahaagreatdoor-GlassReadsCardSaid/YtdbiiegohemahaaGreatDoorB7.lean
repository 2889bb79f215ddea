import Derived.Test.YtdbiiegohemahaaGreatDoorB5
set_option linter.unusedVariables false
set_option linter.unusedSimpArgs false
namespace Go.Proofs.YtdbiiegohemahaaGreatDoor
open Go.Ab
attribute [local irreducible] Abs CallK CallR CallsTo IA

/-- What Play answers. -/
noncomputable def plE (s : Stn) (r : Rdg) (t : Tru) : Int := if errN s (RdOk r) = 0 then (if TrOk s r t then 0 else 2) else errN s (RdOk r)
set_option maxRecDepth 100000 in
set_option maxHeartbeats 4000000 in
theorem gPlay_ok (s : Stn) (hl : s.ck.length ≤ 9223372036854775807) (r : Rdg) (t : Tru) : CallsTo Tryz.prog 16 [stD s, rdD r, trD t]
    (.tup [if plE s r t = 0 then wxD r t else .agg [i64 0, i64 0, i64 0], i64 (plE s r t)]) := by
  have ha := asked_ok (s := s) (fine := RdOk r) hl
  by_cases h : errN s (RdOk r) = 0
  · have h2 := errN_zero h
    have hs := h2.1.1
    have hr := h2.1.2
    rw [h] at ha
    rw [if_pos rfl] at ha
    have h9 := hs.r
    by_cases ht : TrOk s r t
    · have e : plE s r t = 0 := by unfold plE; rw [if_pos h, if_pos ht]
      rw [e, if_pos rfl]
      have hb := trB_of hs hr ht
      unfold TrOk at ht
      refine calls_abs Tryz.func16 Tryz.ntmps16 Tryz.results16 Tryz.call16 rfl (by simp) fun w0 S0 M0 => ?_
      repeat' (first
          | refine abs_seq ?_
          | refine abs_block ?_
          | refine abs_skip ?_
          | refine abs_scope ?_
          | refine abs_label ?_
          | refine abs_exit ?_
          | refine abs_ret ?_
          | ((first | (show Abs _ (.region 1 _ true) _ _; refine abs_drawD [(3, 8), (4, 8)] Tryz.ty.mixed (by kernel_rfl) fun K hK => ?_) | show Sep _ _ | refine abs_region fun K hK => ?_ | refine abs_draw Tryz.ty.mixed (by kernel_rfl) fun K hK => ?_ | refine abs_if ?_ | show retQ _ _ _ _ _ | refine callK (greading_ok _) ?_ | refine callK (ha) ?_ | refine callK (index_ok s hs r.day hr.d) ?_ | refine callK (gwithin_ok _ _ _) ?_ | refine callK (gin_ok _ _ _) ?_ | refine callK (weather_ok r hr t hb) ?_); simp -implicitDefEqProofs only [go_sem, bas, basL, Nat.reduceAdd, Nat.reduceSub, Nat.reduceMul, Nat.reduceLT, Nat.reduceLeDiff, Nat.reduceEqDiff, Nat.reduceBEq, Int.reduceLT, Int.reduceLE, Int.reduceToNat, Int.reduceAdd, Int.reduceSub, Int.reduceMul, Int.reduceNeg, Int.reduceEq, reduceCtorEq, eq_self, ne_eq, not_false_eq_true, if_true, reduceIte])
          | ((first | (refine hK _ ?_; clear hK K) | show thenQ _ _ _ _ | show blockQ _ _ _ _ | show noGoQ _ _ _); simp only [noGoQ, thenQ, blockQ, if_true, Nat.reduceEqDiff, reduceIte])
          | (intro hg; first | (exfalso; omega) | (exfalso; contradiction) | skip)
          | apply And.intro
          | (with_reducible rfl)
          | (clear hK; omega)
          | omega)
      all_goals skip
    · have e : plE s r t = 2 := by unfold plE; rw [if_pos h, if_neg ht]
      rw [e, if_neg (by omega)]
      unfold TrOk at ht
      refine calls_abs Tryz.func16 Tryz.ntmps16 Tryz.results16 Tryz.call16 rfl (by simp) fun w0 S0 M0 => ?_
      repeat' (first
          | refine abs_seq ?_
          | refine abs_block ?_
          | refine abs_skip ?_
          | refine abs_scope ?_
          | refine abs_label ?_
          | refine abs_exit ?_
          | refine abs_ret ?_
          | ((first | (show Abs _ (.region 1 _ true) _ _; refine abs_drawD [(3, 8), (4, 8)] Tryz.ty.mixed (by kernel_rfl) fun K hK => ?_) | show Sep _ _ | refine abs_region fun K hK => ?_ | refine abs_draw Tryz.ty.mixed (by kernel_rfl) fun K hK => ?_ | refine abs_if ?_ | show retQ _ _ _ _ _ | refine callK (greading_ok _) ?_ | refine callK (ha) ?_ | refine callK (index_ok s hs r.day hr.d) ?_ | refine callK (gwithin_ok _ _ _) ?_ | refine callK (gin_ok _ _ _) ?_); simp -implicitDefEqProofs only [go_sem, bas, basL, Nat.reduceAdd, Nat.reduceSub, Nat.reduceMul, Nat.reduceLT, Nat.reduceLeDiff, Nat.reduceEqDiff, Nat.reduceBEq, Int.reduceLT, Int.reduceLE, Int.reduceToNat, Int.reduceAdd, Int.reduceSub, Int.reduceMul, Int.reduceNeg, Int.reduceEq, reduceCtorEq, eq_self, ne_eq, not_false_eq_true, if_true, reduceIte])
          | ((first | (refine hK _ ?_; clear hK K) | show thenQ _ _ _ _ | show blockQ _ _ _ _ | show noGoQ _ _ _); simp only [noGoQ, thenQ, blockQ, if_true, Nat.reduceEqDiff, reduceIte])
          | (intro hg; first | (exfalso; omega) | (exfalso; contradiction) | skip)
          | apply And.intro
          | (with_reducible rfl)
          | (clear hK; omega)
          | omega)
      all_goals skip
  · have e : plE s r t = errN s (RdOk r) := by unfold plE; rw [if_neg h]
    rw [e]
    generalize errN s (RdOk r) = e at *
    rw [if_neg h] at ha ⊢
    refine calls_abs Tryz.func16 Tryz.ntmps16 Tryz.results16 Tryz.call16 rfl (by simp) fun w0 S0 M0 => ?_
    repeat' (first
        | refine abs_seq ?_
        | refine abs_block ?_
        | refine abs_skip ?_
        | refine abs_scope ?_
        | refine abs_label ?_
        | refine abs_exit ?_
        | refine abs_ret ?_
        | ((first | (show Abs _ (.region 1 _ true) _ _; refine abs_drawD [(3, 8), (4, 8)] Tryz.ty.mixed (by kernel_rfl) fun K hK => ?_) | show Sep _ _ | refine abs_region fun K hK => ?_ | refine abs_draw Tryz.ty.mixed (by kernel_rfl) fun K hK => ?_ | refine abs_if ?_ | show retQ _ _ _ _ _ | refine callK (greading_ok _) ?_ | refine callK (ha) ?_); simp -implicitDefEqProofs only [go_sem, bas, basL, Nat.reduceAdd, Nat.reduceSub, Nat.reduceMul, Nat.reduceLT, Nat.reduceLeDiff, Nat.reduceEqDiff, Nat.reduceBEq, Int.reduceLT, Int.reduceLE, Int.reduceToNat, Int.reduceAdd, Int.reduceSub, Int.reduceMul, Int.reduceNeg, Int.reduceEq, reduceCtorEq, eq_self, ne_eq, not_false_eq_true, if_true, reduceIte])
        | ((first | (refine hK _ ?_; clear hK K) | show thenQ _ _ _ _ | show blockQ _ _ _ _ | show noGoQ _ _ _); simp only [noGoQ, thenQ, blockQ, if_true, Nat.reduceEqDiff, reduceIte])
        | (exact (rfl : (Value.slice none 0 0).oneCell' = true))
        | (exact (rfl : (Value.map none).oneCell' = true))
        | (intro hg; first | (exfalso; omega) | (exfalso; contradiction) | skip)
        | apply And.intro
        | (with_reducible rfl)
        | (clear hK; omega)
        | omega)
end Go.Proofs.YtdbiiegohemahaaGreatDoor
