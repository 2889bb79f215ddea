import Derived.Test.YthamljpomhjepaaKnA
import Derived.Test.YthamljpomhjepaaKnB
set_option linter.unusedVariables false
set_option linter.unusedSimpArgs false
namespace Go.Proofs.Ythamljpomhjepaa
open Go.Ab
attribute [local irreducible] Abs CallK CallR CallsTo
set_option linter.unusedSimpArgs false

theorem clim_eq (c : Int) (S : List (List Int)) (d : Nat) : clim c S d = (bestS (fun p => daySum S d p S.length) c.toNat 1).1 := rfl
theorem climN_eq (c : Int) (S : List (List Int)) (d : Nat) : climN c S d = (bestS (fun p => daySum S d p S.length) c.toNat 1).2 := rfl
theorem clims_two (c : Int) (S : List (List Int)) : clims c S 2 = [clim c S 0, clim c S 1] := rfl
theorem kn_b0 : bestS (fun p => daySum [[1, 3], [6, 2]] 0 p ([[1, 3], [6, 2]] : List (List Int)).length) (3 : Int).toNat 1 = ([50, 25, 25], 7500) := kn_clim
theorem kn_b1 : bestS (fun p => daySum [[1, 3], [6, 2]] 1 p ([[1, 3], [6, 2]] : List (List Int)).length) (3 : Int).toNat 1 = ([50, 50, 0], 10000) := kn_clim1
theorem kn_c0 : clim 3 [[1, 3], [6, 2]] 0 = [50, 25, 25] := by rw [clim_eq, kn_b0]
theorem kn_c1 : clim 3 [[1, 3], [6, 2]] 1 = [50, 50, 0] := by rw [clim_eq, kn_b1]
theorem kn_n0 : climN 3 [[1, 3], [6, 2]] 0 = 7500 := by rw [climN_eq, kn_b0]
theorem kn_clims : clims 3 [[1, 3], [6, 2]] 2 = [[50, 25, 25], [50, 50, 0]] := by rw [clims_two, kn_c0, kn_c1]

set_option maxRecDepth 100000 in
set_option maxHeartbeats 4000000 in
theorem ks_ok : CallsTo Try.prog 69 [] (.agg [i64 3, ints [1, 2], intss [[1, 3], [6, 2]]]) := by
  refine calls_abs Try.func69 Try.ntmps69 Try.results69 Try.call69 rfl (by simp) fun w0 S0 M0 => ?_
  repeat' (first
      | refine abs_seq ?_
      | refine abs_block ?_
      | refine abs_skip ?_
      | refine abs_exit ?_
      | refine abs_ret ?_
      | ((first | refine abs_region fun K hK => ?_ | refine abs_draw Try.ty.mixed (by kernel_rfl) fun K hK => ?_ | refine abs_if ?_); simp only [go_sem, bas, basL, Nat.reduceAdd, Nat.reduceSub, Nat.reduceMul, Nat.reduceLT, Nat.reduceLeDiff, Nat.reduceEqDiff, Nat.reduceBEq, Int.reduceLT, Int.reduceLE, Int.reduceToNat, Int.reduceAdd, Int.reduceSub, Int.reduceMul, Int.reduceNeg, Int.reduceEq, reduceCtorEq, eq_self, ne_eq, not_false_eq_true, if_true, reduceIte])
      | (refine hK _ ?_; clear hK K; simp only [thenQ, blockQ, if_true, Nat.reduceEqDiff, reduceIte])
      | (show thenQ _ _ _ _; simp only [thenQ, blockQ, if_true, Nat.reduceEqDiff, reduceIte])
      | (show blockQ _ _ _ _; simp only [thenQ, blockQ, if_true, Nat.reduceEqDiff, reduceIte])
      | (show retQ _ _ _ _ _; simp only [go_sem, bas, basL, Nat.reduceAdd, Nat.reduceSub, Nat.reduceMul, Nat.reduceLT, Nat.reduceLeDiff, Nat.reduceEqDiff, Nat.reduceBEq, Int.reduceLT, Int.reduceLE, Int.reduceToNat, Int.reduceAdd, Int.reduceSub, Int.reduceMul, Int.reduceNeg, Int.reduceEq, reduceCtorEq, eq_self, ne_eq, not_false_eq_true, if_true, reduceIte])
      | (intro hg; first | (exfalso; omega) | (exfalso; contradiction) | skip)
      | apply And.intro
      | (with_reducible rfl)
      | (clear hK; omega)
      | omega)
  rfl
set_option maxRecDepth 100000 in
set_option maxHeartbeats 4000000 in
theorem kf_ok : CallsTo Try.prog 70 [] (intsss [[[70, 20, 10], [50, 50, 0]], [[20, 60, 20], [30, 60, 10]]]) := by
  refine calls_abs Try.func70 Try.ntmps70 Try.results70 Try.call70 rfl (by simp) fun w0 S0 M0 => ?_
  repeat' (first
      | refine abs_seq ?_
      | refine abs_block ?_
      | refine abs_skip ?_
      | refine abs_exit ?_
      | refine abs_ret ?_
      | ((first | refine abs_region fun K hK => ?_ | refine abs_draw Try.ty.mixed (by kernel_rfl) fun K hK => ?_ | refine abs_if ?_); simp only [go_sem, bas, basL, Nat.reduceAdd, Nat.reduceSub, Nat.reduceMul, Nat.reduceLT, Nat.reduceLeDiff, Nat.reduceEqDiff, Nat.reduceBEq, Int.reduceLT, Int.reduceLE, Int.reduceToNat, Int.reduceAdd, Int.reduceSub, Int.reduceMul, Int.reduceNeg, Int.reduceEq, reduceCtorEq, eq_self, ne_eq, not_false_eq_true, if_true, reduceIte])
      | (refine hK _ ?_; clear hK K; simp only [thenQ, blockQ, if_true, Nat.reduceEqDiff, reduceIte])
      | (show thenQ _ _ _ _; simp only [thenQ, blockQ, if_true, Nat.reduceEqDiff, reduceIte])
      | (show blockQ _ _ _ _; simp only [thenQ, blockQ, if_true, Nat.reduceEqDiff, reduceIte])
      | (show retQ _ _ _ _ _; simp only [go_sem, bas, basL, Nat.reduceAdd, Nat.reduceSub, Nat.reduceMul, Nat.reduceLT, Nat.reduceLeDiff, Nat.reduceEqDiff, Nat.reduceBEq, Int.reduceLT, Int.reduceLE, Int.reduceToNat, Int.reduceAdd, Int.reduceSub, Int.reduceMul, Int.reduceNeg, Int.reduceEq, reduceCtorEq, eq_self, ne_eq, not_false_eq_true, if_true, reduceIte])
      | (intro hg; first | (exfalso; omega) | (exfalso; contradiction) | skip)
      | apply And.intro
      | (with_reducible rfl)
      | (clear hK; omega)
      | omega)
  rfl
set_option maxRecDepth 100000 in
set_option maxHeartbeats 4000000 in
theorem kh_ok : CallsTo Try.prog 71 [] (intsss [[[100, 0, 0], [50, 50, 0]], [[0, 0, 100], [0, 100, 0]]]) := by
  refine calls_abs Try.func71 Try.ntmps71 Try.results71 Try.call71 rfl (by simp) fun w0 S0 M0 => ?_
  repeat' (first
      | refine abs_seq ?_
      | refine abs_block ?_
      | refine abs_skip ?_
      | refine abs_exit ?_
      | refine abs_ret ?_
      | ((first | refine abs_region fun K hK => ?_ | refine abs_draw Try.ty.mixed (by kernel_rfl) fun K hK => ?_ | refine abs_if ?_); simp only [go_sem, bas, basL, Nat.reduceAdd, Nat.reduceSub, Nat.reduceMul, Nat.reduceLT, Nat.reduceLeDiff, Nat.reduceEqDiff, Nat.reduceBEq, Int.reduceLT, Int.reduceLE, Int.reduceToNat, Int.reduceAdd, Int.reduceSub, Int.reduceMul, Int.reduceNeg, Int.reduceEq, reduceCtorEq, eq_self, ne_eq, not_false_eq_true, if_true, reduceIte])
      | (refine hK _ ?_; clear hK K; simp only [thenQ, blockQ, if_true, Nat.reduceEqDiff, reduceIte])
      | (show thenQ _ _ _ _; simp only [thenQ, blockQ, if_true, Nat.reduceEqDiff, reduceIte])
      | (show blockQ _ _ _ _; simp only [thenQ, blockQ, if_true, Nat.reduceEqDiff, reduceIte])
      | (show retQ _ _ _ _ _; simp only [go_sem, bas, basL, Nat.reduceAdd, Nat.reduceSub, Nat.reduceMul, Nat.reduceLT, Nat.reduceLeDiff, Nat.reduceEqDiff, Nat.reduceBEq, Int.reduceLT, Int.reduceLE, Int.reduceToNat, Int.reduceAdd, Int.reduceSub, Int.reduceMul, Int.reduceNeg, Int.reduceEq, reduceCtorEq, eq_self, ne_eq, not_false_eq_true, if_true, reduceIte])
      | (intro hg; first | (exfalso; omega) | (exfalso; contradiction) | skip)
      | apply And.intro
      | (with_reducible rfl)
      | (clear hK; omega)
      | omega)
  rfl
theorem k_gain : CallsTo Try.prog 19 [ints [70, 20, 10], i64 2] (.tup [i64 (-3400), i64 0]) := by
  have h := gainx_ok [70, 20, 10] 2
  rw [if_pos (by decide), if_pos (by decide), show Gn [70, 20, 10] (2 : Int).toNat = -3400 by decide] at h
  exact h
theorem k_hope : CallsTo Try.prog 20 [ints [60, 30, 10], ints [70, 20, 10]] (.tup [i64 440000, i64 20000, i64 0]) := by
  have h := hopex_ok [60, 30, 10] [70, 20, 10]
  rw [if_pos (by decide), show Hp [60, 30, 10] [60, 30, 10] - Hp [60, 30, 10] [70, 20, 10] = 20000 by decide, show Hp [60, 30, 10] [70, 20, 10] = 440000 by decide] at h
  exact h
theorem k_best : CallsTo Try.prog 24 [ints [60, 30, 10], i64 25] (.tup [ints [50, 25, 25], i64 0]) := by
  have h := pbest_ok [60, 30, 10] 25
  have e : bestS (Hp [60, 30, 10]) ([60, 30, 10] : List Int).length 25 = ([50, 25, 25], Hp [60, 30, 10] [50, 25, 25]) := kn_best
  rw [if_pos (by decide), e] at h
  exact h
theorem k_suite : Suite 3 [1, 2] [[1, 3], [6, 2]] := by decide
theorem k_foreF : Fore 3 [1, 2] [[1, 3], [6, 2]] [[[70, 20, 10], [50, 50, 0]], [[20, 60, 20], [30, 60, 10]]] := by decide
theorem k_foreH : Fore 3 [1, 2] [[1, 3], [6, 2]] [[[100, 0, 0], [50, 50, 0]], [[0, 0, 100], [0, 100, 0]]] := by decide
theorem k_total : CallsTo Try.prog 42 [.agg [i64 3, ints [1, 2], intss [[1, 3], [6, 2]]], intsss [[[70, 20, 10], [50, 50, 0]], [[20, 60, 20], [30, 60, 10]]]] (.tup [.agg [i64 33000, i64 41000], i64 0]) := by
  have h := ptotalx_ok 3 [1, 2] [[1, 3], [6, 2]] [[[70, 20, 10], [50, 50, 0]], [[20, 60, 20], [30, 60, 10]]]
  rw [if_pos ⟨k_suite, k_foreF⟩, show Sd.tlo ⟨3, [1, 2], [[1, 3], [6, 2]], [[[70, 20, 10], [50, 50, 0]], [[20, 60, 20], [30, 60, 10]]], none⟩ = 33000 by decide +kernel, show Sd.thi ⟨3, [1, 2], [[1, 3], [6, 2]], [[[70, 20, 10], [50, 50, 0]], [[20, 60, 20], [30, 60, 10]]], none⟩ = 41000 by decide +kernel] at h
  exact h
theorem k_clim : CallsTo Try.prog 32 [.agg [i64 3, ints [1, 2], intss [[1, 3], [6, 2]]], i64 0] (.tup [ints [50, 25, 25], i64 7500, i64 0]) := by
  have h := pclimx_ok 3 [1, 2] [[1, 3], [6, 2]] 0
  have e0 : clim 3 [[1, 3], [6, 2]] (0 : Int).toNat = [50, 25, 25] := kn_c0
  have e1 : climN 3 [[1, 3], [6, 2]] (0 : Int).toNat = 7500 := kn_n0
  rw [if_pos ⟨k_suite, by decide, by decide⟩, e0, e1] at h
  exact h
theorem k_skill : CallsTo Try.prog 33 [.agg [i64 3, ints [1, 2], intss [[1, 3], [6, 2]]], intsss [[[70, 20, 10], [50, 50, 0]], [[20, 60, 20], [30, 60, 10]]]] (.tup [.agg [i64 5500, i64 13500], i64 0]) := by
  have h := pskill_ok 3 [1, 2] [[1, 3], [6, 2]] [[[70, 20, 10], [50, 50, 0]], [[20, 60, 20], [30, 60, 10]]]
  have e : clims 3 [[1, 3], [6, 2]] ([1, 2] : List Int).length = [[50, 25, 25], [50, 50, 0]] := kn_clims
  rw [if_pos ⟨k_suite, k_foreF⟩, e, show Sd.tlo ⟨3, [1, 2], [[1, 3], [6, 2]], [[[70, 20, 10], [50, 50, 0]], [[20, 60, 20], [30, 60, 10]]], some (List.replicate ([[1, 3], [6, 2]] : List (List Int)).length [[50, 25, 25], [50, 50, 0]])⟩ = 5500 by decide +kernel,
    show Sd.thi ⟨3, [1, 2], [[1, 3], [6, 2]], [[[70, 20, 10], [50, 50, 0]], [[20, 60, 20], [30, 60, 10]]], some (List.replicate ([[1, 3], [6, 2]] : List (List Int)).length [[50, 25, 25], [50, 50, 0]])⟩ = 13500 by decide +kernel] at h
  exact h
theorem k_beats : CallsTo Try.prog 43 [.agg [i64 3, ints [1, 2], intss [[1, 3], [6, 2]]], intsss [[[70, 20, 10], [50, 50, 0]], [[20, 60, 20], [30, 60, 10]]], intsss [[[100, 0, 0], [50, 50, 0]], [[0, 0, 100], [0, 100, 0]]]] (.tup [i64 2, i64 0]) := by
  have h := pbeats_ok 3 [1, 2] [[1, 3], [6, 2]] [[[70, 20, 10], [50, 50, 0]], [[20, 60, 20], [30, 60, 10]]] [[[100, 0, 0], [50, 50, 0]], [[0, 0, 100], [0, 100, 0]]]
  rw [if_pos ⟨k_suite, k_foreF, k_foreH⟩, show beatsW (Sd.tlo ⟨3, [1, 2], [[1, 3], [6, 2]], [[[70, 20, 10], [50, 50, 0]], [[20, 60, 20], [30, 60, 10]]], some [[[100, 0, 0], [50, 50, 0]], [[0, 0, 100], [0, 100, 0]]]⟩) (Sd.thi ⟨3, [1, 2], [[1, 3], [6, 2]], [[[70, 20, 10], [50, 50, 0]], [[20, 60, 20], [30, 60, 10]]], some [[[100, 0, 0], [50, 50, 0]], [[0, 0, 100], [0, 100, 0]]]⟩) = 2 by decide +kernel] at h
  exact h
theorem k_game : CallsTo Try.prog 50 [.agg [i64 2, i64 50, intss [[0, 100], [40, 40], [100, 0]]]] (.tup [ints [50, 50], ints [0, 100], i64 1000, i64 0]) := by
  have h := game_ok 2 50 [[0, 100], [40, 40], [100, 0]]
  have e : gmT 2 50 [[0, 100], [40, 40], [100, 0]] = [ints [50, 50], ints [0, 100], i64 1000, i64 0] := by
    unfold gmT
    rw [if_pos (by decide +kernel), show gmR (stm (2 : Int).toNat 50) [[0, 100], [40, 40], [100, 0]] = some 1 by decide +kernel]
    simp only
    rw [show nth (stm (2 : Int).toNat 50) 1 = [50, 50] by decide +kernel, show nth (stm (2 : Int).toNat 50) (gmB (stm (2 : Int).toNat 50) [[0, 100], [40, 40], [100, 0]] 1).1.toNat = [0, 100] by decide +kernel,
      show (gmB (stm (2 : Int).toNat 50) [[0, 100], [40, 40], [100, 0]] 1).2 - gmO (stm (2 : Int).toNat 50) [[0, 100], [40, 40], [100, 0]] 1 = 1000 by decide +kernel]
  rw [e] at h
  exact h
theorem k_pay : CallsTo Try.prog 56 [.agg [i64 500, i64 30, i64 400], i64 33000] (.tup [i64 599, i64 0]) := by
  have h := payx_ok 500 30 400 33000
  rw [if_pos (by decide), show payD 500 30 400 33000 = 599 by decide] at h
  exact h
theorem k_tempt : CallsTo Try.prog 57 [.agg [i64 100, i64 100, i64 100], i64 0, ints [60, 40], i64 20] (.tup [ints [100, 0], i64 800, i64 0]) := by
  have h := ptempt_ok 100 100 100 0 20 [60, 40]
  have e1 : (bestS (Erg 100 100 100 0 [60, 40]) ([60, 40] : List Int).length 20).1 = [100, 0] := by decide +kernel
  have e2 : (bestS (Erg 100 100 100 0 [60, 40]) ([60, 40] : List Int).length 20).2 - Erg 100 100 100 0 [60, 40] [60, 40] = 800 := by decide +kernel
  rw [if_pos (by decide), e1, e2] at h
  exact h

set_option maxRecDepth 100000 in
set_option maxHeartbeats 4000000 in
theorem known_ok : CallsTo Try.prog 18 [] (.bool true) := by
  refine calls_abs Try.func18 Try.ntmps18 Try.results18 Try.call18 rfl (by simp) fun w0 S0 M0 => ?_
  repeat' (first
      | refine abs_seq ?_
      | refine abs_block ?_
      | refine abs_skip ?_
      | refine abs_exit ?_
      | refine abs_ret ?_
      | ((first | refine abs_region fun K hK => ?_ | refine abs_draw Try.ty.mixed (by kernel_rfl) fun K hK => ?_ | refine abs_if ?_); simp only [go_sem, bas, basL, Nat.reduceAdd, Nat.reduceSub, Nat.reduceMul, Nat.reduceLT, Nat.reduceLeDiff, Nat.reduceEqDiff, Nat.reduceBEq, Int.reduceLT, Int.reduceLE, Int.reduceToNat, Int.reduceAdd, Int.reduceSub, Int.reduceMul, Int.reduceNeg, Int.reduceEq, reduceCtorEq, eq_self, ne_eq, not_false_eq_true, if_true, reduceIte])
      | (refine hK _ ?_; clear hK K; simp only [thenQ, blockQ, if_true, Nat.reduceEqDiff, reduceIte])
      | (show thenQ _ _ _ _; simp only [thenQ, blockQ, if_true, Nat.reduceEqDiff, reduceIte])
      | (show blockQ _ _ _ _; simp only [thenQ, blockQ, if_true, Nat.reduceEqDiff, reduceIte])
      | ((first | refine callK (k_gain) ?_ | refine callK (k_hope) ?_ | refine callK (k_best) ?_ | refine callK (ks_ok) ?_ | refine callK (kf_ok) ?_ | refine callK (kh_ok) ?_ | refine callK (k_total) ?_ | refine callK (k_clim) ?_ | refine callK (k_skill) ?_ | refine callK (k_beats) ?_ | refine callK (k_game) ?_ | refine callK (k_pay) ?_ | refine callK (k_tempt) ?_ | refine callK (same_ok [50, 25, 25] [50, 25, 25] (by decide)) ?_ | refine callK (same_ok [50, 50] [50, 50] (by decide)) ?_ | refine callK (same_ok [0, 100] [0, 100] (by decide)) ?_ | refine callK (same_ok [100, 0] [100, 0] (by decide)) ?_); try simp only [go_sem, bas, basL, Nat.reduceAdd, Nat.reduceSub, Nat.reduceMul, Nat.reduceLT, Nat.reduceLeDiff, Nat.reduceEqDiff, Nat.reduceBEq, Int.reduceLT, Int.reduceLE, Int.reduceToNat, Int.reduceAdd, Int.reduceSub, Int.reduceMul, Int.reduceNeg, Int.reduceEq, reduceCtorEq, eq_self, ne_eq, not_false_eq_true, if_true, reduceIte])
      | (show retQ _ _ _ _ _; simp only [go_sem, bas, basL, Nat.reduceAdd, Nat.reduceSub, Nat.reduceMul, Nat.reduceLT, Nat.reduceLeDiff, Nat.reduceEqDiff, Nat.reduceBEq, Int.reduceLT, Int.reduceLE, Int.reduceToNat, Int.reduceAdd, Int.reduceSub, Int.reduceMul, Int.reduceNeg, Int.reduceEq, reduceCtorEq, eq_self, ne_eq, not_false_eq_true, if_true, reduceIte])
      | (intro hg; first | (exfalso; omega) | (exfalso; contradiction) | skip)
      | apply And.intro
      | (with_reducible rfl)
      | (clear hK; omega)
      | omega)
end Go.Proofs.Ythamljpomhjepaa
