import Derived.Test.YtdbiiegohemahaaGreatDoorB5
set_option linter.unusedVariables false
set_option linter.unusedSimpArgs false
namespace Go.Proofs.YtdbiiegohemahaaGreatDoor
open Go.Ab
attribute [local irreducible] Abs CallK CallR CallsTo IA

/-- What Due answers. -/
noncomputable def dueD (s : Stn) (f w : Int) : D := if errN s ((0 ≤ f ∧ f ≤ 400) ∧ 0 ≤ w ∧ w ≤ 4000) = 0 then
  (if dueI s f w < 0 then .tup [i64 0, i64 5] else .tup [i64 (dueI s f w), i64 0]) else .tup [i64 0, i64 (errN s ((0 ≤ f ∧ f ≤ 400) ∧ 0 ≤ w ∧ w ≤ 4000))]
theorem dueI_cases (s : Stn) (f w : Int) (hf : 0 ≤ f ∧ f ≤ 400) : (dueI s f w = -1 ∧ ∀ e, f ≤ e → e ≤ 400 → ixH s e - ixL s e ≤ w) ∨
    (f ≤ dueI s f w ∧ dueI s f w ≤ 400 ∧ w < ixH s (dueI s f w) - ixL s (dueI s f w) ∧ ∀ e, f ≤ e → e < dueI s f w → ixH s e - ixL s e ≤ w) := by
  have := dueK_or s w (401 - f).toNat f
  rcases this with ⟨h1, h2⟩ | ⟨h1, h2, h3, h4⟩
  · exact .inl ⟨h1, fun e g1 g2 => h2 e g1 (by omega)⟩
  · exact .inr ⟨h1, by unfold dueI; omega, h3, h4⟩
set_option maxRecDepth 100000 in
set_option maxHeartbeats 4000000 in
theorem gDue_ok (s : Stn) (hl : s.ck.length ≤ 9223372036854775807) (f w : Int) : CallsTo Tryz.prog 15 [stD s, i64 f, i64 w] (dueD s f w) := by
  have ha := asked_ok (s := s) (fine := (0 ≤ f ∧ f ≤ 400) ∧ 0 ≤ w ∧ w ≤ 4000) hl
  unfold dueD
  by_cases h : errN s ((0 ≤ f ∧ f ≤ 400) ∧ 0 ≤ w ∧ w ≤ 4000) = 0
  · have h2 := errN_zero h
    have hs := h2.1.1
    have hf := h2.1.2.1
    have hw := h2.1.2.2
    rw [h] at ha ⊢
    rw [if_pos rfl] at ha
    rw [if_pos rfl]
    rw [decide_eq_true h2.1.2] at ha
    have g1 : CallsTo Tryz.prog 35 [i64 f, i64 0, i64 400] (.bool true) := decide_eq_true hf ▸ gin_ok f 0 400
    have g2 : CallsTo Tryz.prog 35 [i64 w, i64 0, i64 4000] (.bool true) := decide_eq_true hw ▸ gin_ok w 0 4000
    refine calls_abs Tryz.func15 Tryz.ntmps15 Tryz.results15 Tryz.call15 rfl (by simp) fun w0 S0 M0 => ?_
    repeat' (first
        | refine abs_seq ?_
        | refine abs_block ?_
        | refine abs_skip ?_
        | refine abs_scope ?_
        | refine abs_label ?_
        | refine abs_exit ?_
        | refine abs_ret ?_
        | ((first | (show Abs _ (.region 1 _ true) _ _; refine abs_drawD [(3, 8)] Tryz.ty.mixed (by kernel_rfl) fun K hK => ?_) | show Sep _ _ | refine abs_region fun K hK => ?_ | refine abs_draw Tryz.ty.mixed (by kernel_rfl) fun K hK => ?_ | refine abs_if ?_ | show retQ _ _ _ _ _ | refine callK (g1) ?_ | refine callK (g2) ?_ | refine callK (ha) ?_); simp -implicitDefEqProofs only [go_sem, bas, basL, Nat.reduceAdd, Nat.reduceSub, Nat.reduceMul, Nat.reduceLT, Nat.reduceLeDiff, Nat.reduceEqDiff, Nat.reduceBEq, Int.reduceLT, Int.reduceLE, Int.reduceToNat, Int.reduceAdd, Int.reduceSub, Int.reduceMul, Int.reduceNeg, Int.reduceEq, reduceCtorEq, eq_self, ne_eq, not_false_eq_true, if_true, reduceIte])
        | ((first | (refine hK _ ?_; clear hK K) | show thenQ _ _ _ _ | show blockQ _ _ _ _ | show noGoQ _ _ _); simp only [noGoQ, thenQ, blockQ, if_true, Nat.reduceEqDiff, reduceIte])
        | (intro hg; first | (exfalso; omega) | (exfalso; contradiction) | skip)
        | apply And.intro
        | (with_reducible rfl)
        | (clear hK; omega)
        | omega)
    refine abs_loopN (ι := Nat) (fun j => [(1, i64 f), (2, i64 w), (8, .box 1 0), (28, i64 (400 - f + 1)), (29, i64 j)]) (fun _ => [.mu (stC s), .mu (stMC s)]) (fun _ => [])
      (fun j => f + j ≤ 401 ∧ dueI s f w = dueK s w (401 - (f + j)).toNat (f + j)) (fun j => (401 - (f + j)).toNat) (fun _ _ => ⟨rfl, rfl⟩) 0 ⟨by omega, by rw [Int.natCast_zero, Int.add_zero]; rfl⟩ (le_of rfl (by try simp -implicitDefEqProofs only [go_sem, bas, basL, Nat.reduceAdd, Nat.reduceSub, Nat.reduceMul, Nat.reduceLT, Nat.reduceLeDiff, Nat.reduceEqDiff, Nat.reduceBEq, Int.reduceLT, Int.reduceLE, Int.reduceToNat, Int.reduceAdd, Int.reduceSub, Int.reduceMul, Int.reduceNeg, Int.reduceEq, reduceCtorEq, eq_self, ne_eq, not_false_eq_true, if_true, reduceIte]; try simp) ⟨_, rfl⟩ ⟨_, rfl⟩) (fun j ⟨hj, hi⟩ => ?_)
    by_cases h4 : f + j ≤ 400
    · have b1 := ixL_bd hs (day := f + j) (by omega)
      have b2 := ixH_bd hs (day := f + j) (by omega)
      have e : (401 - (f + j)).toNat = (401 - (f + ((j + 1 : Nat) : Int))).toNat + 1 := by omega
      have e2 : f + ((j + 1 : Nat) : Int) = f + j + 1 := by omega
      rw [e] at hi
      simp only [dueK] at hi
      by_cases hw' : w < ixH s (f + j) - ixL s (f + j)
      · rw [if_pos hw'] at hi
        rw [hi, if_neg (by omega)]
        simp -implicitDefEqProofs only [go_sem, bas, basL, Nat.reduceAdd, Nat.reduceSub, Nat.reduceMul, Nat.reduceLT, Nat.reduceLeDiff, Nat.reduceEqDiff, Nat.reduceBEq, Int.reduceLT, Int.reduceLE, Int.reduceToNat, Int.reduceAdd, Int.reduceSub, Int.reduceMul, Int.reduceNeg, Int.reduceEq, reduceCtorEq, eq_self, ne_eq, not_false_eq_true, if_true, reduceIte]
        repeat' (first
            | refine abs_seq ?_
            | refine abs_block ?_
            | refine abs_skip ?_
            | refine abs_scope ?_
            | refine abs_label ?_
            | refine abs_exit ?_
            | refine abs_ret ?_
            | ((first | refine abs_region fun K hK => ?_ | refine abs_draw Tryz.ty.mixed (by kernel_rfl) fun K hK => ?_ | refine abs_if ?_ | show retQ _ _ _ _ _ | refine callK (index_ok s hs (f + j) (by omega)) ?_); simp -implicitDefEqProofs only [go_sem, bas, basL, Nat.reduceAdd, Nat.reduceSub, Nat.reduceMul, Nat.reduceLT, Nat.reduceLeDiff, Nat.reduceEqDiff, Nat.reduceBEq, Int.reduceLT, Int.reduceLE, Int.reduceToNat, Int.reduceAdd, Int.reduceSub, Int.reduceMul, Int.reduceNeg, Int.reduceEq, reduceCtorEq, eq_self, ne_eq, not_false_eq_true, if_true, reduceIte])
            | ((first | (refine hK _ ?_; clear hK K) | show thenQ _ _ _ _ | show blockQ _ _ _ _ | show noGoQ _ _ _); simp only [noGoQ, thenQ, blockQ, if_true, Nat.reduceEqDiff, reduceIte])
            | (intro hg; first | (exfalso; omega) | (exfalso; contradiction) | skip)
            | apply And.intro
            | (with_reducible rfl)
            | (clear hK; omega)
            | omega)
        all_goals skip
      · rw [if_neg hw'] at hi
        simp -implicitDefEqProofs only [go_sem, bas, basL, Nat.reduceAdd, Nat.reduceSub, Nat.reduceMul, Nat.reduceLT, Nat.reduceLeDiff, Nat.reduceEqDiff, Nat.reduceBEq, Int.reduceLT, Int.reduceLE, Int.reduceToNat, Int.reduceAdd, Int.reduceSub, Int.reduceMul, Int.reduceNeg, Int.reduceEq, reduceCtorEq, eq_self, ne_eq, not_false_eq_true, if_true, reduceIte]
        repeat' (first
            | refine abs_seq ?_
            | refine abs_block ?_
            | refine abs_skip ?_
            | refine abs_scope ?_
            | refine abs_label ?_
            | refine abs_exit ?_
            | refine abs_ret ?_
            | ((first | refine abs_region fun K hK => ?_ | refine abs_draw Tryz.ty.mixed (by kernel_rfl) fun K hK => ?_ | refine abs_if ?_ | show retQ _ _ _ _ _ | refine callK (index_ok s hs (f + j) (by omega)) ?_); simp -implicitDefEqProofs only [go_sem, bas, basL, Nat.reduceAdd, Nat.reduceSub, Nat.reduceMul, Nat.reduceLT, Nat.reduceLeDiff, Nat.reduceEqDiff, Nat.reduceBEq, Int.reduceLT, Int.reduceLE, Int.reduceToNat, Int.reduceAdd, Int.reduceSub, Int.reduceMul, Int.reduceNeg, Int.reduceEq, reduceCtorEq, eq_self, ne_eq, not_false_eq_true, if_true, reduceIte])
            | ((first | (refine hK _ ?_; clear hK K) | show thenQ _ _ _ _ | show blockQ _ _ _ _ | show noGoQ _ _ _); simp only [noGoQ, thenQ, blockQ, if_true, Nat.reduceEqDiff, reduceIte])
            | (intro hg; first | (exfalso; omega) | (exfalso; contradiction) | skip)
            | apply And.intro
            | (with_reducible rfl)
            | (clear hK; omega)
            | omega)
        refine ⟨j + 1, ⟨by omega, ?_⟩, by omega, le_of rfl (by try simp -implicitDefEqProofs only [go_sem, bas, basL, Nat.reduceAdd, Nat.reduceSub, Nat.reduceMul, Nat.reduceLT, Nat.reduceLeDiff, Nat.reduceEqDiff, Nat.reduceBEq, Int.reduceLT, Int.reduceLE, Int.reduceToNat, Int.reduceAdd, Int.reduceSub, Int.reduceMul, Int.reduceNeg, Int.reduceEq, reduceCtorEq, eq_self, ne_eq, not_false_eq_true, if_true, reduceIte]; try simp; try omega) ⟨_, rfl⟩ ⟨_, rfl⟩⟩
        rw [hi, e2]
    · have e : (401 - (f + j)).toNat = 0 := by omega
      rw [e] at hi
      simp only [dueK] at hi
      rw [hi, if_pos (by omega)]
      simp -implicitDefEqProofs only [go_sem, bas, basL, Nat.reduceAdd, Nat.reduceSub, Nat.reduceMul, Nat.reduceLT, Nat.reduceLeDiff, Nat.reduceEqDiff, Nat.reduceBEq, Int.reduceLT, Int.reduceLE, Int.reduceToNat, Int.reduceAdd, Int.reduceSub, Int.reduceMul, Int.reduceNeg, Int.reduceEq, reduceCtorEq, eq_self, ne_eq, not_false_eq_true, if_true, reduceIte]
      repeat' (first
          | refine abs_seq ?_
          | refine abs_block ?_
          | refine abs_skip ?_
          | refine abs_scope ?_
          | refine abs_label ?_
          | refine abs_exit ?_
          | refine abs_ret ?_
          | ((first | refine abs_region fun K hK => ?_ | refine abs_draw Tryz.ty.mixed (by kernel_rfl) fun K hK => ?_ | refine abs_if ?_ | show retQ _ _ _ _ _); simp -implicitDefEqProofs only [go_sem, bas, basL, Nat.reduceAdd, Nat.reduceSub, Nat.reduceMul, Nat.reduceLT, Nat.reduceLeDiff, Nat.reduceEqDiff, Nat.reduceBEq, Int.reduceLT, Int.reduceLE, Int.reduceToNat, Int.reduceAdd, Int.reduceSub, Int.reduceMul, Int.reduceNeg, Int.reduceEq, reduceCtorEq, eq_self, ne_eq, not_false_eq_true, if_true, reduceIte])
          | ((first | (refine hK _ ?_; clear hK K) | show thenQ _ _ _ _ | show blockQ _ _ _ _ | show noGoQ _ _ _); simp only [noGoQ, thenQ, blockQ, if_true, Nat.reduceEqDiff, reduceIte])
          | (intro hg; first | (exfalso; omega) | (exfalso; contradiction) | skip)
          | apply And.intro
          | (with_reducible rfl)
          | (clear hK; omega)
          | omega)
      all_goals skip
  · rw [if_neg h]
    by_cases hf : 0 ≤ f ∧ f ≤ 400
    · have g1 : CallsTo Tryz.prog 35 [i64 f, i64 0, i64 400] (.bool true) := decide_eq_true hf ▸ gin_ok f 0 400
      have e : decide ((0 ≤ f ∧ f ≤ 400) ∧ 0 ≤ w ∧ w ≤ 4000) = decide (0 ≤ w ∧ w ≤ 4000) := by simp [hf]
      rw [e] at ha
      generalize errN s ((0 ≤ f ∧ f ≤ 400) ∧ 0 ≤ w ∧ w ≤ 4000) = e at *
      rw [if_neg h] at ha
      refine calls_abs Tryz.func15 Tryz.ntmps15 Tryz.results15 Tryz.call15 rfl (by simp) fun w0 S0 M0 => ?_
      repeat' (first
          | refine abs_seq ?_
          | refine abs_block ?_
          | refine abs_skip ?_
          | refine abs_scope ?_
          | refine abs_label ?_
          | refine abs_exit ?_
          | refine abs_ret ?_
          | ((first | (show Abs _ (.region 1 _ true) _ _; refine abs_drawD [(3, 8)] Tryz.ty.mixed (by kernel_rfl) fun K hK => ?_) | show Sep _ _ | refine abs_region fun K hK => ?_ | refine abs_draw Tryz.ty.mixed (by kernel_rfl) fun K hK => ?_ | refine abs_if ?_ | show retQ _ _ _ _ _ | refine callK (g1) ?_ | refine callK (gin_ok _ _ _) ?_ | refine callK (ha) ?_); simp -implicitDefEqProofs only [go_sem, bas, basL, Nat.reduceAdd, Nat.reduceSub, Nat.reduceMul, Nat.reduceLT, Nat.reduceLeDiff, Nat.reduceEqDiff, Nat.reduceBEq, Int.reduceLT, Int.reduceLE, Int.reduceToNat, Int.reduceAdd, Int.reduceSub, Int.reduceMul, Int.reduceNeg, Int.reduceEq, reduceCtorEq, eq_self, ne_eq, not_false_eq_true, if_true, reduceIte])
          | ((first | (refine hK _ ?_; clear hK K) | show thenQ _ _ _ _ | show blockQ _ _ _ _ | show noGoQ _ _ _); simp only [noGoQ, thenQ, blockQ, if_true, Nat.reduceEqDiff, reduceIte])
          | (exact (rfl : (Value.slice none 0 0).oneCell' = true))
          | (exact (rfl : (Value.map none).oneCell' = true))
          | (intro hg; first | (exfalso; omega) | (exfalso; contradiction) | skip)
          | apply And.intro
          | (with_reducible rfl)
          | (clear hK; omega)
          | omega)
    · have g1 : CallsTo Tryz.prog 35 [i64 f, i64 0, i64 400] (.bool false) := decide_eq_false hf ▸ gin_ok f 0 400
      have e : decide ((0 ≤ f ∧ f ≤ 400) ∧ 0 ≤ w ∧ w ≤ 4000) = false := by simp [hf]
      rw [e] at ha
      generalize errN s ((0 ≤ f ∧ f ≤ 400) ∧ 0 ≤ w ∧ w ≤ 4000) = e at *
      rw [if_neg h] at ha
      refine calls_abs Tryz.func15 Tryz.ntmps15 Tryz.results15 Tryz.call15 rfl (by simp) fun w0 S0 M0 => ?_
      repeat' (first
          | refine abs_seq ?_
          | refine abs_block ?_
          | refine abs_skip ?_
          | refine abs_scope ?_
          | refine abs_label ?_
          | refine abs_exit ?_
          | refine abs_ret ?_
          | ((first | (show Abs _ (.region 1 _ true) _ _; refine abs_drawD [(3, 8)] Tryz.ty.mixed (by kernel_rfl) fun K hK => ?_) | show Sep _ _ | refine abs_region fun K hK => ?_ | refine abs_draw Tryz.ty.mixed (by kernel_rfl) fun K hK => ?_ | refine abs_if ?_ | show retQ _ _ _ _ _ | refine callK (g1) ?_ | refine callK (gin_ok _ _ _) ?_ | refine callK (ha) ?_); simp -implicitDefEqProofs only [go_sem, bas, basL, Nat.reduceAdd, Nat.reduceSub, Nat.reduceMul, Nat.reduceLT, Nat.reduceLeDiff, Nat.reduceEqDiff, Nat.reduceBEq, Int.reduceLT, Int.reduceLE, Int.reduceToNat, Int.reduceAdd, Int.reduceSub, Int.reduceMul, Int.reduceNeg, Int.reduceEq, reduceCtorEq, eq_self, ne_eq, not_false_eq_true, if_true, reduceIte])
          | ((first | (refine hK _ ?_; clear hK K) | show thenQ _ _ _ _ | show blockQ _ _ _ _ | show noGoQ _ _ _); simp only [noGoQ, thenQ, blockQ, if_true, Nat.reduceEqDiff, reduceIte])
          | (exact (rfl : (Value.slice none 0 0).oneCell' = true))
          | (exact (rfl : (Value.map none).oneCell' = true))
          | (intro hg; first | (exfalso; omega) | (exfalso; contradiction) | skip)
          | apply And.intro
          | (with_reducible rfl)
          | (clear hK; omega)
          | omega)
end Go.Proofs.YtdbiiegohemahaaGreatDoor
