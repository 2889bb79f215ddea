import Derived.Test.YtdbiiegohemahaaDoorL0
set_option linter.unusedVariables false
set_option linter.unusedSimpArgs false
namespace Go.Proofs.YtdbiiegohemahaaDoor
open Go.Ab
attribute [local irreducible] Abs CallK CallR CallsTo IA
theorem lapp_cons {α : Type} (a : α) (l l' : List α) : List.append (a :: l) l' = a :: List.append l l' := rfl
theorem lapp_nil {α : Type} (l' : List α) : List.append [] l' = l' := rfl
set_option maxRecDepth 100000 in
set_option maxHeartbeats 4000000 in
theorem rtruth_ok (s : Stn) (hs : StOk s) (r : Rdg) (hr : RdOk r) (t : Tru) : CallsTo Tryd.prog 32 [stD s, rdD r, trD t] (.bool (decide (TrOk s r t))) := by
  have h9 := hs.r
  by_cases ht : TrOk s r t
  · rw [decide_eq_true ht]
    unfold TrOk at ht
    refine calls_abs Tryd.func32 Tryd.ntmps32 Tryd.results32 Tryd.call32 rfl (by simp) fun w0 S0 M0 => ?_
    repeat' (first
        | refine abs_seq ?_
        | refine abs_block ?_
        | refine abs_skip ?_
        | refine abs_scope ?_
        | refine abs_label ?_
        | refine abs_exit ?_
        | refine abs_ret ?_
        | ((first | refine abs_region fun K hK => ?_ | refine abs_draw Tryd.ty.mixed (by kernel_rfl) fun K hK => ?_ | refine abs_if ?_ | show retQ _ _ _ _ _ | refine callK (rindex_ok s hs r.day hr.d) ?_ | refine callK (in_ok _ _ _) ?_); simp (maxSteps := 10000000) -implicitDefEqProofs only [go_sem, bas, basL, Nat.reduceAdd, Nat.reduceSub, Nat.reduceMul, Nat.reduceLT, Nat.reduceLeDiff, Nat.reduceEqDiff, Nat.reduceBEq, Int.reduceLT, Int.reduceLE, Int.reduceToNat, Int.reduceAdd, Int.reduceSub, Int.reduceMul, Int.reduceNeg, Int.reduceEq, reduceCtorEq, eq_self, ne_eq, not_false_eq_true, if_true, reduceIte, lapp_cons, lapp_nil])
        | ((first | (refine hK _ ?_; clear hK K) | show thenQ _ _ _ _ | show blockQ _ _ _ _ | show noGoQ _ _ _); simp only [noGoQ, thenQ, blockQ, if_true, Nat.reduceEqDiff, reduceIte])
        | (intro hg; first | (exfalso; omega) | (exfalso; contradiction) | skip)
        | apply And.intro
        | (with_reducible rfl)
        | (clear hK; omega)
        | omega)
    all_goals (rw [decide_eq_true (by omega)])
  · rw [decide_eq_false ht]
    unfold TrOk at ht
    refine calls_abs Tryd.func32 Tryd.ntmps32 Tryd.results32 Tryd.call32 rfl (by simp) fun w0 S0 M0 => ?_
    repeat' (first
        | refine abs_seq ?_
        | refine abs_block ?_
        | refine abs_skip ?_
        | refine abs_scope ?_
        | refine abs_label ?_
        | refine abs_exit ?_
        | refine abs_ret ?_
        | ((first | refine abs_region fun K hK => ?_ | refine abs_draw Tryd.ty.mixed (by kernel_rfl) fun K hK => ?_ | refine abs_if ?_ | show retQ _ _ _ _ _ | refine callK (rindex_ok s hs r.day hr.d) ?_ | refine callK (in_ok _ _ _) ?_); simp (maxSteps := 10000000) -implicitDefEqProofs only [go_sem, bas, basL, Nat.reduceAdd, Nat.reduceSub, Nat.reduceMul, Nat.reduceLT, Nat.reduceLeDiff, Nat.reduceEqDiff, Nat.reduceBEq, Int.reduceLT, Int.reduceLE, Int.reduceToNat, Int.reduceAdd, Int.reduceSub, Int.reduceMul, Int.reduceNeg, Int.reduceEq, reduceCtorEq, eq_self, ne_eq, not_false_eq_true, if_true, reduceIte, lapp_cons, lapp_nil])
        | ((first | (refine hK _ ?_; clear hK K) | show thenQ _ _ _ _ | show blockQ _ _ _ _ | show noGoQ _ _ _); simp only [noGoQ, thenQ, blockQ, if_true, Nat.reduceEqDiff, reduceIte])
        | (intro hg; first | (exfalso; omega) | (exfalso; contradiction) | skip)
        | apply And.intro
        | (with_reducible rfl)
        | (clear hK; omega)
        | omega)
    all_goals (rw [decide_eq_false (by omega)])
set_option maxRecDepth 100000 in
set_option maxHeartbeats 4000000 in
theorem plays_law (s : Stn) (hl : s.ck.length ≤ 9223372036854775807) (r : Rdg) (t : Tru) : CallsTo Tryd.prog 6 [stD s, rdD r, trD t] (.bool true) := by
  by_cases h16 : (s.ck.length : Int) ≤ 16
  · have h1 : CallsTo Tryd.prog 24 [stD s] (.bool true) := decide_eq_true h16 ▸ short_ok s
    have h4 := gPlay_ok s hl r t
    have h5 := asked_ref s hl (RdOk r)
    by_cases he : errN s (RdOk r) = 0
    · have hz := errN_zero he
      have hs := hz.1.1
      rw [he] at h5
      have h6 := rtruth_ok s hs r hz.1.2 t
      by_cases ht : TrOk s r t
      · have e : plE s r t = 0 := by unfold plE; rw [if_pos he, if_pos ht]
        rw [e, if_pos rfl] at h4
        rw [decide_eq_true ht] at h6
        have h7 := rplay_ok r t hz.1.2 (trB_of hs hz.1.2 ht)
        refine calls_abs Tryd.func6 Tryd.ntmps6 Tryd.results6 Tryd.call6 rfl (by simp) fun w0 S0 M0 => ?_
        repeat' (first
            | refine abs_seq ?_
            | refine abs_block ?_
            | refine abs_skip ?_
            | refine abs_scope ?_
            | refine abs_label ?_
            | refine abs_exit ?_
            | refine abs_ret ?_
            | ((first | refine abs_region fun K hK => ?_ | refine abs_draw Tryd.ty.mixed (by kernel_rfl) fun K hK => ?_ | refine abs_if ?_ | show retQ _ _ _ _ _ | refine callK (h1) ?_ | refine callK (h4) ?_ | refine callK (reading_ok _) ?_ | refine callK (h5) ?_ | refine callK (h6) ?_ | refine callK (h7) ?_ | refine callK (known_ok) ?_); simp (maxSteps := 10000000) -implicitDefEqProofs only [go_sem, bas, basL, Nat.reduceAdd, Nat.reduceSub, Nat.reduceMul, Nat.reduceLT, Nat.reduceLeDiff, Nat.reduceEqDiff, Nat.reduceBEq, Int.reduceLT, Int.reduceLE, Int.reduceToNat, Int.reduceAdd, Int.reduceSub, Int.reduceMul, Int.reduceNeg, Int.reduceEq, reduceCtorEq, eq_self, ne_eq, not_false_eq_true, if_true, reduceIte])
            | ((first | (refine hK _ ?_; clear hK K) | show thenQ _ _ _ _ | show blockQ _ _ _ _ | show noGoQ _ _ _); simp only [noGoQ, thenQ, blockQ, if_true, Nat.reduceEqDiff, reduceIte])
            | (intro hg; first | (exfalso; omega) | (exfalso; contradiction) | skip)
            | apply And.intro
            | (with_reducible rfl)
            | (clear hK; omega)
            | omega)
      · have e : plE s r t = 2 := by unfold plE; rw [if_pos he, if_neg ht]
        rw [e, if_neg (by omega)] at h4
        rw [decide_eq_false ht] at h6
        refine calls_abs Tryd.func6 Tryd.ntmps6 Tryd.results6 Tryd.call6 rfl (by simp) fun w0 S0 M0 => ?_
        repeat' (first
            | refine abs_seq ?_
            | refine abs_block ?_
            | refine abs_skip ?_
            | refine abs_scope ?_
            | refine abs_label ?_
            | refine abs_exit ?_
            | refine abs_ret ?_
            | ((first | refine abs_region fun K hK => ?_ | refine abs_draw Tryd.ty.mixed (by kernel_rfl) fun K hK => ?_ | refine abs_if ?_ | show retQ _ _ _ _ _ | refine callK (h1) ?_ | refine callK (h4) ?_ | refine callK (reading_ok _) ?_ | refine callK (h5) ?_ | refine callK (h6) ?_ | refine callK (known_ok) ?_); simp (maxSteps := 10000000) -implicitDefEqProofs only [go_sem, bas, basL, Nat.reduceAdd, Nat.reduceSub, Nat.reduceMul, Nat.reduceLT, Nat.reduceLeDiff, Nat.reduceEqDiff, Nat.reduceBEq, Int.reduceLT, Int.reduceLE, Int.reduceToNat, Int.reduceAdd, Int.reduceSub, Int.reduceMul, Int.reduceNeg, Int.reduceEq, reduceCtorEq, eq_self, ne_eq, not_false_eq_true, if_true, reduceIte])
            | ((first | (refine hK _ ?_; clear hK K) | show thenQ _ _ _ _ | show blockQ _ _ _ _ | show noGoQ _ _ _); simp only [noGoQ, thenQ, blockQ, if_true, Nat.reduceEqDiff, reduceIte])
            | (intro hg; first | (exfalso; omega) | (exfalso; contradiction) | skip)
            | apply And.intro
            | (with_reducible rfl)
            | (clear hK; omega)
            | omega)
    · have e : plE s r t = errN s (RdOk r) := by unfold plE; rw [if_neg he]
      rw [e] at h4
      generalize errN s (RdOk r) = e at *
      rw [if_neg he] at h4
      refine calls_abs Tryd.func6 Tryd.ntmps6 Tryd.results6 Tryd.call6 rfl (by simp) fun w0 S0 M0 => ?_
      repeat' (first
          | refine abs_seq ?_
          | refine abs_block ?_
          | refine abs_skip ?_
          | refine abs_scope ?_
          | refine abs_label ?_
          | refine abs_exit ?_
          | refine abs_ret ?_
          | ((first | refine abs_region fun K hK => ?_ | refine abs_draw Tryd.ty.mixed (by kernel_rfl) fun K hK => ?_ | refine abs_if ?_ | show retQ _ _ _ _ _ | refine callK (h1) ?_ | refine callK (h4) ?_ | refine callK (reading_ok _) ?_ | refine callK (h5) ?_ | refine callK (known_ok) ?_); simp (maxSteps := 10000000) -implicitDefEqProofs only [go_sem, bas, basL, Nat.reduceAdd, Nat.reduceSub, Nat.reduceMul, Nat.reduceLT, Nat.reduceLeDiff, Nat.reduceEqDiff, Nat.reduceBEq, Int.reduceLT, Int.reduceLE, Int.reduceToNat, Int.reduceAdd, Int.reduceSub, Int.reduceMul, Int.reduceNeg, Int.reduceEq, reduceCtorEq, eq_self, ne_eq, not_false_eq_true, if_true, reduceIte])
          | ((first | (refine hK _ ?_; clear hK K) | show thenQ _ _ _ _ | show blockQ _ _ _ _ | show noGoQ _ _ _); simp only [noGoQ, thenQ, blockQ, if_true, Nat.reduceEqDiff, reduceIte])
          | (intro hg; first | (exfalso; omega) | (exfalso; contradiction) | skip)
          | apply And.intro
          | (with_reducible rfl)
          | (clear hK; omega)
          | omega)
  · have h1 : CallsTo Tryd.prog 24 [stD s] (.bool false) := decide_eq_false h16 ▸ short_ok s
    refine calls_abs Tryd.func6 Tryd.ntmps6 Tryd.results6 Tryd.call6 rfl (by simp) fun w0 S0 M0 => ?_
    repeat' (first
        | refine abs_seq ?_
        | refine abs_block ?_
        | refine abs_skip ?_
        | refine abs_scope ?_
        | refine abs_label ?_
        | refine abs_exit ?_
        | refine abs_ret ?_
        | ((first | refine abs_region fun K hK => ?_ | refine abs_draw Tryd.ty.mixed (by kernel_rfl) fun K hK => ?_ | refine abs_if ?_ | show retQ _ _ _ _ _ | refine callK (h1) ?_ | refine callK (known_ok) ?_); simp (maxSteps := 10000000) -implicitDefEqProofs only [go_sem, bas, basL, Nat.reduceAdd, Nat.reduceSub, Nat.reduceMul, Nat.reduceLT, Nat.reduceLeDiff, Nat.reduceEqDiff, Nat.reduceBEq, Int.reduceLT, Int.reduceLE, Int.reduceToNat, Int.reduceAdd, Int.reduceSub, Int.reduceMul, Int.reduceNeg, Int.reduceEq, reduceCtorEq, eq_self, ne_eq, not_false_eq_true, if_true, reduceIte])
        | ((first | (refine hK _ ?_; clear hK K) | show thenQ _ _ _ _ | show blockQ _ _ _ _ | show noGoQ _ _ _); simp only [noGoQ, thenQ, blockQ, if_true, Nat.reduceEqDiff, reduceIte])
        | (intro hg; first | (exfalso; omega) | (exfalso; contradiction) | skip)
        | apply And.intro
        | (with_reducible rfl)
        | (clear hK; omega)
        | omega)
end Go.Proofs.YtdbiiegohemahaaDoor
