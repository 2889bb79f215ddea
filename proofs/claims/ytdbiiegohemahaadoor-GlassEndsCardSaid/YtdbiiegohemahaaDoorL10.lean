import Derived.Test.YtdbiiegohemahaaDoorM0
set_option linter.unusedVariables false
set_option linter.unusedSimpArgs false
namespace Go.Proofs.YtdbiiegohemahaaDoor
open Go.Ab
attribute [local irreducible] Abs CallK CallR CallsTo IA
section
variable {k : D → Prop} {a b c d e f : D} {l : List D}
theorem wn0 : wNth (a :: l) 0 k = k a := by unfold wNth; simp
theorem wn1 : wNth (a :: b :: l) 1 k = k b := by unfold wNth; simp
theorem wn2 : wNth (a :: b :: c :: l) 2 k = k c := by unfold wNth; simp
theorem wn3 : wNth (a :: b :: c :: d :: l) 3 k = k d := by unfold wNth; simp
theorem wn4 : wNth (a :: b :: c :: d :: e :: l) 4 k = k e := by unfold wNth; simp
theorem wn5 : wNth (a :: b :: c :: d :: e :: f :: l) 5 k = k f := by unfold wNth; simp
end
set_option maxRecDepth 100000 in
set_option maxHeartbeats 4000000 in
theorem ends_law (s : Stn) (hl : s.ck.length ≤ 9223372036854775807) (r : Rdg) (e : Int) : CallsTo Tryd.prog 9 [stD s, rdD r, i64 e] (.bool true) := by
  by_cases hag : StOk s ∧ NoClash s
  · have hs := hag.1
    have hn := hag.2
    have h1 := agr1 hs hn
    by_cases hr : RdOk r
    · have d1 : CallsTo Tryd.prog 31 [rdD r] (.bool true) := decide_eq_true hr ▸ reading_ok r
      by_cases he5 : 0 ≤ e ∧ e ≤ 5
      · have he := errN_ok (s := s) (fine := RdOk r) ⟨hs, hr⟩ hn
        have h4 := fun e => gPlay_ok s hl r (endT s r e)
        have e0 : ∀ e, plE s r (endT s r e) = 0 := fun e => by unfold plE; rw [if_pos he, if_pos (endT_ok hs hr hn e)]
        simp only [e0, if_true] at h4
        have h5 := gKnow_ok s hl r
        rw [he, if_pos rfl] at h5
        have hc : e = 0 ∨ e = 1 ∨ e = 2 ∨ e = 3 ∨ e = 4 ∨ e = 5 := by omega
        rcases hc with rfl | rfl | rfl | rfl | rfl | rfl
        · have h6 := rend_ok s hs r hr 0 (by decide)
          refine calls_abs Tryd.func9 Tryd.ntmps9 Tryd.results9 Tryd.call9 rfl (by simp) fun w0 S0 M0 => ?_
          repeat' (first
              | refine abs_seq ?_
              | refine abs_block ?_
              | refine abs_skip ?_
              | refine abs_scope ?_
              | refine abs_label ?_
              | refine abs_exit ?_
              | refine abs_ret ?_
              | ((first | (show Abs _ (.region 4 _ true) _ _; refine abs_drawD [(3, 9), (4, 9)] Tryd.ty.mixed (by kernel_rfl) fun K hK => ?_) | show Sep _ _ | refine abs_region fun K hK => ?_ | refine abs_draw Tryd.ty.mixed (by kernel_rfl) fun K hK => ?_ | refine abs_if ?_ | show retQ _ _ _ _ _ | refine callK (h1) ?_ | refine callK (d1) ?_ | refine callK (h4 _) ?_ | refine callK (h5) ?_ | refine callK (h6) ?_ | refine callK (known_ok) ?_); simp -implicitDefEqProofs only [go_sem, bas, basL, Nat.reduceAdd, Nat.reduceSub, Nat.reduceMul, Nat.reduceLT, Nat.reduceLeDiff, Nat.reduceEqDiff, Nat.reduceBEq, Int.reduceLT, Int.reduceLE, Int.reduceToNat, Int.reduceAdd, Int.reduceSub, Int.reduceMul, Int.reduceNeg, Int.reduceEq, reduceCtorEq, eq_self, ne_eq, not_false_eq_true, if_true, reduceIte, ↓wn0, ↓wn1, ↓wn2, ↓wn3, ↓wn4, ↓wn5])
              | ((first | (refine hK _ ?_; clear hK K) | show thenQ _ _ _ _ | show blockQ _ _ _ _ | show noGoQ _ _ _); simp only [noGoQ, thenQ, blockQ, if_true, Nat.reduceEqDiff, reduceIte])
              | (intro hg; first | (exfalso; omega) | (exfalso; contradiction) | skip)
              | apply And.intro
              | (with_reducible rfl)
              | (clear hK; omega)
              | omega)
        · have h6 := rend_ok s hs r hr 1 (by decide)
          refine calls_abs Tryd.func9 Tryd.ntmps9 Tryd.results9 Tryd.call9 rfl (by simp) fun w0 S0 M0 => ?_
          repeat' (first
              | refine abs_seq ?_
              | refine abs_block ?_
              | refine abs_skip ?_
              | refine abs_scope ?_
              | refine abs_label ?_
              | refine abs_exit ?_
              | refine abs_ret ?_
              | ((first | (show Abs _ (.region 4 _ true) _ _; refine abs_drawD [(3, 9), (4, 9)] Tryd.ty.mixed (by kernel_rfl) fun K hK => ?_) | show Sep _ _ | refine abs_region fun K hK => ?_ | refine abs_draw Tryd.ty.mixed (by kernel_rfl) fun K hK => ?_ | refine abs_if ?_ | show retQ _ _ _ _ _ | refine callK (h1) ?_ | refine callK (d1) ?_ | refine callK (h4 _) ?_ | refine callK (h5) ?_ | refine callK (h6) ?_ | refine callK (known_ok) ?_); simp -implicitDefEqProofs only [go_sem, bas, basL, Nat.reduceAdd, Nat.reduceSub, Nat.reduceMul, Nat.reduceLT, Nat.reduceLeDiff, Nat.reduceEqDiff, Nat.reduceBEq, Int.reduceLT, Int.reduceLE, Int.reduceToNat, Int.reduceAdd, Int.reduceSub, Int.reduceMul, Int.reduceNeg, Int.reduceEq, reduceCtorEq, eq_self, ne_eq, not_false_eq_true, if_true, reduceIte, ↓wn0, ↓wn1, ↓wn2, ↓wn3, ↓wn4, ↓wn5])
              | ((first | (refine hK _ ?_; clear hK K) | show thenQ _ _ _ _ | show blockQ _ _ _ _ | show noGoQ _ _ _); simp only [noGoQ, thenQ, blockQ, if_true, Nat.reduceEqDiff, reduceIte])
              | (intro hg; first | (exfalso; omega) | (exfalso; contradiction) | skip)
              | apply And.intro
              | (with_reducible rfl)
              | (clear hK; omega)
              | omega)
        · have h6 := rend_ok s hs r hr 2 (by decide)
          refine calls_abs Tryd.func9 Tryd.ntmps9 Tryd.results9 Tryd.call9 rfl (by simp) fun w0 S0 M0 => ?_
          repeat' (first
              | refine abs_seq ?_
              | refine abs_block ?_
              | refine abs_skip ?_
              | refine abs_scope ?_
              | refine abs_label ?_
              | refine abs_exit ?_
              | refine abs_ret ?_
              | ((first | (show Abs _ (.region 4 _ true) _ _; refine abs_drawD [(3, 9), (4, 9)] Tryd.ty.mixed (by kernel_rfl) fun K hK => ?_) | show Sep _ _ | refine abs_region fun K hK => ?_ | refine abs_draw Tryd.ty.mixed (by kernel_rfl) fun K hK => ?_ | refine abs_if ?_ | show retQ _ _ _ _ _ | refine callK (h1) ?_ | refine callK (d1) ?_ | refine callK (h4 _) ?_ | refine callK (h5) ?_ | refine callK (h6) ?_ | refine callK (known_ok) ?_); simp -implicitDefEqProofs only [go_sem, bas, basL, Nat.reduceAdd, Nat.reduceSub, Nat.reduceMul, Nat.reduceLT, Nat.reduceLeDiff, Nat.reduceEqDiff, Nat.reduceBEq, Int.reduceLT, Int.reduceLE, Int.reduceToNat, Int.reduceAdd, Int.reduceSub, Int.reduceMul, Int.reduceNeg, Int.reduceEq, reduceCtorEq, eq_self, ne_eq, not_false_eq_true, if_true, reduceIte, ↓wn0, ↓wn1, ↓wn2, ↓wn3, ↓wn4, ↓wn5])
              | ((first | (refine hK _ ?_; clear hK K) | show thenQ _ _ _ _ | show blockQ _ _ _ _ | show noGoQ _ _ _); simp only [noGoQ, thenQ, blockQ, if_true, Nat.reduceEqDiff, reduceIte])
              | (intro hg; first | (exfalso; omega) | (exfalso; contradiction) | skip)
              | apply And.intro
              | (with_reducible rfl)
              | (clear hK; omega)
              | omega)
        · have h6 := rend_ok s hs r hr 3 (by decide)
          refine calls_abs Tryd.func9 Tryd.ntmps9 Tryd.results9 Tryd.call9 rfl (by simp) fun w0 S0 M0 => ?_
          repeat' (first
              | refine abs_seq ?_
              | refine abs_block ?_
              | refine abs_skip ?_
              | refine abs_scope ?_
              | refine abs_label ?_
              | refine abs_exit ?_
              | refine abs_ret ?_
              | ((first | (show Abs _ (.region 4 _ true) _ _; refine abs_drawD [(3, 9), (4, 9)] Tryd.ty.mixed (by kernel_rfl) fun K hK => ?_) | show Sep _ _ | refine abs_region fun K hK => ?_ | refine abs_draw Tryd.ty.mixed (by kernel_rfl) fun K hK => ?_ | refine abs_if ?_ | show retQ _ _ _ _ _ | refine callK (h1) ?_ | refine callK (d1) ?_ | refine callK (h4 _) ?_ | refine callK (h5) ?_ | refine callK (h6) ?_ | refine callK (known_ok) ?_); simp -implicitDefEqProofs only [go_sem, bas, basL, Nat.reduceAdd, Nat.reduceSub, Nat.reduceMul, Nat.reduceLT, Nat.reduceLeDiff, Nat.reduceEqDiff, Nat.reduceBEq, Int.reduceLT, Int.reduceLE, Int.reduceToNat, Int.reduceAdd, Int.reduceSub, Int.reduceMul, Int.reduceNeg, Int.reduceEq, reduceCtorEq, eq_self, ne_eq, not_false_eq_true, if_true, reduceIte, ↓wn0, ↓wn1, ↓wn2, ↓wn3, ↓wn4, ↓wn5])
              | ((first | (refine hK _ ?_; clear hK K) | show thenQ _ _ _ _ | show blockQ _ _ _ _ | show noGoQ _ _ _); simp only [noGoQ, thenQ, blockQ, if_true, Nat.reduceEqDiff, reduceIte])
              | (intro hg; first | (exfalso; omega) | (exfalso; contradiction) | skip)
              | apply And.intro
              | (with_reducible rfl)
              | (clear hK; omega)
              | omega)
        · have h6 := rend_ok s hs r hr 4 (by decide)
          refine calls_abs Tryd.func9 Tryd.ntmps9 Tryd.results9 Tryd.call9 rfl (by simp) fun w0 S0 M0 => ?_
          repeat' (first
              | refine abs_seq ?_
              | refine abs_block ?_
              | refine abs_skip ?_
              | refine abs_scope ?_
              | refine abs_label ?_
              | refine abs_exit ?_
              | refine abs_ret ?_
              | ((first | (show Abs _ (.region 4 _ true) _ _; refine abs_drawD [(3, 9), (4, 9)] Tryd.ty.mixed (by kernel_rfl) fun K hK => ?_) | show Sep _ _ | refine abs_region fun K hK => ?_ | refine abs_draw Tryd.ty.mixed (by kernel_rfl) fun K hK => ?_ | refine abs_if ?_ | show retQ _ _ _ _ _ | refine callK (h1) ?_ | refine callK (d1) ?_ | refine callK (h4 _) ?_ | refine callK (h5) ?_ | refine callK (h6) ?_ | refine callK (known_ok) ?_); simp -implicitDefEqProofs only [go_sem, bas, basL, Nat.reduceAdd, Nat.reduceSub, Nat.reduceMul, Nat.reduceLT, Nat.reduceLeDiff, Nat.reduceEqDiff, Nat.reduceBEq, Int.reduceLT, Int.reduceLE, Int.reduceToNat, Int.reduceAdd, Int.reduceSub, Int.reduceMul, Int.reduceNeg, Int.reduceEq, reduceCtorEq, eq_self, ne_eq, not_false_eq_true, if_true, reduceIte, ↓wn0, ↓wn1, ↓wn2, ↓wn3, ↓wn4, ↓wn5])
              | ((first | (refine hK _ ?_; clear hK K) | show thenQ _ _ _ _ | show blockQ _ _ _ _ | show noGoQ _ _ _); simp only [noGoQ, thenQ, blockQ, if_true, Nat.reduceEqDiff, reduceIte])
              | (intro hg; first | (exfalso; omega) | (exfalso; contradiction) | skip)
              | apply And.intro
              | (with_reducible rfl)
              | (clear hK; omega)
              | omega)
        · have h6 := rend_ok s hs r hr 5 (by decide)
          refine calls_abs Tryd.func9 Tryd.ntmps9 Tryd.results9 Tryd.call9 rfl (by simp) fun w0 S0 M0 => ?_
          repeat' (first
              | refine abs_seq ?_
              | refine abs_block ?_
              | refine abs_skip ?_
              | refine abs_scope ?_
              | refine abs_label ?_
              | refine abs_exit ?_
              | refine abs_ret ?_
              | ((first | (show Abs _ (.region 4 _ true) _ _; refine abs_drawD [(3, 9), (4, 9)] Tryd.ty.mixed (by kernel_rfl) fun K hK => ?_) | show Sep _ _ | refine abs_region fun K hK => ?_ | refine abs_draw Tryd.ty.mixed (by kernel_rfl) fun K hK => ?_ | refine abs_if ?_ | show retQ _ _ _ _ _ | refine callK (h1) ?_ | refine callK (d1) ?_ | refine callK (h4 _) ?_ | refine callK (h5) ?_ | refine callK (h6) ?_ | refine callK (known_ok) ?_); simp -implicitDefEqProofs only [go_sem, bas, basL, Nat.reduceAdd, Nat.reduceSub, Nat.reduceMul, Nat.reduceLT, Nat.reduceLeDiff, Nat.reduceEqDiff, Nat.reduceBEq, Int.reduceLT, Int.reduceLE, Int.reduceToNat, Int.reduceAdd, Int.reduceSub, Int.reduceMul, Int.reduceNeg, Int.reduceEq, reduceCtorEq, eq_self, ne_eq, not_false_eq_true, if_true, reduceIte, ↓wn0, ↓wn1, ↓wn2, ↓wn3, ↓wn4, ↓wn5])
              | ((first | (refine hK _ ?_; clear hK K) | show thenQ _ _ _ _ | show blockQ _ _ _ _ | show noGoQ _ _ _); simp only [noGoQ, thenQ, blockQ, if_true, Nat.reduceEqDiff, reduceIte])
              | (intro hg; first | (exfalso; omega) | (exfalso; contradiction) | skip)
              | apply And.intro
              | (with_reducible rfl)
              | (clear hK; omega)
              | omega)
      · refine calls_abs Tryd.func9 Tryd.ntmps9 Tryd.results9 Tryd.call9 rfl (by simp) fun w0 S0 M0 => ?_
        repeat' (first
            | refine abs_seq ?_
            | refine abs_block ?_
            | refine abs_skip ?_
            | refine abs_scope ?_
            | refine abs_label ?_
            | refine abs_exit ?_
            | refine abs_ret ?_
            | ((first | refine abs_region fun K hK => ?_ | refine abs_draw Tryd.ty.mixed (by kernel_rfl) fun K hK => ?_ | refine abs_if ?_ | show retQ _ _ _ _ _ | refine callK (h1) ?_ | refine callK (d1) ?_ | refine callK (known_ok) ?_); simp -implicitDefEqProofs only [go_sem, bas, basL, Nat.reduceAdd, Nat.reduceSub, Nat.reduceMul, Nat.reduceLT, Nat.reduceLeDiff, Nat.reduceEqDiff, Nat.reduceBEq, Int.reduceLT, Int.reduceLE, Int.reduceToNat, Int.reduceAdd, Int.reduceSub, Int.reduceMul, Int.reduceNeg, Int.reduceEq, reduceCtorEq, eq_self, ne_eq, not_false_eq_true, if_true, reduceIte, ↓wn0, ↓wn1, ↓wn2, ↓wn3, ↓wn4, ↓wn5])
            | ((first | (refine hK _ ?_; clear hK K) | show thenQ _ _ _ _ | show blockQ _ _ _ _ | show noGoQ _ _ _); simp only [noGoQ, thenQ, blockQ, if_true, Nat.reduceEqDiff, reduceIte])
            | (intro hg; first | (exfalso; omega) | (exfalso; contradiction) | skip)
            | apply And.intro
            | (with_reducible rfl)
            | (clear hK; omega)
            | omega)
    · have d1 : CallsTo Tryd.prog 31 [rdD r] (.bool false) := decide_eq_false hr ▸ reading_ok r
      refine calls_abs Tryd.func9 Tryd.ntmps9 Tryd.results9 Tryd.call9 rfl (by simp) fun w0 S0 M0 => ?_
      repeat' (first
          | refine abs_seq ?_
          | refine abs_block ?_
          | refine abs_skip ?_
          | refine abs_scope ?_
          | refine abs_label ?_
          | refine abs_exit ?_
          | refine abs_ret ?_
          | ((first | refine abs_region fun K hK => ?_ | refine abs_draw Tryd.ty.mixed (by kernel_rfl) fun K hK => ?_ | refine abs_if ?_ | show retQ _ _ _ _ _ | refine callK (h1) ?_ | refine callK (d1) ?_ | refine callK (known_ok) ?_); simp -implicitDefEqProofs only [go_sem, bas, basL, Nat.reduceAdd, Nat.reduceSub, Nat.reduceMul, Nat.reduceLT, Nat.reduceLeDiff, Nat.reduceEqDiff, Nat.reduceBEq, Int.reduceLT, Int.reduceLE, Int.reduceToNat, Int.reduceAdd, Int.reduceSub, Int.reduceMul, Int.reduceNeg, Int.reduceEq, reduceCtorEq, eq_self, ne_eq, not_false_eq_true, if_true, reduceIte, ↓wn0, ↓wn1, ↓wn2, ↓wn3, ↓wn4, ↓wn5])
          | ((first | (refine hK _ ?_; clear hK K) | show thenQ _ _ _ _ | show blockQ _ _ _ _ | show noGoQ _ _ _); simp only [noGoQ, thenQ, blockQ, if_true, Nat.reduceEqDiff, reduceIte])
          | (intro hg; first | (exfalso; omega) | (exfalso; contradiction) | skip)
          | apply And.intro
          | (with_reducible rfl)
          | (clear hK; omega)
          | omega)
  · have h1 := agr0 hl hag
    refine calls_abs Tryd.func9 Tryd.ntmps9 Tryd.results9 Tryd.call9 rfl (by simp) fun w0 S0 M0 => ?_
    repeat' (first
        | refine abs_seq ?_
        | refine abs_block ?_
        | refine abs_skip ?_
        | refine abs_scope ?_
        | refine abs_label ?_
        | refine abs_exit ?_
        | refine abs_ret ?_
        | ((first | refine abs_region fun K hK => ?_ | refine abs_draw Tryd.ty.mixed (by kernel_rfl) fun K hK => ?_ | refine abs_if ?_ | show retQ _ _ _ _ _ | refine callK (h1) ?_ | refine callK (known_ok) ?_); simp -implicitDefEqProofs only [go_sem, bas, basL, Nat.reduceAdd, Nat.reduceSub, Nat.reduceMul, Nat.reduceLT, Nat.reduceLeDiff, Nat.reduceEqDiff, Nat.reduceBEq, Int.reduceLT, Int.reduceLE, Int.reduceToNat, Int.reduceAdd, Int.reduceSub, Int.reduceMul, Int.reduceNeg, Int.reduceEq, reduceCtorEq, eq_self, ne_eq, not_false_eq_true, if_true, reduceIte, ↓wn0, ↓wn1, ↓wn2, ↓wn3, ↓wn4, ↓wn5])
        | ((first | (refine hK _ ?_; clear hK K) | show thenQ _ _ _ _ | show blockQ _ _ _ _ | show noGoQ _ _ _); simp only [noGoQ, thenQ, blockQ, if_true, Nat.reduceEqDiff, reduceIte])
        | (intro hg; first | (exfalso; omega) | (exfalso; contradiction) | skip)
        | apply And.intro
        | (with_reducible rfl)
        | (clear hK; omega)
        | omega)
end Go.Proofs.YtdbiiegohemahaaDoor
