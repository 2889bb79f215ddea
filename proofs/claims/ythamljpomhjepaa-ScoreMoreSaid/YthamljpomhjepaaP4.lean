import Derived.Test.YthamljpomhjepaaP3
import Derived.Test.YthamljpomhjepaaP2
import Derived.Test.YthamljpomhjepaaIt
set_option linter.unusedVariables false
set_option linter.unusedSimpArgs false
namespace Go.Proofs.Ythamljpomhjepaa
open Go.Ab
attribute [local irreducible] Abs CallK CallR CallsTo
set_option linter.unusedSimpArgs false

theorem cl_of {cs : List D} (h1 : ∀ bx rw, pureL bx rw cs = some cs) (h2 : ∀ bx rw, pureDs bx rw cs = some cs) : Cl cs := ⟨h1, h2⟩
theorem rng_mem {step left : Int} (h1 : 1 ≤ step) (h0 : 0 ≤ left) {x : Int} (hx : x ∈ rng step left) : 0 ≤ x ∧ x ≤ left := by
  unfold rng at hx
  obtain ⟨i, hi, rfl⟩ := List.mem_map.1 hx
  have hi := List.mem_range.1 hi
  have hq : 0 ≤ left / step := Int.ediv_nonneg h0 (by omega)
  have : (i : Int) ≤ left / step := by omega
  have h2 : step * (i : Int) ≤ step * (left / step) := Int.mul_le_mul_of_nonneg_left this (by omega)
  have h3 := Int.mul_ediv_self_le (x := left) (k := step) (by omega)
  exact ⟨Int.mul_nonneg (by omega) (by omega), by omega⟩
theorem srch_parts {step : Int} (h1 : 1 ≤ step) : ∀ (k : Nat) (now : List Int) (left : Int), 0 ≤ left → ∀ x ∈ srch step k now left, x.length = now.length + k + 1 ∧ (∀ y ∈ now, y ∈ x) ∧ (∀ y ∈ x, y ∈ now ∨ 0 ≤ y ∧ y ≤ left) ∧ x.sum = now.sum + left
  | 0, now, left, h0, x, hx => by
    simp only [srch, List.mem_singleton] at hx
    subst hx
    refine ⟨by simp, fun y hy => by simp [hy], fun y hy => ?_, by simp⟩
    rcases List.mem_append.1 hy with hy | hy
    · exact .inl hy
    · rw [List.mem_singleton.1 hy]; exact .inr ⟨h0, Int.le_refl _⟩
  | k + 1, now, left, h0, x, hx => by
    simp only [srch, List.mem_flatMap] at hx
    obtain ⟨n, hn, hx⟩ := hx
    have hn' := rng_mem h1 h0 hn
    obtain ⟨e1, e2, e3, e4⟩ := srch_parts h1 k (now ++ [n]) (left - n) (by omega) x hx
    refine ⟨by simp at e1; omega, fun y hy => e2 y (by simp [hy]), fun y hy => ?_, by simp at e4; omega⟩
    rcases e3 y hy with h | h
    · rcases List.mem_append.1 h with h | h
      · exact .inl h
      · rw [List.mem_singleton.1 h]; exact .inr hn'
    · exact .inr ⟨h.1, by omega⟩
theorem sumTo_sum (l : List Int) : sumTo (nth l) l.length = l.sum := by
  have key : ∀ n, n ≤ l.length → sumTo (nth l) n = (l.take n).sum := by
    intro n
    induction n with
    | zero => intro _; rfl
    | succ n ih =>
      intro hn
      have e := List.take_succ_eq_append_getElem (show n < l.length by omega)
      rw [sumTo, ih (by omega), e, nth_eq l n (by omega)]
      simp only [List.sum_append, List.sum_cons, List.sum_nil]; omega
  have := key l.length (Nat.le_refl _)
  rwa [List.take_length] at this
theorem stm_parts {c : Nat} {step : Int} (hc : c = 2 ∨ c = 3) (h1 : 1 ≤ step) {x : List Int} (hx : x ∈ stm c step) : Parts x ∧ x.length = c := by
  obtain ⟨e1, _, e3, e4⟩ := srch_parts h1 _ _ _ (by decide) x hx
  simp at e1 e4
  refine ⟨⟨fun i hi => ?_, by omega, by omega, by rw [sumTo_sum]; exact e4⟩, by omega⟩
  have := e3 (nth x i) (by rw [nth_eq x i hi]; exact List.getElem_mem hi)
  simpa using this
theorem srch_ne {step : Int} (h1 : 1 ≤ step) : ∀ (k : Nat) (now : List Int) (left : Int), 0 ≤ left → srch step k now left ≠ []
  | 0, now, left, _ => by simp [srch]
  | k + 1, now, left, h0 => by
    have h2 : (0 : Int) ∈ rng step left := by
      have hq : 0 ≤ left / step := Int.ediv_nonneg h0 (by omega)
      exact List.mem_map.2 ⟨0, List.mem_range.2 (by omega), by simp⟩
    simp only [srch, ne_eq, List.flatMap_eq_nil_iff, Classical.not_forall]
    exact ⟨0, h2, srch_ne h1 k _ _ (by omega)⟩
theorem stm_ne {c : Nat} {step : Int} (h1 : 1 ≤ step) : stm c step ≠ [] := srch_ne h1 _ _ _ (by decide)

set_option maxRecDepth 100000 in
set_option maxHeartbeats 4000000 in
theorem stms_ok (c step : Int) : CallsTo Try.prog 80 [i64 c, i64 step] (.clo 102 [.ro [i64 c], .ro [i64 step]]) := by
  refine calls_abs Try.func80 Try.ntmps80 Try.results80 Try.call80 rfl (by simp) fun w0 S0 M0 => ?_
  repeat' (first
      | (refine abs_freeze 0 _ _ rfl rfl ?_; simp only [basL, Nat.reduceAdd])
      | (refine abs_freeze 1 _ _ rfl rfl ?_; simp only [basL, Nat.reduceAdd])
      | refine abs_seq ?_
      | refine abs_block ?_
      | refine abs_skip ?_
      | refine abs_exit ?_
      | refine abs_ret ?_
      | ((first | refine abs_region fun K hK => ?_ | refine abs_draw Try.ty.mixed (by kernel_rfl) fun K hK => ?_ | refine abs_if ?_); simp only [go_sem, bas, basL, Nat.reduceAdd, Nat.reduceSub, Nat.reduceMul, Nat.reduceLT, Nat.reduceLeDiff, Nat.reduceEqDiff, Nat.reduceBEq, Int.reduceLT, Int.reduceLE, Int.reduceToNat, Int.reduceAdd, Int.reduceSub, Int.reduceMul, Int.reduceNeg, Int.reduceEq, reduceCtorEq, eq_self, ne_eq, not_false_eq_true, if_true, reduceIte])
      | (refine hK _ ?_; clear hK K; simp only [thenQ, blockQ, if_true, Nat.reduceEqDiff, reduceIte])
      | (show thenQ _ _ _ _; simp only [thenQ, blockQ, if_true, Nat.reduceEqDiff, reduceIte])
      | (show blockQ _ _ _ _; simp only [thenQ, blockQ, if_true, Nat.reduceEqDiff, reduceIte])
      | (show retQ _ _ _ _ _; simp only [go_sem, bas, basL, Nat.reduceAdd, Nat.reduceSub, Nat.reduceMul, Nat.reduceLT, Nat.reduceLeDiff, Nat.reduceEqDiff, Nat.reduceBEq, Int.reduceLT, Int.reduceLE, Int.reduceToNat, Int.reduceAdd, Int.reduceSub, Int.reduceMul, Int.reduceNeg, Int.reduceEq, reduceCtorEq, eq_self, ne_eq, not_false_eq_true, if_true, reduceIte])
      | (intro hg; first | (exfalso; omega) | (exfalso; contradiction) | skip)
      | apply And.intro
      | (with_reducible rfl)
      | (clear hK; omega)
      | omega)

set_option maxRecDepth 100000 in
set_option maxHeartbeats 4000000 in
theorem pbest1_ok (b l : List Int) (hb : Small b) (hl : Small l) (hbl : b.length ≤ l.length) : CallsTo Try.prog 81 [ints l, .ro [ints b]] (i64 (Hp b l)) := by
  refine calls_abs Try.func81 Try.ntmps81 Try.results81 Try.call81 rfl (by simp) fun w0 S0 M0 => ?_
  repeat' (first
      | refine abs_seq ?_
      | refine abs_block ?_
      | refine abs_skip ?_
      | refine abs_exit ?_
      | refine abs_ret ?_
      | ((first | refine abs_region fun K hK => ?_ | refine abs_draw Try.ty.mixed (by kernel_rfl) fun K hK => ?_ | refine abs_if ?_); simp only [go_sem, bas, basL, Nat.reduceAdd, Nat.reduceSub, Nat.reduceMul, Nat.reduceLT, Nat.reduceLeDiff, Nat.reduceEqDiff, Nat.reduceBEq, Int.reduceLT, Int.reduceLE, Int.reduceToNat, Int.reduceAdd, Int.reduceSub, Int.reduceMul, Int.reduceNeg, Int.reduceEq, reduceCtorEq, eq_self, ne_eq, not_false_eq_true, if_true, reduceIte])
      | (refine hK _ ?_; clear hK K; simp only [thenQ, blockQ, if_true, Nat.reduceEqDiff, reduceIte])
      | (show thenQ _ _ _ _; simp only [thenQ, blockQ, if_true, Nat.reduceEqDiff, reduceIte])
      | (show blockQ _ _ _ _; simp only [thenQ, blockQ, if_true, Nat.reduceEqDiff, reduceIte])
      | (refine callK (phope_ok b l hb hl hbl) ?_; try simp only [go_sem, bas, basL, Nat.reduceAdd, Nat.reduceSub, Nat.reduceMul, Nat.reduceLT, Nat.reduceLeDiff, Nat.reduceEqDiff, Nat.reduceBEq, Int.reduceLT, Int.reduceLE, Int.reduceToNat, Int.reduceAdd, Int.reduceSub, Int.reduceMul, Int.reduceNeg, Int.reduceEq, reduceCtorEq, eq_self, ne_eq, not_false_eq_true, if_true, reduceIte])
      | (show retQ _ _ _ _ _; simp only [go_sem, bas, basL, Nat.reduceAdd, Nat.reduceSub, Nat.reduceMul, Nat.reduceLT, Nat.reduceLeDiff, Nat.reduceEqDiff, Nat.reduceBEq, Int.reduceLT, Int.reduceLE, Int.reduceToNat, Int.reduceAdd, Int.reduceSub, Int.reduceMul, Int.reduceNeg, Int.reduceEq, reduceCtorEq, eq_self, ne_eq, not_false_eq_true, if_true, reduceIte])
      | (intro hg; first | (exfalso; omega) | (exfalso; contradiction) | skip)
      | apply And.intro
      | (with_reducible rfl)
      | (clear hK; omega)
      | omega)

/-- The best statement in a step. -/
def bestS (w : List Int → Int) (c : Nat) (step : Int) : List Int × Int := bst w (stm c step) (stm c step).length

set_option maxRecDepth 100000 in
set_option maxHeartbeats 4000000 in
theorem pbest_ok (b : List Int) (step : Int) : CallsTo Try.prog 24 [ints b, i64 step] (.tup (if Parts b ∧ Step step then [ints (bestS (Hp b) b.length step).1, i64 0] else [ints [], i64 2])) := by
  refine calls_abs Try.func24 Try.ntmps24 Try.results24 Try.call24 rfl (by simp) fun w0 S0 M0 => ?_
  by_cases hb : Parts b
  · have h2 := hb.2.1
    have h3 := hb.2.2.1
    by_cases hs : Step step
    · skip
      repeat' (first
          | (refine abs_freeze 0 _ _ rfl rfl ?_; simp only [basL, Nat.reduceAdd])
          | refine abs_seq ?_
          | refine abs_block ?_
          | refine abs_skip ?_
          | refine abs_exit ?_
          | refine abs_ret ?_
          | ((first | refine abs_region fun K hK => ?_ | refine abs_draw Try.ty.mixed (by kernel_rfl) fun K hK => ?_ | refine abs_if ?_); simp only [go_sem, bas, basL, Nat.reduceAdd, Nat.reduceSub, Nat.reduceMul, Nat.reduceLT, Nat.reduceLeDiff, Nat.reduceEqDiff, Nat.reduceBEq, Int.reduceLT, Int.reduceLE, Int.reduceToNat, Int.reduceAdd, Int.reduceSub, Int.reduceMul, Int.reduceNeg, Int.reduceEq, reduceCtorEq, eq_self, ne_eq, not_false_eq_true, if_true, reduceIte])
          | (refine hK _ ?_; clear hK K; simp only [thenQ, blockQ, if_true, Nat.reduceEqDiff, reduceIte])
          | (show thenQ _ _ _ _; simp only [thenQ, blockQ, if_true, Nat.reduceEqDiff, reduceIte])
          | (show blockQ _ _ _ _; simp only [thenQ, blockQ, if_true, Nat.reduceEqDiff, reduceIte])
          | ((first | refine callK (pparts_ok _) ?_ | refine callK (pstep_ok _) ?_ | refine callK (stms_ok _ _) ?_ | refine callK (best1_ok (stm b.length step) 102 _ 81 [.ro [ints b]] (Hp b) ⟨fun _ _ => rfl, fun _ _ => rfl⟩ ⟨fun _ _ => rfl, fun _ _ => rfl⟩ (by simpa using stm_iter b.length step (by omega) hs.1 hs.2.1) (stm_ne hs.1) (fun x hx => pbest1_ok b x hb.small (stm_parts (by omega) hs.1 hx).1.small (by rw [(stm_parts (by omega) hs.1 hx).2]; exact Nat.le_refl _))) ?_); try simp only [go_sem, bas, basL, Nat.reduceAdd, Nat.reduceSub, Nat.reduceMul, Nat.reduceLT, Nat.reduceLeDiff, Nat.reduceEqDiff, Nat.reduceBEq, Int.reduceLT, Int.reduceLE, Int.reduceToNat, Int.reduceAdd, Int.reduceSub, Int.reduceMul, Int.reduceNeg, Int.reduceEq, reduceCtorEq, eq_self, ne_eq, not_false_eq_true, if_true, reduceIte])
          | (show retQ _ _ _ _ _; simp only [go_sem, bas, basL, Nat.reduceAdd, Nat.reduceSub, Nat.reduceMul, Nat.reduceLT, Nat.reduceLeDiff, Nat.reduceEqDiff, Nat.reduceBEq, Int.reduceLT, Int.reduceLE, Int.reduceToNat, Int.reduceAdd, Int.reduceSub, Int.reduceMul, Int.reduceNeg, Int.reduceEq, reduceCtorEq, eq_self, ne_eq, not_false_eq_true, if_true, reduceIte])
          | (intro hg; first | (exfalso; omega) | (exfalso; contradiction) | skip)
          | apply And.intro
          | (with_reducible rfl)
          | (clear hK; omega)
          | omega)
      rw [if_pos ⟨hb, hs⟩]; rfl
    · skip
      repeat' (first
          | (refine abs_freeze 0 _ _ rfl rfl ?_; simp only [basL, Nat.reduceAdd])
          | refine abs_seq ?_
          | refine abs_block ?_
          | refine abs_skip ?_
          | refine abs_exit ?_
          | refine abs_ret ?_
          | ((first | refine abs_region fun K hK => ?_ | refine abs_draw Try.ty.mixed (by kernel_rfl) fun K hK => ?_ | refine abs_if ?_); simp only [go_sem, bas, basL, Nat.reduceAdd, Nat.reduceSub, Nat.reduceMul, Nat.reduceLT, Nat.reduceLeDiff, Nat.reduceEqDiff, Nat.reduceBEq, Int.reduceLT, Int.reduceLE, Int.reduceToNat, Int.reduceAdd, Int.reduceSub, Int.reduceMul, Int.reduceNeg, Int.reduceEq, reduceCtorEq, eq_self, ne_eq, not_false_eq_true, if_true, reduceIte])
          | (refine hK _ ?_; clear hK K; simp only [thenQ, blockQ, if_true, Nat.reduceEqDiff, reduceIte])
          | (show thenQ _ _ _ _; simp only [thenQ, blockQ, if_true, Nat.reduceEqDiff, reduceIte])
          | (show blockQ _ _ _ _; simp only [thenQ, blockQ, if_true, Nat.reduceEqDiff, reduceIte])
          | ((first | refine callK (pparts_ok _) ?_ | refine callK (pstep_ok _) ?_); try simp only [go_sem, bas, basL, Nat.reduceAdd, Nat.reduceSub, Nat.reduceMul, Nat.reduceLT, Nat.reduceLeDiff, Nat.reduceEqDiff, Nat.reduceBEq, Int.reduceLT, Int.reduceLE, Int.reduceToNat, Int.reduceAdd, Int.reduceSub, Int.reduceMul, Int.reduceNeg, Int.reduceEq, reduceCtorEq, eq_self, ne_eq, not_false_eq_true, if_true, reduceIte])
          | (show retQ _ _ _ _ _; simp only [go_sem, bas, basL, Nat.reduceAdd, Nat.reduceSub, Nat.reduceMul, Nat.reduceLT, Nat.reduceLeDiff, Nat.reduceEqDiff, Nat.reduceBEq, Int.reduceLT, Int.reduceLE, Int.reduceToNat, Int.reduceAdd, Int.reduceSub, Int.reduceMul, Int.reduceNeg, Int.reduceEq, reduceCtorEq, eq_self, ne_eq, not_false_eq_true, if_true, reduceIte])
          | (intro hg; first | (exfalso; omega) | (exfalso; contradiction) | skip)
          | apply And.intro
          | (with_reducible rfl)
          | (clear hK; omega)
          | omega)
      rw [if_neg (fun h => hs h.2)]; rfl
  · skip
    repeat' (first
        | (refine abs_freeze 0 _ _ rfl rfl ?_; simp only [basL, Nat.reduceAdd])
        | refine abs_seq ?_
        | refine abs_block ?_
        | refine abs_skip ?_
        | refine abs_exit ?_
        | refine abs_ret ?_
        | ((first | refine abs_region fun K hK => ?_ | refine abs_draw Try.ty.mixed (by kernel_rfl) fun K hK => ?_ | refine abs_if ?_); simp only [go_sem, bas, basL, Nat.reduceAdd, Nat.reduceSub, Nat.reduceMul, Nat.reduceLT, Nat.reduceLeDiff, Nat.reduceEqDiff, Nat.reduceBEq, Int.reduceLT, Int.reduceLE, Int.reduceToNat, Int.reduceAdd, Int.reduceSub, Int.reduceMul, Int.reduceNeg, Int.reduceEq, reduceCtorEq, eq_self, ne_eq, not_false_eq_true, if_true, reduceIte])
        | (refine hK _ ?_; clear hK K; simp only [thenQ, blockQ, if_true, Nat.reduceEqDiff, reduceIte])
        | (show thenQ _ _ _ _; simp only [thenQ, blockQ, if_true, Nat.reduceEqDiff, reduceIte])
        | (show blockQ _ _ _ _; simp only [thenQ, blockQ, if_true, Nat.reduceEqDiff, reduceIte])
        | (refine callK (pparts_ok _) ?_; try simp only [go_sem, bas, basL, Nat.reduceAdd, Nat.reduceSub, Nat.reduceMul, Nat.reduceLT, Nat.reduceLeDiff, Nat.reduceEqDiff, Nat.reduceBEq, Int.reduceLT, Int.reduceLE, Int.reduceToNat, Int.reduceAdd, Int.reduceSub, Int.reduceMul, Int.reduceNeg, Int.reduceEq, reduceCtorEq, eq_self, ne_eq, not_false_eq_true, if_true, reduceIte])
        | (show retQ _ _ _ _ _; simp only [go_sem, bas, basL, Nat.reduceAdd, Nat.reduceSub, Nat.reduceMul, Nat.reduceLT, Nat.reduceLeDiff, Nat.reduceEqDiff, Nat.reduceBEq, Int.reduceLT, Int.reduceLE, Int.reduceToNat, Int.reduceAdd, Int.reduceSub, Int.reduceMul, Int.reduceNeg, Int.reduceEq, reduceCtorEq, eq_self, ne_eq, not_false_eq_true, if_true, reduceIte])
        | (intro hg; first | (exfalso; omega) | (exfalso; contradiction) | skip)
        | apply And.intro
        | (with_reducible rfl)
        | (clear hK; omega)
        | omega)
    rw [if_neg (fun h => hb h.1)]; rfl
end Go.Proofs.Ythamljpomhjepaa
