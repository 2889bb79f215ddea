import Derived.Test.YtdbiiegohemahaaGreatDoorA7
set_option linter.unusedVariables false
set_option linter.unusedSimpArgs false
namespace Go.Proofs.YtdbiiegohemahaaGreatDoor
open Go.Ab
attribute [local irreducible] Abs CallK CallR CallsTo

/-- The minutes of a reading. -/
def whenL (s : Stn) (r : Rdg) : List (Int × Int) :=
  if r.clk = 1 then [(railM r - s.sl, railM r + s.sl)] else if r.clk = 2 then [(railM r - s.ea - s.sl, railM r - s.ea + s.sl)] else
  if max (railM r) (railM r - s.ea) - s.sl ≤ min (railM r) (railM r - s.ea) + s.sl + 1 then [(min (railM r) (railM r - s.ea) - s.sl, max (railM r) (railM r - s.ea) + s.sl)]
  else [(min (railM r) (railM r - s.ea) - s.sl, min (railM r) (railM r - s.ea) + s.sl), (max (railM r) (railM r - s.ea) - s.sl, max (railM r) (railM r - s.ea) + s.sl)]
section
variable {s : Stn} {r : Rdg}
theorem whenL_a (hc : r.clk = 3) (h : railM r - s.ea - s.sl < railM r - s.sl) (g : railM r - s.sl ≤ railM r - s.ea + s.sl + 1) : whenL s r = [(railM r - s.ea - s.sl, railM r + s.sl)] := by
  have e1 : min (railM r) (railM r - s.ea) = railM r - s.ea := by omega
  have e2 : max (railM r) (railM r - s.ea) = railM r := by omega
  unfold whenL; rw [if_neg (by omega), if_neg (by omega), e1, e2, if_pos g]
theorem whenL_b (hc : r.clk = 3) (h : railM r - s.ea - s.sl < railM r - s.sl) (g : ¬ railM r - s.sl ≤ railM r - s.ea + s.sl + 1) : whenL s r = [(railM r - s.ea - s.sl, railM r - s.ea + s.sl), (railM r - s.sl, railM r + s.sl)] := by
  have e1 : min (railM r) (railM r - s.ea) = railM r - s.ea := by omega
  have e2 : max (railM r) (railM r - s.ea) = railM r := by omega
  unfold whenL; rw [if_neg (by omega), if_neg (by omega), e1, e2, if_neg g]
theorem whenL_c (hc : r.clk = 3) (h : ¬ railM r - s.ea - s.sl < railM r - s.sl) (g : railM r - s.ea - s.sl ≤ railM r + s.sl + 1) : whenL s r = [(railM r - s.sl, railM r - s.ea + s.sl)] := by
  have e1 : min (railM r) (railM r - s.ea) = railM r := by omega
  have e2 : max (railM r) (railM r - s.ea) = railM r - s.ea := by omega
  unfold whenL; rw [if_neg (by omega), if_neg (by omega), e1, e2, if_pos g]
theorem whenL_d (hc : r.clk = 3) (h : ¬ railM r - s.ea - s.sl < railM r - s.sl) (g : ¬ railM r - s.ea - s.sl ≤ railM r + s.sl + 1) : whenL s r = [(railM r - s.sl, railM r + s.sl), (railM r - s.ea - s.sl, railM r - s.ea + s.sl)] := by
  have e1 : min (railM r) (railM r - s.ea) = railM r := by omega
  have e2 : max (railM r) (railM r - s.ea) = railM r - s.ea := by omega
  unfold whenL; rw [if_neg (by omega), if_neg (by omega), e1, e2, if_neg g]
end
theorem nth_ext {α : Type} [Inhabited α] {xs ys : List α} (hl : xs.length = ys.length) (h : ∀ i, i < xs.length → nth xs i = nth ys i) : xs = ys :=
  List.ext_getElem hl fun i h1 h2 => by rw [← nth_eq xs i h1, ← nth_eq ys i h2]; exact h i h1
abbrev spans (l : List (Int × Int)) : D := .list (l.map fun p => spD p.1 p.2)
set_option maxRecDepth 100000 in
set_option maxHeartbeats 4000000 in
theorem same_ok (xs ys : List (Int × Int)) (hx : xs.length ≤ 1000000) (hy : ys.length ≤ 1000000) : CallsTo Tryz.prog 23 [spans xs, spans ys] (.bool (decide (xs = ys))) := by
  by_cases hl : xs.length = ys.length
  · refine calls_abs Tryz.func23 Tryz.ntmps23 Tryz.results23 Tryz.call23 rfl (by simp) fun w0 S0 M0 => ?_
    repeat' (first
        | refine abs_seq ?_
        | refine abs_block ?_
        | refine abs_skip ?_
        | refine abs_exit ?_
        | refine abs_ret ?_
        | ((first | refine abs_region fun K hK => ?_ | refine abs_draw Tryz.ty.mixed (by kernel_rfl) fun K hK => ?_ | refine abs_if ?_ | show retQ _ _ _ _ _); simp -implicitDefEqProofs only [go_sem, bas, basL, Nat.reduceAdd, Nat.reduceSub, Nat.reduceMul, Nat.reduceLT, Nat.reduceLeDiff, Nat.reduceEqDiff, Nat.reduceBEq, Int.reduceLT, Int.reduceLE, Int.reduceToNat, Int.reduceAdd, Int.reduceSub, Int.reduceMul, Int.reduceNeg, Int.reduceEq, reduceCtorEq, eq_self, ne_eq, not_false_eq_true, if_true, reduceIte])
        | ((first | (refine hK _ ?_; clear hK K) | show thenQ _ _ _ _ | show blockQ _ _ _ _); simp only [thenQ, blockQ, if_true, Nat.reduceEqDiff, reduceIte])
        | (intro hg; first | (exfalso; omega) | (exfalso; contradiction) | skip)
        | apply And.intro
        | (with_reducible rfl)
        | (clear hK; omega)
        | omega)
    refine abs_loopN (ι := Nat) (fun j => [(0, spans xs), (1, spans ys), (5, i64 j)]) (fun _ => []) (fun _ => [])
      (fun j => j ≤ xs.length ∧ ∀ i, i < j → nth xs i = nth ys i) (fun j => xs.length - j) (fun _ _ => ⟨rfl, rfl⟩) 0 ⟨Nat.zero_le _, fun i h => absurd h (Nat.not_lt_zero i)⟩ (le_of rfl (by try simp -implicitDefEqProofs only [go_sem, bas, basL, Nat.reduceAdd, Nat.reduceSub, Nat.reduceMul, Nat.reduceLT, Nat.reduceLeDiff, Nat.reduceEqDiff, Nat.reduceBEq, Int.reduceLT, Int.reduceLE, Int.reduceToNat, Int.reduceAdd, Int.reduceSub, Int.reduceMul, Int.reduceNeg, Int.reduceEq, reduceCtorEq, eq_self, ne_eq, not_false_eq_true, if_true, reduceIte]; try simp) ⟨_, rfl⟩ ⟨_, rfl⟩) (fun j ⟨hj, hi⟩ => ?_)
    simp -implicitDefEqProofs only [go_sem, bas, basL, Nat.reduceAdd, Nat.reduceSub, Nat.reduceMul, Nat.reduceLT, Nat.reduceLeDiff, Nat.reduceEqDiff, Nat.reduceBEq, Int.reduceLT, Int.reduceLE, Int.reduceToNat, Int.reduceAdd, Int.reduceSub, Int.reduceMul, Int.reduceNeg, Int.reduceEq, reduceCtorEq, eq_self, ne_eq, not_false_eq_true, if_true, reduceIte]
    repeat' (first
        | refine abs_seq ?_
        | refine abs_block ?_
        | refine abs_skip ?_
        | refine abs_exit ?_
        | refine abs_ret ?_
        | ((first | refine abs_region fun K hK => ?_ | refine abs_draw Tryz.ty.mixed (by kernel_rfl) fun K hK => ?_ | refine abs_if ?_ | show retQ _ _ _ _ _); simp -implicitDefEqProofs only [go_sem, bas, basL, Nat.reduceAdd, Nat.reduceSub, Nat.reduceMul, Nat.reduceLT, Nat.reduceLeDiff, Nat.reduceEqDiff, Nat.reduceBEq, Int.reduceLT, Int.reduceLE, Int.reduceToNat, Int.reduceAdd, Int.reduceSub, Int.reduceMul, Int.reduceNeg, Int.reduceEq, reduceCtorEq, eq_self, ne_eq, not_false_eq_true, if_true, reduceIte])
        | ((first | (refine hK _ ?_; clear hK K) | show thenQ _ _ _ _ | show blockQ _ _ _ _); simp only [thenQ, blockQ, if_true, Nat.reduceEqDiff, reduceIte])
        | (intro hg; first | (exfalso; omega) | (exfalso; contradiction) | skip)
        | apply And.intro
        | (with_reducible rfl)
        | (clear hK; omega)
        | omega)
    · rw [decide_eq_false (fun e => hg (by rw [e]))]
    · simp only [List.cons.injEq, and_true] at hg
      refine ⟨j + 1, ⟨by omega, fun i h1 => ?_⟩, by omega, le_of rfl (by try simp -implicitDefEqProofs only [go_sem, bas, basL, Nat.reduceAdd, Nat.reduceSub, Nat.reduceMul, Nat.reduceLT, Nat.reduceLeDiff, Nat.reduceEqDiff, Nat.reduceBEq, Int.reduceLT, Int.reduceLE, Int.reduceToNat, Int.reduceAdd, Int.reduceSub, Int.reduceMul, Int.reduceNeg, Int.reduceEq, reduceCtorEq, eq_self, ne_eq, not_false_eq_true, if_true, reduceIte]; try simp) ⟨_, rfl⟩ ⟨_, rfl⟩⟩
      rcases Nat.lt_or_eq_of_le (Nat.le_of_lt_succ h1) with h | h
      · exact hi i h
      · rw [h]; exact Prod.ext hg.1 hg.2
    · rw [decide_eq_true (nth_ext hl fun i h => hi i (by omega))]
  · rw [decide_eq_false (fun e => hl (by rw [e]))]
    refine calls_abs Tryz.func23 Tryz.ntmps23 Tryz.results23 Tryz.call23 rfl (by simp) fun w0 S0 M0 => ?_
    repeat' (first
        | refine abs_seq ?_
        | refine abs_block ?_
        | refine abs_skip ?_
        | refine abs_exit ?_
        | refine abs_ret ?_
        | ((first | refine abs_region fun K hK => ?_ | refine abs_draw Tryz.ty.mixed (by kernel_rfl) fun K hK => ?_ | refine abs_if ?_ | show retQ _ _ _ _ _); simp -implicitDefEqProofs only [go_sem, bas, basL, Nat.reduceAdd, Nat.reduceSub, Nat.reduceMul, Nat.reduceLT, Nat.reduceLeDiff, Nat.reduceEqDiff, Nat.reduceBEq, Int.reduceLT, Int.reduceLE, Int.reduceToNat, Int.reduceAdd, Int.reduceSub, Int.reduceMul, Int.reduceNeg, Int.reduceEq, reduceCtorEq, eq_self, ne_eq, not_false_eq_true, if_true, reduceIte])
        | ((first | (refine hK _ ?_; clear hK K) | show thenQ _ _ _ _ | show blockQ _ _ _ _); simp only [thenQ, blockQ, if_true, Nat.reduceEqDiff, reduceIte])
        | (intro hg; first | (exfalso; omega) | (exfalso; contradiction) | skip)
        | apply And.intro
        | (with_reducible rfl)
        | (clear hK; omega)
        | omega)
end Go.Proofs.YtdbiiegohemahaaGreatDoor
