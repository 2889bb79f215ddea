import Derived.Test.YtdbiiegohemahaaDoorL0
set_option linter.unusedVariables false
set_option linter.unusedSimpArgs false
namespace Go.Proofs.YtdbiiegohemahaaDoor
open Go.Ab
attribute [local irreducible] Abs CallK CallR CallsTo IA
theorem gIndex0 {s : Stn} (hs : StOk s) (hn : NoClash s) {day : Int} (hd : 0 ≤ day ∧ day ≤ 400) : CallsTo Tryd.prog 22 [stD s, i64 day] (.tup [spD (ixL s day) (ixH s day), i64 0]) := by
  have h := gIndex_ok s (by have := hs.n; omega) day
  rw [errN_ok ⟨hs, hd⟩ hn, if_pos rfl] at h; exact h
theorem gIndex7 {s : Stn} (hs : StOk s) (hn : ¬ NoClash s) {day : Int} (hd : 0 ≤ day ∧ day ≤ 400) : CallsTo Tryd.prog 22 [stD s, i64 day] (.tup [spD 0 0, i64 7]) := by
  have h := gIndex_ok s (by have := hs.n; omega) day
  rw [errN_rule ⟨hs, hd⟩ hn, if_neg (by omega)] at h; exact h
theorem agr1 {s : Stn} (hs : StOk s) (hn : NoClash s) : CallsTo Tryd.prog 19 [stD s] (.bool true) := decide_eq_true (And.intro hs hn) ▸ agreed_ref s (by have := hs.n; omega)
theorem agr0 {s : Stn} (hl : s.ck.length ≤ 9223372036854775807) (h : ¬ (StOk s ∧ NoClash s)) : CallsTo Tryd.prog 19 [stD s] (.bool false) := decide_eq_false h ▸ agreed_ref s hl
set_option maxRecDepth 100000 in
set_option maxHeartbeats 4000000 in
theorem rwithin_ok (n a b : Int) : CallsTo Tryd.prog 36 [i64 n, spD a b] (.bool (decide (a ≤ n ∧ n ≤ b))) := by
  refine calls_abs Tryd.func36 Tryd.ntmps36 Tryd.results36 Tryd.call36 rfl (by simp) fun w0 S0 M0 => ?_
  repeat' (first
      | refine abs_seq ?_
      | refine abs_block ?_
      | refine abs_skip ?_
      | refine abs_scope ?_
      | refine abs_label ?_
      | refine abs_exit ?_
      | refine abs_ret ?_
      | ((first | refine abs_region fun K hK => ?_ | refine abs_draw Tryd.ty.mixed (by kernel_rfl) fun K hK => ?_ | refine abs_if ?_ | show retQ _ _ _ _ _); simp -implicitDefEqProofs only [go_sem, bas, basL, Nat.reduceAdd, Nat.reduceSub, Nat.reduceMul, Nat.reduceLT, Nat.reduceLeDiff, Nat.reduceEqDiff, Nat.reduceBEq, Int.reduceLT, Int.reduceLE, Int.reduceToNat, Int.reduceAdd, Int.reduceSub, Int.reduceMul, Int.reduceNeg, Int.reduceEq, reduceCtorEq, eq_self, ne_eq, not_false_eq_true, if_true, reduceIte])
      | ((first | (refine hK _ ?_; clear hK K) | show thenQ _ _ _ _ | show blockQ _ _ _ _ | show noGoQ _ _ _); simp only [noGoQ, thenQ, blockQ, if_true, Nat.reduceEqDiff, reduceIte])
      | (intro hg; first | (exfalso; omega) | (exfalso; contradiction) | skip)
      | apply And.intro
      | (with_reducible rfl)
      | (clear hK; omega)
      | omega)
  all_goals (refine boolD ?_; simp only [decide_eq_true_eq, Bool.false_eq_true, false_iff, true_iff]; omega)
end Go.Proofs.YtdbiiegohemahaaDoor
