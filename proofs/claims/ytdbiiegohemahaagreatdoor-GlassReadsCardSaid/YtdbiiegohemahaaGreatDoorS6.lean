import Derived.Test.YtdbiiegohemahaaGreatDoorS5
set_option linter.unusedVariables false
set_option linter.unusedSimpArgs false
namespace Go.Proofs.YtdbiiegohemahaaGreatDoor
open Go.Ab
attribute [local irreducible] Abs CallK CallR CallsTo IA
theorem k8 : CallsTo Tryz.prog 7 [.list [rdD r0]] (.tup [.str ⟨#[50, 48, 32, 52, 56, 48, 32, 115, 32, 55, 53, 48, 53, 48, 32, 50, 48, 48, 32, 50, 49, 48, 32, 49, 53, 48, 32, 49, 53, 50, 32, 49, 50, 48, 32, 49, 50, 49, 10, 101, 110, 100, 32, 52, 54, 10]⟩, i64 0]) := by
  have e : line0 ++ last0 = ⟨#[50, 48, 32, 52, 56, 48, 32, 115, 32, 55, 53, 48, 53, 48, 32, 50, 48, 48, 32, 50, 49, 48, 32, 49, 53, 48, 32, 49, 53, 50, 32, 49, 50, 48, 32, 49, 50, 49, 10, 101, 110, 100, 32, 52, 54, 10]⟩ := by decide +kernel
  rw [← e]; exact k7
set_option maxRecDepth 100000 in
set_option maxHeartbeats 4000000 in
theorem known_ok : CallsTo Tryz.prog 6 [] (.bool true) := by
  refine calls_abs Tryz.func6 Tryz.ntmps6 Tryz.results6 Tryz.call6 rfl (by simp) fun w0 S0 M0 => ?_
  repeat' (first
      | refine abs_seq ?_
      | refine abs_block ?_
      | refine abs_skip ?_
      | refine abs_scope ?_
      | refine abs_label ?_
      | refine abs_exit ?_
      | refine abs_ret ?_
      | ((first | refine abs_region fun K hK => ?_ | refine abs_draw Tryz.ty.mixed (by kernel_rfl) fun K hK => ?_ | refine abs_if ?_ | show retQ _ _ _ _ _ | refine callK (stat_ok) ?_ | refine callK (read_ok) ?_ | refine callK (later_ok) ?_ | refine callK (k1) ?_ | refine callK (k2) ?_ | refine callK (k3) ?_ | refine callK (k4) ?_ | refine callK (k5) ?_ | refine callK (k6) ?_ | refine callK (k8) ?_ | refine callK (sp_ok _ _) ?_ | refine callK (same_ok [(36448, 36452), (36478, 36482)] [(36448, 36452), (36478, 36482)] (by decide) (by decide)) ?_); simp -implicitDefEqProofs only [go_sem, bas, basL, Nat.reduceAdd, Nat.reduceSub, Nat.reduceMul, Nat.reduceLT, Nat.reduceLeDiff, Nat.reduceEqDiff, Nat.reduceBEq, Int.reduceLT, Int.reduceLE, Int.reduceToNat, Int.reduceAdd, Int.reduceSub, Int.reduceMul, Int.reduceNeg, Int.reduceEq, reduceCtorEq, eq_self, ne_eq, not_false_eq_true, if_true, reduceIte, eq57, beq_self_eq_true])
      | ((first | (refine hK _ ?_; clear hK K) | show thenQ _ _ _ _ | show blockQ _ _ _ _ | show noGoQ _ _ _); simp only [noGoQ, thenQ, blockQ, if_true, Nat.reduceEqDiff, reduceIte])
      | (intro hg; first | (exfalso; omega) | (exfalso; contradiction) | skip)
      | apply And.intro
      | (with_reducible rfl)
      | (clear hK; omega)
      | omega)
  all_goals skip
end Go.Proofs.YtdbiiegohemahaaGreatDoor
