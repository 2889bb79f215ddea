import Derived.Test.YtdbiiegohemahaaGreatDoorB4
import Derived.Test.YtdbiiegohemahaaGreatDoorB2
set_option linter.unusedVariables false
set_option linter.unusedSimpArgs false
namespace Go.Proofs.YtdbiiegohemahaaGreatDoor
open Go.Ab
attribute [local irreducible] Abs CallK CallR CallsTo IA

/-- The error of what is asked of a station. -/
noncomputable def errN (s : Stn) (fine : Prop) [Decidable fine] : Int := if StOk s ∧ fine then (if NoClash s then 0 else 7) else 2
section
variable {s : Stn} {fine : Prop} [Decidable fine]
theorem errN_arg (h : ¬ (StOk s ∧ fine)) : errN s fine = 2 := by unfold errN; rw [if_neg h]
theorem errN_rule (h : StOk s ∧ fine) (hc : ¬ NoClash s) : errN s fine = 7 := by unfold errN; rw [if_pos h, if_neg hc]
theorem errN_ok (h : StOk s ∧ fine) (hc : NoClash s) : errN s fine = 0 := by unfold errN; rw [if_pos h, if_pos hc]
/-- What a question to a station answers, its comparisons ask. -/
theorem asked_ok (hl : s.ck.length ≤ 9223372036854775807) : CallsTo Tryz.prog 34 [stD s, .bool (decide fine)] (.tup [if errN s fine = 0 then stM s else noM, i64 (errN s fine)]) := by
  by_cases h : StOk s ∧ fine
  · by_cases hc : NoClash s
    · rw [errN_ok h hc, decide_eq_true h.2]; exact agreed_ok s h.1 hc
    · rw [errN_rule h hc, decide_eq_true h.2]; exact agreed_rule s h.1 hc
  · rw [errN_arg h]; exact agreed_arg s hl _ (by simpa using h)
theorem errN_zero (h : errN s fine = 0) : (StOk s ∧ fine) ∧ NoClash s := by
  unfold errN at h
  split at h
  · split at h
    · exact ⟨‹_›, ‹_›⟩
    · omega
  · omega
end
set_option maxRecDepth 100000 in
set_option maxHeartbeats 4000000 in
theorem gIndex_ok (s : Stn) (hl : s.ck.length ≤ 9223372036854775807) (day : Int) : CallsTo Tryz.prog 13 [stD s, i64 day]
    (.tup [if errN s (0 ≤ day ∧ day ≤ 400) = 0 then spD (ixL s day) (ixH s day) else spD 0 0, i64 (errN s (0 ≤ day ∧ day ≤ 400))]) := by
  have ha := asked_ok (s := s) (fine := 0 ≤ day ∧ day ≤ 400) hl
  by_cases h : errN s (0 ≤ day ∧ day ≤ 400) = 0
  · have h2 := errN_zero h
    rw [h] at ha ⊢
    rw [if_pos rfl] at ha ⊢
    refine calls_abs Tryz.func13 Tryz.ntmps13 Tryz.results13 Tryz.call13 rfl (by simp) fun w0 S0 M0 => ?_
    repeat' (first
        | refine abs_seq ?_
        | refine abs_block ?_
        | refine abs_skip ?_
        | refine abs_scope ?_
        | refine abs_label ?_
        | refine abs_exit ?_
        | refine abs_ret ?_
        | ((first | (show Abs _ (.region 1 _ true) _ _; refine abs_drawD [(2, 6)] Tryz.ty.mixed (by kernel_rfl) fun K hK => ?_) | show Sep _ _ | refine abs_region fun K hK => ?_ | refine abs_draw Tryz.ty.mixed (by kernel_rfl) fun K hK => ?_ | refine abs_if ?_ | show retQ _ _ _ _ _ | refine callK (gin_ok _ _ _) ?_ | refine callK (ha) ?_ | refine callK (index_ok s h2.1.1 day h2.1.2) ?_); simp -implicitDefEqProofs only [go_sem, bas, basL, Nat.reduceAdd, Nat.reduceSub, Nat.reduceMul, Nat.reduceLT, Nat.reduceLeDiff, Nat.reduceEqDiff, Nat.reduceBEq, Int.reduceLT, Int.reduceLE, Int.reduceToNat, Int.reduceAdd, Int.reduceSub, Int.reduceMul, Int.reduceNeg, Int.reduceEq, reduceCtorEq, eq_self, ne_eq, not_false_eq_true, if_true, reduceIte])
        | ((first | (refine hK _ ?_; clear hK K) | show thenQ _ _ _ _ | show blockQ _ _ _ _ | show noGoQ _ _ _); simp only [noGoQ, thenQ, blockQ, if_true, Nat.reduceEqDiff, reduceIte])
        | (intro hg; first | (exfalso; omega) | (exfalso; contradiction) | skip)
        | apply And.intro
        | (with_reducible rfl)
        | (clear hK; omega)
        | omega)
  · generalize errN s (0 ≤ day ∧ day ≤ 400) = e at *
    rw [if_neg h] at ha ⊢
    refine calls_abs Tryz.func13 Tryz.ntmps13 Tryz.results13 Tryz.call13 rfl (by simp) fun w0 S0 M0 => ?_
    repeat' (first
        | refine abs_seq ?_
        | refine abs_block ?_
        | refine abs_skip ?_
        | refine abs_scope ?_
        | refine abs_label ?_
        | refine abs_exit ?_
        | refine abs_ret ?_
        | ((first | (show Abs _ (.region 1 _ true) _ _; refine abs_drawD [(2, 6)] Tryz.ty.mixed (by kernel_rfl) fun K hK => ?_) | show Sep _ _ | refine abs_region fun K hK => ?_ | refine abs_draw Tryz.ty.mixed (by kernel_rfl) fun K hK => ?_ | refine abs_if ?_ | show retQ _ _ _ _ _ | refine callK (gin_ok _ _ _) ?_ | refine callK (ha) ?_); simp -implicitDefEqProofs only [go_sem, bas, basL, Nat.reduceAdd, Nat.reduceSub, Nat.reduceMul, Nat.reduceLT, Nat.reduceLeDiff, Nat.reduceEqDiff, Nat.reduceBEq, Int.reduceLT, Int.reduceLE, Int.reduceToNat, Int.reduceAdd, Int.reduceSub, Int.reduceMul, Int.reduceNeg, Int.reduceEq, reduceCtorEq, eq_self, ne_eq, not_false_eq_true, if_true, reduceIte])
        | ((first | (refine hK _ ?_; clear hK K) | show thenQ _ _ _ _ | show blockQ _ _ _ _ | show noGoQ _ _ _); simp only [noGoQ, thenQ, blockQ, if_true, Nat.reduceEqDiff, reduceIte])
        | (exact (rfl : (Value.slice none 0 0).oneCell' = true))
        | (exact (rfl : (Value.map none).oneCell' = true))
        | (intro hg; first | (exfalso; omega) | (exfalso; contradiction) | skip)
        | apply And.intro
        | (with_reducible rfl)
        | (clear hK; omega)
        | omega)
end Go.Proofs.YtdbiiegohemahaaGreatDoor
