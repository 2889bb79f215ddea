import Derived.Test.YthamljpomhjepaaR7
import Derived.Test.YthamljpomhjepaaN1
set_option linter.unusedVariables false
set_option linter.unusedSimpArgs false
namespace Go.Proofs.Ythamljpomhjepaa
open Go.Ab
attribute [local irreducible] Abs CallK CallR CallsTo

def gmW (Z P : List (List Int)) (i : Nat) : Int → Int := fun x => Ern (nth Z i) (nth P x.toNat)
theorem gmX_len (Z : List (List Int)) : (gmX Z).length = Z.length := by simp [gmX]
theorem gmX_nth {Z : List (List Int)} {k : Nat} (h : k < Z.length) : nth (gmX Z) k = (k : Int) := by simp [gmX, nth, h]
theorem gmW_k {Z P : List (List Int)} (i : Nat) {k : Nat} (h1 : 1 ≤ k) (h2 : k ≤ Z.length) :
    (0 ≤ (bst (gmW Z P i) (gmX Z) k).1 ∧ (bst (gmW Z P i) (gmX Z) k).1 < Z.length) ∧ (bst (gmW Z P i) (gmX Z) k).2 = Ern (nth Z i) (nth P (bst (gmW Z P i) (gmX Z) k).1.toNat) := by
  obtain ⟨m, rfl⟩ : ∃ m, k = m + 1 := ⟨k - 1, by omega⟩
  obtain ⟨j, hj, he, _, _⟩ := bst_first (gmW Z P i) (gmX Z) m
  rw [bst_val, he, gmX_nth (by omega)]
  exact ⟨by omega, rfl⟩
/-- What the specification's Game tells. -/
def rgT (Z P : List (List Int)) : List D := match gmR Z P with
  | none => [i64 0, i64 0, .bool false]
  | some i => [i64 i, i64 (gmB Z P i).1, .bool true]

set_option maxRecDepth 100000 in
set_option maxHeartbeats 4000000 in
theorem rgame_ok (c step : Int) (P : List (List Int)) (hT : Tab c step P) : CallsTo Try.prog 52 [.agg [i64 c, i64 step, intss P]] (.tup (rgT (stm c.toNat step) P)) := by
  have q1 := stat_ok c step (by have := hT.1; omega) hT.2.1.1 hT.2.1.2.1
  have z9 := stm_len (c := c.toNat) (step := step) (by have := hT.1; omega) hT.2.1.1
  obtain ⟨z1, z2, z3⟩ := tab_ok hT
  have z0 := List.length_pos_iff.2 (stm_ne (c := c.toNat) hT.2.1.1)
  generalize stm c.toNat step = Z at *
  have q5 : ∀ i a, i < Z.length → a < Z.length → CallsTo Try.prog 54 [ints (nth Z i), ints (nth P a)] (i64 (Ern (nth Z i) (nth P a))) := fun i a hi ha => by
    have h1 := z2 i hi
    have h2 := z3 a (by omega)
    exact earns_ok _ _ h1.1 (by omega) (fun k => by have := h2.2 k; omega)
  have q6 : ∀ i k, i < Z.length → 1 ≤ k → k ≤ Z.length → CallsTo Try.prog 54 [ints (nth Z i), ints (nth P (bst (gmW Z P i) (gmX Z) k).1.toNat)] (i64 (bst (gmW Z P i) (gmX Z) k).2) := fun i k hi h1 h2 => by
    have h3 := gmW_k (P := P) i h1 h2
    rw [h3.2]
    exact q5 i _ hi (by omega)
  refine calls_abs Try.func52 Try.ntmps52 Try.results52 Try.call52 rfl (by simp) fun w0 S0 M0 => ?_
  repeat' (first
      | refine abs_seq ?_
      | refine abs_block ?_
      | refine abs_skip ?_
      | refine abs_exit ?_
      | refine abs_ret ?_
      | ((first | refine abs_region fun K hK => ?_ | refine abs_draw Try.ty.mixed (by kernel_rfl) fun K hK => ?_ | refine abs_if ?_); simp only [go_sem, bas, basL, Nat.reduceAdd, Nat.reduceSub, Nat.reduceMul, Nat.reduceLT, Nat.reduceLeDiff, Nat.reduceEqDiff, Nat.reduceBEq, Int.reduceLT, Int.reduceLE, Int.reduceToNat, Int.reduceAdd, Int.reduceSub, Int.reduceMul, Int.reduceNeg, Int.reduceEq, reduceCtorEq, eq_self, ne_eq, not_false_eq_true, if_true, reduceIte])
      | (refine hK _ ?_; clear hK K; simp only [thenQ, blockQ, if_true, Nat.reduceEqDiff, reduceIte])
      | (show thenQ _ _ _ _; simp only [thenQ, blockQ, if_true, Nat.reduceEqDiff, reduceIte])
      | (show blockQ _ _ _ _; simp only [thenQ, blockQ, if_true, Nat.reduceEqDiff, reduceIte])
      | (refine callK (q1) ?_; try simp only [go_sem, bas, basL, Nat.reduceAdd, Nat.reduceSub, Nat.reduceMul, Nat.reduceLT, Nat.reduceLeDiff, Nat.reduceEqDiff, Nat.reduceBEq, Int.reduceLT, Int.reduceLE, Int.reduceToNat, Int.reduceAdd, Int.reduceSub, Int.reduceMul, Int.reduceNeg, Int.reduceEq, reduceCtorEq, eq_self, ne_eq, not_false_eq_true, if_true, reduceIte])
      | (show retQ _ _ _ _ _; simp only [go_sem, bas, basL, Nat.reduceAdd, Nat.reduceSub, Nat.reduceMul, Nat.reduceLT, Nat.reduceLeDiff, Nat.reduceEqDiff, Nat.reduceBEq, Int.reduceLT, Int.reduceLE, Int.reduceToNat, Int.reduceAdd, Int.reduceSub, Int.reduceMul, Int.reduceNeg, Int.reduceEq, reduceCtorEq, eq_self, ne_eq, not_false_eq_true, if_true, reduceIte])
      | (intro hg; first | (exfalso; omega) | (exfalso; contradiction) | skip)
      | apply And.intro
      | (with_reducible rfl)
      | (clear hK; omega)
      | omega)
  refine abs_loopN (ι := Nat) (fun i => [(1, .box 0 0), (2, i64 0), (3, i64 0), (4, .bool false), (5, intss Z), (6, i64 i)]) (fun _ => [.mu [i64 c, i64 step, intss P]]) (fun _ => [])
    (fun i => i ≤ Z.length ∧ ∀ a, a < i → gmA Z P a = false) (fun i => Z.length - i) (fun _ _ => ⟨rfl, rfl⟩) 0 ⟨Nat.zero_le _, fun i h => absurd h (Nat.not_lt_zero i)⟩ (le_of rfl (by try simp only [go_sem, bas, basL, Nat.reduceAdd, Nat.reduceSub, Nat.reduceMul, Nat.reduceLT, Nat.reduceLeDiff, Nat.reduceEqDiff, Nat.reduceBEq, Int.reduceLT, Int.reduceLE, Int.reduceToNat, Int.reduceAdd, Int.reduceSub, Int.reduceMul, Int.reduceNeg, Int.reduceEq, reduceCtorEq, eq_self, ne_eq, not_false_eq_true, if_true, reduceIte]; try simp) ⟨_, rfl⟩ ⟨_, rfl⟩) (fun i ⟨hi, hb⟩ => ?_)
  simp only [go_sem, bas, basL, Nat.reduceAdd, Nat.reduceSub, Nat.reduceMul, Nat.reduceLT, Nat.reduceLeDiff, Nat.reduceEqDiff, Nat.reduceBEq, Int.reduceLT, Int.reduceLE, Int.reduceToNat, Int.reduceAdd, Int.reduceSub, Int.reduceMul, Int.reduceNeg, Int.reduceEq, reduceCtorEq, eq_self, ne_eq, not_false_eq_true, if_true, reduceIte]
  repeat' (first
      | refine abs_seq ?_
      | refine abs_block ?_
      | refine abs_skip ?_
      | refine abs_exit ?_
      | refine abs_ret ?_
      | ((first | refine abs_region fun K hK => ?_ | refine abs_draw Try.ty.mixed (by kernel_rfl) fun K hK => ?_ | refine abs_if ?_); simp only [go_sem, bas, basL, Nat.reduceAdd, Nat.reduceSub, Nat.reduceMul, Nat.reduceLT, Nat.reduceLeDiff, Nat.reduceEqDiff, Nat.reduceBEq, Int.reduceLT, Int.reduceLE, Int.reduceToNat, Int.reduceAdd, Int.reduceSub, Int.reduceMul, Int.reduceNeg, Int.reduceEq, reduceCtorEq, eq_self, ne_eq, not_false_eq_true, if_true, reduceIte])
      | (refine hK _ ?_; clear hK K; simp only [thenQ, blockQ, if_true, Nat.reduceEqDiff, reduceIte])
      | (show thenQ _ _ _ _; simp only [thenQ, blockQ, if_true, Nat.reduceEqDiff, reduceIte])
      | (show blockQ _ _ _ _; simp only [thenQ, blockQ, if_true, Nat.reduceEqDiff, reduceIte])
      | (show retQ _ _ _ _ _; simp only [go_sem, bas, basL, Nat.reduceAdd, Nat.reduceSub, Nat.reduceMul, Nat.reduceLT, Nat.reduceLeDiff, Nat.reduceEqDiff, Nat.reduceBEq, Int.reduceLT, Int.reduceLE, Int.reduceToNat, Int.reduceAdd, Int.reduceSub, Int.reduceMul, Int.reduceNeg, Int.reduceEq, reduceCtorEq, eq_self, ne_eq, not_false_eq_true, if_true, reduceIte])
      | (intro hg; first | (exfalso; omega) | (exfalso; contradiction) | skip)
      | apply And.intro
      | (with_reducible rfl)
      | (clear hK; omega)
      | omega)
  · have e0 : (bst (gmW Z P i) (gmX Z) 1).1 = 0 := by rw [bst_one]; exact gmX_nth (by omega)
    refine abs_loopN (ι := Nat) (fun k => [(1, .box 0 0), (2, i64 0), (3, i64 0), (4, .bool false), (5, intss Z), (6, i64 i), (7, i64 (bst (gmW Z P i) (gmX Z) k).1), (8, i64 k)]) (fun _ => [.mu [i64 c, i64 step, intss P]]) (fun _ => [])
      (fun k => 1 ≤ k ∧ k ≤ Z.length) (fun k => Z.length - k) (fun _ _ => ⟨rfl, rfl⟩) 1 ⟨Nat.le_refl _, z0⟩ (le_of rfl (by try simp only [go_sem, bas, basL, Nat.reduceAdd, Nat.reduceSub, Nat.reduceMul, Nat.reduceLT, Nat.reduceLeDiff, Nat.reduceEqDiff, Nat.reduceBEq, Int.reduceLT, Int.reduceLE, Int.reduceToNat, Int.reduceAdd, Int.reduceSub, Int.reduceMul, Int.reduceNeg, Int.reduceEq, reduceCtorEq, eq_self, ne_eq, not_false_eq_true, if_true, reduceIte]; try simp [e0]) ⟨_, rfl⟩ ⟨_, rfl⟩) (fun k hk => ?_)
    have e3 := gmW_k (P := P) i hk.1 hk.2
    simp only [go_sem, bas, basL, Nat.reduceAdd, Nat.reduceSub, Nat.reduceMul, Nat.reduceLT, Nat.reduceLeDiff, Nat.reduceEqDiff, Nat.reduceBEq, Int.reduceLT, Int.reduceLE, Int.reduceToNat, Int.reduceAdd, Int.reduceSub, Int.reduceMul, Int.reduceNeg, Int.reduceEq, reduceCtorEq, eq_self, ne_eq, not_false_eq_true, if_true, reduceIte]
    repeat' (first
        | refine abs_seq ?_
        | refine abs_block ?_
        | refine abs_skip ?_
        | refine abs_exit ?_
        | refine abs_ret ?_
        | ((first | refine abs_region fun K hK => ?_ | refine abs_draw Try.ty.mixed (by kernel_rfl) fun K hK => ?_ | refine abs_if ?_); simp only [go_sem, bas, basL, Nat.reduceAdd, Nat.reduceSub, Nat.reduceMul, Nat.reduceLT, Nat.reduceLeDiff, Nat.reduceEqDiff, Nat.reduceBEq, Int.reduceLT, Int.reduceLE, Int.reduceToNat, Int.reduceAdd, Int.reduceSub, Int.reduceMul, Int.reduceNeg, Int.reduceEq, reduceCtorEq, eq_self, ne_eq, not_false_eq_true, if_true, reduceIte])
        | (refine hK _ ?_; clear hK K; simp only [thenQ, blockQ, if_true, Nat.reduceEqDiff, reduceIte])
        | (show thenQ _ _ _ _; simp only [thenQ, blockQ, if_true, Nat.reduceEqDiff, reduceIte])
        | (show blockQ _ _ _ _; simp only [thenQ, blockQ, if_true, Nat.reduceEqDiff, reduceIte])
        | ((first | refine callK (q6 i k (by omega) hk.1 hk.2) ?_ | refine callK (q5 i k (by omega) (by omega)) ?_ | refine callK (q5 i i (by omega) (by omega)) ?_); try simp only [go_sem, bas, basL, Nat.reduceAdd, Nat.reduceSub, Nat.reduceMul, Nat.reduceLT, Nat.reduceLeDiff, Nat.reduceEqDiff, Nat.reduceBEq, Int.reduceLT, Int.reduceLE, Int.reduceToNat, Int.reduceAdd, Int.reduceSub, Int.reduceMul, Int.reduceNeg, Int.reduceEq, reduceCtorEq, eq_self, ne_eq, not_false_eq_true, if_true, reduceIte])
        | (show retQ _ _ _ _ _; simp only [go_sem, bas, basL, Nat.reduceAdd, Nat.reduceSub, Nat.reduceMul, Nat.reduceLT, Nat.reduceLeDiff, Nat.reduceEqDiff, Nat.reduceBEq, Int.reduceLT, Int.reduceLE, Int.reduceToNat, Int.reduceAdd, Int.reduceSub, Int.reduceMul, Int.reduceNeg, Int.reduceEq, reduceCtorEq, eq_self, ne_eq, not_false_eq_true, if_true, reduceIte])
        | (intro hg; first | (exfalso; omega) | (exfalso; contradiction) | skip)
        | apply And.intro
        | (with_reducible rfl)
        | (clear hK; omega)
        | omega)
    · have hx : nth (gmX Z) k = (k : Int) := gmX_nth (by omega)
      have hw : gmW Z P i (k : Int) = Ern (nth Z i) (nth P k) := by simp only [gmW, Int.toNat_natCast]
      have e := bst_yes (w := gmW Z P i) (l := gmX Z) (k := k) (.inr (by rw [hx, hw]; exact hg))
      rw [hx] at e
      have e : (bst (gmW Z P i) (gmX Z) (k + 1)).1 = (k : Int) := by rw [e]
      exact ⟨k + 1, by omega, by omega, le_of rfl (by try simp only [go_sem, bas, basL, Nat.reduceAdd, Nat.reduceSub, Nat.reduceMul, Nat.reduceLT, Nat.reduceLeDiff, Nat.reduceEqDiff, Nat.reduceBEq, Int.reduceLT, Int.reduceLE, Int.reduceToNat, Int.reduceAdd, Int.reduceSub, Int.reduceMul, Int.reduceNeg, Int.reduceEq, reduceCtorEq, eq_self, ne_eq, not_false_eq_true, if_true, reduceIte]; try simp [e]) ⟨_, rfl⟩ ⟨_, rfl⟩⟩
    · have hx : nth (gmX Z) k = (k : Int) := gmX_nth (by omega)
      have hw : gmW Z P i (k : Int) = Ern (nth Z i) (nth P k) := by simp only [gmW, Int.toNat_natCast]
      have e := bst_no (w := gmW Z P i) (l := gmX Z) (k := k) (by omega) (by rw [hx, hw]; exact hg)
      exact ⟨k + 1, by omega, by omega, le_of rfl (by try simp only [go_sem, bas, basL, Nat.reduceAdd, Nat.reduceSub, Nat.reduceMul, Nat.reduceLT, Nat.reduceLeDiff, Nat.reduceEqDiff, Nat.reduceBEq, Int.reduceLT, Int.reduceLE, Int.reduceToNat, Int.reduceAdd, Int.reduceSub, Int.reduceMul, Int.reduceNeg, Int.reduceEq, reduceCtorEq, eq_self, ne_eq, not_false_eq_true, if_true, reduceIte]; try simp [e]) ⟨_, rfl⟩ ⟨_, rfl⟩⟩
    · obtain rfl : k = Z.length := by omega
      have e4 : gmB Z P i = bst (gmW Z P i) (gmX Z) Z.length := by unfold gmB; rw [gmX_len]; rfl
      have e5 : gmA Z P i = true := by unfold gmA gmO; rw [e4]; exact decide_eq_true (by assumption)
      have e6 := gmR_some (by omega) hb e5
      unfold rgT
      rw [e6]
      simp only [e4]
    · obtain rfl : k = Z.length := by omega
      have e4 : gmB Z P i = bst (gmW Z P i) (gmX Z) Z.length := by unfold gmB; rw [gmX_len]; rfl
      have e5 : gmA Z P i = false := by unfold gmA gmO; rw [e4]; exact decide_eq_false (by assumption)
      refine ⟨i + 1, ⟨by omega, fun a h => ?_⟩, by omega, le_of rfl (by try simp only [go_sem, bas, basL, Nat.reduceAdd, Nat.reduceSub, Nat.reduceMul, Nat.reduceLT, Nat.reduceLeDiff, Nat.reduceEqDiff, Nat.reduceBEq, Int.reduceLT, Int.reduceLE, Int.reduceToNat, Int.reduceAdd, Int.reduceSub, Int.reduceMul, Int.reduceNeg, Int.reduceEq, reduceCtorEq, eq_self, ne_eq, not_false_eq_true, if_true, reduceIte]; try simp) ⟨_, rfl⟩ ⟨_, rfl⟩⟩
      by_cases h9 : a = i
      · rw [h9]; exact e5
      · exact hb a (by omega)
  · have e6 := gmR_none (Z := Z) (P := P) (fun a ha => hb a (by omega))
    unfold rgT
    rw [e6]
end Go.Proofs.Ythamljpomhjepaa
