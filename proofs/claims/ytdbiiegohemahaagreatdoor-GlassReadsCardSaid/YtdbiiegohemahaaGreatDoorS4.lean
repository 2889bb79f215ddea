import Derived.Test.YtdbiiegohemahaaGreatDoorS2
import Derived.Test.YtdbiiegohemahaaGreatDoorS3
import Derived.Test.YtdbiiegohemahaaGreatDoorAbQ
set_option linter.unusedVariables false
set_option linter.unusedSimpArgs false
namespace Go.Proofs.YtdbiiegohemahaaGreatDoor
open Go.Ab
attribute [local irreducible] Abs CallK CallR CallsTo IA
set_option maxRecDepth 100000 in
set_option maxHeartbeats 4000000 in
theorem eq57 : EqInts Tryz.prog 58 6 := eq_struct2 (by kernel_rfl) (fsB_ok _ _ (by kernel_rfl)) (by kernel_rfl) (by kernel_rfl)
set_option maxRecDepth 100000 in
set_option maxHeartbeats 4000000 in
theorem formed_ok (l : List Rdg) (hl : l.length ≤ 20) (hr : ∀ i, i < l.length → RdOk (nth l i)) : CallsTo Tryz.prog 24 [.list (l.map rdD)] (i64 0) := by
  refine calls_abs Tryz.func24 Tryz.ntmps24 Tryz.results24 Tryz.call24 rfl (by simp) fun w0 S0 M0 => ?_
  repeat' (first
      | refine abs_seq ?_
      | refine abs_block ?_
      | refine abs_skip ?_
      | refine abs_scope ?_
      | refine abs_label ?_
      | refine abs_exit ?_
      | refine abs_ret ?_
      | ((first | refine abs_region fun K hK => ?_ | refine abs_draw Tryz.ty.mixed (by kernel_rfl) fun K hK => ?_ | refine abs_if ?_ | show retQ _ _ _ _ _); simp -implicitDefEqProofs only [go_sem, bas, basL, Nat.reduceAdd, Nat.reduceSub, Nat.reduceMul, Nat.reduceLT, Nat.reduceLeDiff, Nat.reduceEqDiff, Nat.reduceBEq, Int.reduceLT, Int.reduceLE, Int.reduceToNat, Int.reduceAdd, Int.reduceSub, Int.reduceMul, Int.reduceNeg, Int.reduceEq, reduceCtorEq, eq_self, ne_eq, not_false_eq_true, if_true, reduceIte])
      | ((first | (refine hK _ ?_; clear hK K) | show thenQ _ _ _ _ | show blockQ _ _ _ _ | show noGoQ _ _ _); simp only [noGoQ, thenQ, blockQ, if_true, Nat.reduceEqDiff, reduceIte])
      | (intro hg; first | (exfalso; omega) | (exfalso; contradiction) | skip)
      | apply And.intro
      | (with_reducible rfl)
      | (clear hK; omega)
      | omega)
  refine abs_loopN (ι := Nat) (fun j => [(8, .list (l.map rdD)), (9, i64 l.length), (10, i64 j)]) (fun _ => []) (fun _ => [])
    (fun j => j ≤ l.length) (fun j => l.length - j) (fun _ _ => ⟨rfl, rfl⟩) 0 (Nat.zero_le _) (le_of rfl (by try simp -implicitDefEqProofs only [go_sem, bas, basL, Nat.reduceAdd, Nat.reduceSub, Nat.reduceMul, Nat.reduceLT, Nat.reduceLeDiff, Nat.reduceEqDiff, Nat.reduceBEq, Int.reduceLT, Int.reduceLE, Int.reduceToNat, Int.reduceAdd, Int.reduceSub, Int.reduceMul, Int.reduceNeg, Int.reduceEq, reduceCtorEq, eq_self, ne_eq, not_false_eq_true, if_true, reduceIte]; try simp) ⟨_, rfl⟩ ⟨_, rfl⟩) (fun j hj => ?_)
  by_cases hlt : j < l.length
  · have hv : CallsTo Tryz.prog 37 [rdD (nth l j)] (.bool true) := decide_eq_true (hr j hlt) ▸ greading_ok (nth l j)
    simp -implicitDefEqProofs only [go_sem, bas, basL, Nat.reduceAdd, Nat.reduceSub, Nat.reduceMul, Nat.reduceLT, Nat.reduceLeDiff, Nat.reduceEqDiff, Nat.reduceBEq, Int.reduceLT, Int.reduceLE, Int.reduceToNat, Int.reduceAdd, Int.reduceSub, Int.reduceMul, Int.reduceNeg, Int.reduceEq, reduceCtorEq, eq_self, ne_eq, not_false_eq_true, if_true, reduceIte]
    repeat' (first
        | refine abs_seq ?_
        | refine abs_block ?_
        | refine abs_skip ?_
        | refine abs_scope ?_
        | refine abs_label ?_
        | refine abs_exit ?_
        | refine abs_ret ?_
        | ((first | refine abs_region fun K hK => ?_ | refine abs_draw Tryz.ty.mixed (by kernel_rfl) fun K hK => ?_ | refine abs_if ?_ | show retQ _ _ _ _ _ | refine callK (hv) ?_); simp -implicitDefEqProofs only [go_sem, bas, basL, Nat.reduceAdd, Nat.reduceSub, Nat.reduceMul, Nat.reduceLT, Nat.reduceLeDiff, Nat.reduceEqDiff, Nat.reduceBEq, Int.reduceLT, Int.reduceLE, Int.reduceToNat, Int.reduceAdd, Int.reduceSub, Int.reduceMul, Int.reduceNeg, Int.reduceEq, reduceCtorEq, eq_self, ne_eq, not_false_eq_true, if_true, reduceIte])
        | ((first | (refine hK _ ?_; clear hK K) | show thenQ _ _ _ _ | show blockQ _ _ _ _ | show noGoQ _ _ _); simp only [noGoQ, thenQ, blockQ, if_true, Nat.reduceEqDiff, reduceIte])
        | (intro hg; first | (exfalso; omega) | (exfalso; contradiction) | skip)
        | apply And.intro
        | (with_reducible rfl)
        | (clear hK; omega)
        | omega)
    exact ⟨j + 1, by omega, by omega, le_of rfl (by try simp -implicitDefEqProofs only [go_sem, bas, basL, Nat.reduceAdd, Nat.reduceSub, Nat.reduceMul, Nat.reduceLT, Nat.reduceLeDiff, Nat.reduceEqDiff, Nat.reduceBEq, Int.reduceLT, Int.reduceLE, Int.reduceToNat, Int.reduceAdd, Int.reduceSub, Int.reduceMul, Int.reduceNeg, Int.reduceEq, reduceCtorEq, eq_self, ne_eq, not_false_eq_true, if_true, reduceIte]; try simp) ⟨_, rfl⟩ ⟨_, rfl⟩⟩
  · simp -implicitDefEqProofs only [go_sem, bas, basL, Nat.reduceAdd, Nat.reduceSub, Nat.reduceMul, Nat.reduceLT, Nat.reduceLeDiff, Nat.reduceEqDiff, Nat.reduceBEq, Int.reduceLT, Int.reduceLE, Int.reduceToNat, Int.reduceAdd, Int.reduceSub, Int.reduceMul, Int.reduceNeg, Int.reduceEq, reduceCtorEq, eq_self, ne_eq, not_false_eq_true, if_true, reduceIte]
    repeat' (first
        | refine abs_seq ?_
        | refine abs_block ?_
        | refine abs_skip ?_
        | refine abs_scope ?_
        | refine abs_label ?_
        | refine abs_exit ?_
        | refine abs_ret ?_
        | ((first | refine abs_region fun K hK => ?_ | refine abs_draw Tryz.ty.mixed (by kernel_rfl) fun K hK => ?_ | refine abs_if ?_ | show retQ _ _ _ _ _); simp -implicitDefEqProofs only [go_sem, bas, basL, Nat.reduceAdd, Nat.reduceSub, Nat.reduceMul, Nat.reduceLT, Nat.reduceLeDiff, Nat.reduceEqDiff, Nat.reduceBEq, Int.reduceLT, Int.reduceLE, Int.reduceToNat, Int.reduceAdd, Int.reduceSub, Int.reduceMul, Int.reduceNeg, Int.reduceEq, reduceCtorEq, eq_self, ne_eq, not_false_eq_true, if_true, reduceIte])
        | ((first | (refine hK _ ?_; clear hK K) | show thenQ _ _ _ _ | show blockQ _ _ _ _ | show noGoQ _ _ _); simp only [noGoQ, thenQ, blockQ, if_true, Nat.reduceEqDiff, reduceIte])
        | (intro hg; first | (exfalso; omega) | (exfalso; contradiction) | skip)
        | apply And.intro
        | (with_reducible rfl)
        | (clear hK; omega)
        | omega)
def lineB (r : Rdg) : ByteArray := joinB (wordsK r 7) sp ++ nl
def outB (l : List Rdg) : Nat → ByteArray
  | 0 => ⟨#[]⟩
  | j + 1 => outB l j ++ lineB (nth l j)
set_option maxRecDepth 100000 in
set_option maxHeartbeats 4000000 in
theorem print_ok (l : List Rdg) (hl : l.length ≤ 20) (hr : ∀ i, i < l.length → RdOk (nth l i)) (hW : ∀ i, i < l.length → CallsTo Tryz.prog 25 [rdD (nth l i)] (.str (lineB (nth l i)))) (hs : ∀ j, j ≤ l.length → (outB l j).size ≤ 1000000)
    (hs2 : ∀ j, j < l.length → (lineB (nth l j)).size ≤ 1000000) (t0 : ByteArray) (hL : CallsTo Tryz.prog 26 [.str (outB l l.length)] (.str t0)) (ht : t0.size ≤ 1000000) : CallsTo Tryz.prog 7 [.list (l.map rdD)] (.tup [.str (outB l l.length ++ t0), i64 0]) := by
  refine calls_abs Tryz.func7 Tryz.ntmps7 Tryz.results7 Tryz.call7 rfl (by simp) fun w0 S0 M0 => ?_
  repeat' (first
      | refine abs_seq ?_
      | refine abs_block ?_
      | refine abs_skip ?_
      | refine abs_scope ?_
      | refine abs_label ?_
      | refine abs_exit ?_
      | refine abs_ret ?_
      | ((first | refine abs_region fun K hK => ?_ | refine abs_draw Tryz.ty.mixed (by kernel_rfl) fun K hK => ?_ | refine abs_if ?_ | show retQ _ _ _ _ _ | refine callK (formed_ok l hl hr) ?_); simp -implicitDefEqProofs only [go_sem, bas, basL, Nat.reduceAdd, Nat.reduceSub, Nat.reduceMul, Nat.reduceLT, Nat.reduceLeDiff, Nat.reduceEqDiff, Nat.reduceBEq, Int.reduceLT, Int.reduceLE, Int.reduceToNat, Int.reduceAdd, Int.reduceSub, Int.reduceMul, Int.reduceNeg, Int.reduceEq, reduceCtorEq, eq_self, ne_eq, not_false_eq_true, if_true, reduceIte])
      | ((first | (refine hK _ ?_; clear hK K) | show thenQ _ _ _ _ | show blockQ _ _ _ _ | show noGoQ _ _ _); simp only [noGoQ, thenQ, blockQ, if_true, Nat.reduceEqDiff, reduceIte])
      | (intro hg; first | (exfalso; omega) | (exfalso; contradiction) | skip)
      | apply And.intro
      | (with_reducible rfl)
      | (clear hK; omega)
      | omega)
  refine abs_loopN (ι := Nat) (fun j => [(5, .str (outB l j)), (13, .list (l.map rdD)), (14, i64 l.length), (15, i64 j)]) (fun _ => []) (fun _ => [])
    (fun j => j ≤ l.length) (fun j => l.length - j) (fun _ _ => ⟨rfl, rfl⟩) 0 (Nat.zero_le _) (le_of rfl (by try simp -implicitDefEqProofs only [go_sem, bas, basL, Nat.reduceAdd, Nat.reduceSub, Nat.reduceMul, Nat.reduceLT, Nat.reduceLeDiff, Nat.reduceEqDiff, Nat.reduceBEq, Int.reduceLT, Int.reduceLE, Int.reduceToNat, Int.reduceAdd, Int.reduceSub, Int.reduceMul, Int.reduceNeg, Int.reduceEq, reduceCtorEq, eq_self, ne_eq, not_false_eq_true, if_true, reduceIte]; try simp [outB]) ⟨_, rfl⟩ ⟨_, rfl⟩) (fun j hj => ?_)
  have hsj := hs j hj
  by_cases hlt : j < l.length
  · have hs2j := hs2 j hlt
    simp -implicitDefEqProofs only [go_sem, bas, basL, Nat.reduceAdd, Nat.reduceSub, Nat.reduceMul, Nat.reduceLT, Nat.reduceLeDiff, Nat.reduceEqDiff, Nat.reduceBEq, Int.reduceLT, Int.reduceLE, Int.reduceToNat, Int.reduceAdd, Int.reduceSub, Int.reduceMul, Int.reduceNeg, Int.reduceEq, reduceCtorEq, eq_self, ne_eq, not_false_eq_true, if_true, reduceIte]
    repeat' (first
        | refine abs_seq ?_
        | refine abs_block ?_
        | refine abs_skip ?_
        | refine abs_scope ?_
        | refine abs_label ?_
        | refine abs_exit ?_
        | refine abs_ret ?_
        | ((first | refine abs_region fun K hK => ?_ | refine abs_draw Tryz.ty.mixed (by kernel_rfl) fun K hK => ?_ | refine abs_if ?_ | show retQ _ _ _ _ _ | refine callK (hW j hlt) ?_); simp -implicitDefEqProofs only [go_sem, bas, basL, Nat.reduceAdd, Nat.reduceSub, Nat.reduceMul, Nat.reduceLT, Nat.reduceLeDiff, Nat.reduceEqDiff, Nat.reduceBEq, Int.reduceLT, Int.reduceLE, Int.reduceToNat, Int.reduceAdd, Int.reduceSub, Int.reduceMul, Int.reduceNeg, Int.reduceEq, reduceCtorEq, eq_self, ne_eq, not_false_eq_true, if_true, reduceIte])
        | ((first | (refine hK _ ?_; clear hK K) | show thenQ _ _ _ _ | show blockQ _ _ _ _ | show noGoQ _ _ _); simp only [noGoQ, thenQ, blockQ, if_true, Nat.reduceEqDiff, reduceIte])
        | (intro hg; first | (exfalso; omega) | (exfalso; contradiction) | skip)
        | apply And.intro
        | (with_reducible rfl)
        | (clear hK; omega)
        | omega)
    exact ⟨j + 1, by omega, by omega, le_of rfl (by try simp -implicitDefEqProofs only [go_sem, bas, basL, Nat.reduceAdd, Nat.reduceSub, Nat.reduceMul, Nat.reduceLT, Nat.reduceLeDiff, Nat.reduceEqDiff, Nat.reduceBEq, Int.reduceLT, Int.reduceLE, Int.reduceToNat, Int.reduceAdd, Int.reduceSub, Int.reduceMul, Int.reduceNeg, Int.reduceEq, reduceCtorEq, eq_self, ne_eq, not_false_eq_true, if_true, reduceIte]; try simp [outB]) ⟨_, rfl⟩ ⟨_, rfl⟩⟩
  · obtain rfl : j = l.length := by omega
    simp -implicitDefEqProofs only [go_sem, bas, basL, Nat.reduceAdd, Nat.reduceSub, Nat.reduceMul, Nat.reduceLT, Nat.reduceLeDiff, Nat.reduceEqDiff, Nat.reduceBEq, Int.reduceLT, Int.reduceLE, Int.reduceToNat, Int.reduceAdd, Int.reduceSub, Int.reduceMul, Int.reduceNeg, Int.reduceEq, reduceCtorEq, eq_self, ne_eq, not_false_eq_true, if_true, reduceIte]
    repeat' (first
        | refine abs_seq ?_
        | refine abs_block ?_
        | refine abs_skip ?_
        | refine abs_scope ?_
        | refine abs_label ?_
        | refine abs_exit ?_
        | refine abs_ret ?_
        | ((first | refine abs_region fun K hK => ?_ | refine abs_draw Tryz.ty.mixed (by kernel_rfl) fun K hK => ?_ | refine abs_if ?_ | show retQ _ _ _ _ _ | refine callK (hL) ?_); simp -implicitDefEqProofs only [go_sem, bas, basL, Nat.reduceAdd, Nat.reduceSub, Nat.reduceMul, Nat.reduceLT, Nat.reduceLeDiff, Nat.reduceEqDiff, Nat.reduceBEq, Int.reduceLT, Int.reduceLE, Int.reduceToNat, Int.reduceAdd, Int.reduceSub, Int.reduceMul, Int.reduceNeg, Int.reduceEq, reduceCtorEq, eq_self, ne_eq, not_false_eq_true, if_true, reduceIte])
        | ((first | (refine hK _ ?_; clear hK K) | show thenQ _ _ _ _ | show blockQ _ _ _ _ | show noGoQ _ _ _); simp only [noGoQ, thenQ, blockQ, if_true, Nat.reduceEqDiff, reduceIte])
        | (intro hg; first | (exfalso; omega) | (exfalso; contradiction) | skip)
        | apply And.intro
        | (with_reducible rfl)
        | (clear hK; omega)
        | omega)
    all_goals skip
end Go.Proofs.YtdbiiegohemahaaGreatDoor
