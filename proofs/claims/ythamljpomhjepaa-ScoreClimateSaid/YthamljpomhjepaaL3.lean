import Derived.Test.YthamljpomhjepaaR5
import Derived.Test.YthamljpomhjepaaKn
set_option linter.unusedVariables false
set_option linter.unusedSimpArgs false
namespace Go.Proofs.Ythamljpomhjepaa
open Go.Ab
attribute [local irreducible] Abs CallK CallR CallsTo
set_option linter.unusedSimpArgs false

theorem Hp_lin (b l : List Int) (q : Int) : ∀ n, sumTo (fun k => nth b k * (200 * nth l k - q)) n = 200 * sumTo (fun k => nth b k * nth l k) n - q * sumTo (nth b) n
  | 0 => by simp [sumTo]
  | n + 1 => by
    have ih := Hp_lin b l q n
    have e3 : nth b n * (200 * nth l n - q) = nth b n * (200 * nth l n) - nth b n * q := Int.mul_sub _ _ _
    have e4 : q * (sumTo (nth b) n + nth b n) = q * sumTo (nth b) n + q * nth b n := Int.mul_add _ _ _
    simp only [sumTo]
    rw [ih, e3, e4]
    have e1 : nth b n * (200 * nth l n) = 200 * (nth b n * nth l n) := by rw [Int.mul_left_comm]
    have e2 : nth b n * q = q * nth b n := Int.mul_comm _ _
    omega
theorem apart_lin (b l : List Int) : ∀ n, sumTo (fun k => (nth b k - nth l k) * (nth b k - nth l k)) n = sumTo (fun k => nth b k * nth b k) n - 2 * sumTo (fun k => nth b k * nth l k) n + sumTo (fun k => nth l k * nth l k) n
  | 0 => by simp [sumTo]
  | n + 1 => by
    simp only [sumTo, apart_lin b l n]
    have e1 : (nth b n - nth l n) * (nth b n - nth l n) = nth b n * nth b n - nth b n * nth l n - (nth l n * nth b n - nth l n * nth l n) := by rw [Int.sub_mul, Int.mul_sub, Int.mul_sub]
    have e2 : nth l n * nth b n = nth b n * nth l n := Int.mul_comm _ _
    omega
def apart (b l : List Int) : Int := sumTo (fun k => (nth b k - nth l k) * (nth b k - nth l k)) b.length
theorem apart_nn (b l : List Int) : 0 ≤ apart b l := sumTo_nonneg fun i _ => sq_nn _
theorem lose_eq {b l : List Int} (hb : Parts b) (hl : Parts l) (h : b.length = l.length) : Hp b b - Hp b l = 100 * apart b l := by
  have s1 : sumTo (nth b) b.length = 100 := hb.2.2.2
  have e1 : Hp b l = 200 * sumTo (fun k => nth b k * nth l k) b.length - sqs l * sumTo (nth b) b.length := Hp_lin b l (sqs l) _
  have e2 : Hp b b = 200 * sumTo (fun k => nth b k * nth b k) b.length - sqs b * sumTo (nth b) b.length := Hp_lin b b (sqs b) _
  have e3 := apart_lin b l b.length
  have e4 : sqs l = sumTo (fun k => nth l k * nth l k) b.length := by rw [h]; rfl
  have e5 : sqs b = sumTo (fun k => nth b k * nth b k) b.length := rfl
  unfold apart
  rw [e1, e2, e3, s1, e4, e5]
  omega
set_option maxRecDepth 100000 in
set_option maxHeartbeats 4000000 in
theorem honest_law (b l : List Int) (hb : b.length ≤ 9223372036854775807) (hl : l.length ≤ 9223372036854775807) : CallsTo Try.prog 4 [ints b, ints l] (.bool true) := by
  have q1 := hopex_ok b l
  have q2 := hopex_ok b b
  by_cases h1 : Parts b
  · have p1 := h1.2.1
    have p2 := h1.2.2.1
    by_cases h2 : Parts l
    · by_cases h3 : b.length = l.length
      · rw [if_pos ⟨h1, h2, h3⟩] at q1
        rw [if_pos ⟨h1, h1, rfl⟩] at q2
        have e1 := lose_eq h1 h2 h3
        have e2 := apart_nn b l
        have e3 := Hp_bd h1.small h2.small
        have e4 := Hp_bd h1.small h1.small
        rw [e1] at q1
        refine calls_abs Try.func4 Try.ntmps4 Try.results4 Try.call4 rfl (by simp) fun w0 S0 M0 => ?_
        repeat' (first
            | refine abs_seq ?_
            | refine abs_block ?_
            | refine abs_skip ?_
            | refine abs_exit ?_
            | refine abs_ret ?_
            | ((first | refine abs_region fun K hK => ?_ | refine abs_draw Try.ty.mixed (by kernel_rfl) fun K hK => ?_ | refine abs_if ?_); simp only [go_sem, bas, basL, Nat.reduceAdd, Nat.reduceSub, Nat.reduceMul, Nat.reduceLT, Nat.reduceLeDiff, Nat.reduceEqDiff, Nat.reduceBEq, Int.reduceLT, Int.reduceLE, Int.reduceToNat, Int.reduceAdd, Int.reduceSub, Int.reduceMul, Int.reduceNeg, Int.reduceEq, reduceCtorEq, eq_self, ne_eq, not_false_eq_true, if_true, reduceIte])
            | (refine hK _ ?_; clear hK K; simp only [thenQ, blockQ, if_true, Nat.reduceEqDiff, reduceIte])
            | (show thenQ _ _ _ _; simp only [thenQ, blockQ, if_true, Nat.reduceEqDiff, reduceIte])
            | (show blockQ _ _ _ _; simp only [thenQ, blockQ, if_true, Nat.reduceEqDiff, reduceIte])
            | ((first | refine callK (known_ok) ?_ | refine callK (q1) ?_ | refine callK (q2) ?_ | refine callK (parts_ok l hl) ?_ | refine callK (parts_ok b hb) ?_); try simp only [go_sem, bas, basL, Nat.reduceAdd, Nat.reduceSub, Nat.reduceMul, Nat.reduceLT, Nat.reduceLeDiff, Nat.reduceEqDiff, Nat.reduceBEq, Int.reduceLT, Int.reduceLE, Int.reduceToNat, Int.reduceAdd, Int.reduceSub, Int.reduceMul, Int.reduceNeg, Int.reduceEq, reduceCtorEq, eq_self, ne_eq, not_false_eq_true, if_true, reduceIte])
            | (show retQ _ _ _ _ _; simp only [go_sem, bas, basL, Nat.reduceAdd, Nat.reduceSub, Nat.reduceMul, Nat.reduceLT, Nat.reduceLeDiff, Nat.reduceEqDiff, Nat.reduceBEq, Int.reduceLT, Int.reduceLE, Int.reduceToNat, Int.reduceAdd, Int.reduceSub, Int.reduceMul, Int.reduceNeg, Int.reduceEq, reduceCtorEq, eq_self, ne_eq, not_false_eq_true, if_true, reduceIte])
            | (intro hg; first | (exfalso; omega) | (exfalso; contradiction) | skip)
            | apply And.intro
            | (with_reducible rfl)
            | (clear hK; omega)
            | omega)
        refine abs_loopN (ι := Nat) (fun j => [(0, ints b), (1, ints l), (5, i64 (Hp b l)), (6, i64 (100 * apart b l)), (11, i64 (sumTo (fun k => nth b k * Gn l k) j)), (12, i64 (sumTo (fun k => (nth b k - nth l k) * (nth b k - nth l k)) j)), (13, i64 j)]) (fun _ => []) (fun _ => [])
          (fun j => j ≤ l.length) (fun j => l.length - j) (fun _ _ => ⟨rfl, rfl⟩) 0 (Nat.zero_le _) (le_of rfl (by try simp only [go_sem, bas, basL, Nat.reduceAdd, Nat.reduceSub, Nat.reduceMul, Nat.reduceLT, Nat.reduceLeDiff, Nat.reduceEqDiff, Nat.reduceBEq, Int.reduceLT, Int.reduceLE, Int.reduceToNat, Int.reduceAdd, Int.reduceSub, Int.reduceMul, Int.reduceNeg, Int.reduceEq, reduceCtorEq, eq_self, ne_eq, not_false_eq_true, if_true, reduceIte]; try simp [sumTo]) ⟨_, rfl⟩ ⟨_, rfl⟩) (fun j hj => ?_)
        have b1 := sumTo_bd (f := fun k => nth b k * Gn l k) (lo := -3000000) (hi := 3000000) j (fun i _ => by
          have h1 := h1.small.2 i
          have h2 := Gn_bd h2.small i
          have h3 := mul_abs (b := Gn l i) (B := 30000) h1.1 h1.2 (by omega) (by omega)
          omega)
        have b2 : ∀ i : Nat, 0 ≤ (nth b i - nth l i) * (nth b i - nth l i) ∧ (nth b i - nth l i) * (nth b i - nth l i) ≤ 10000 := fun i => by
          have h1 := h1.small.2 i
          have h2 := h2.small.2 i
          refine ⟨sq_nn _, ?_⟩
          have h3 : (nth b i - nth l i).natAbs * (nth b i - nth l i).natAbs ≤ 100 * 100 := Nat.mul_le_mul (by omega) (by omega)
          rw [← Int.natAbs_mul] at h3
          omega
        have b3 := sumTo_bd (f := fun k => (nth b k - nth l k) * (nth b k - nth l k)) (lo := 0) (hi := 10000) j (fun i _ => b2 i)
        have b4 := b2 j
        have b5 := h1.small.2 j
        have b6 := h2.small.2 j
        have b7 := Gn_bd h2.small j
        have b8 := mul_abs (b := Gn l j) (B := 30000) b5.1 b5.2 (by omega) (by omega)
        have b9 : j < l.length → -10000 ≤ Gn l j ∧ Gn l j ≤ 10000 := fun h => Gn_10k h2 h
        have q3 : j < l.length → CallsTo Try.prog 19 [ints l, i64 j] (.tup [i64 (Gn l j), i64 0]) := fun h => by
          have := gainx_ok l j
          rw [if_pos ⟨h2, by omega, by omega⟩, if_pos ⟨h2, by omega, by omega⟩] at this
          exact this
        simp only [go_sem, bas, basL, Nat.reduceAdd, Nat.reduceSub, Nat.reduceMul, Nat.reduceLT, Nat.reduceLeDiff, Nat.reduceEqDiff, Nat.reduceBEq, Int.reduceLT, Int.reduceLE, Int.reduceToNat, Int.reduceAdd, Int.reduceSub, Int.reduceMul, Int.reduceNeg, Int.reduceEq, reduceCtorEq, eq_self, ne_eq, not_false_eq_true, if_true, reduceIte]
        repeat' (first
            | refine abs_seq ?_
            | refine abs_block ?_
            | refine abs_skip ?_
            | refine abs_exit ?_
            | refine abs_ret ?_
            | ((first | refine abs_region fun K hK => ?_ | refine abs_draw Try.ty.mixed (by kernel_rfl) fun K hK => ?_ | refine abs_if ?_); simp only [go_sem, bas, basL, Nat.reduceAdd, Nat.reduceSub, Nat.reduceMul, Nat.reduceLT, Nat.reduceLeDiff, Nat.reduceEqDiff, Nat.reduceBEq, Int.reduceLT, Int.reduceLE, Int.reduceToNat, Int.reduceAdd, Int.reduceSub, Int.reduceMul, Int.reduceNeg, Int.reduceEq, reduceCtorEq, eq_self, ne_eq, not_false_eq_true, if_true, reduceIte])
            | (refine hK _ ?_; clear hK K; simp only [thenQ, blockQ, if_true, Nat.reduceEqDiff, reduceIte])
            | (show thenQ _ _ _ _; simp only [thenQ, blockQ, if_true, Nat.reduceEqDiff, reduceIte])
            | (show blockQ _ _ _ _; simp only [thenQ, blockQ, if_true, Nat.reduceEqDiff, reduceIte])
            | ((first | refine callK (known_ok) ?_ | refine callK (q3 (by omega)) ?_); try simp only [go_sem, bas, basL, Nat.reduceAdd, Nat.reduceSub, Nat.reduceMul, Nat.reduceLT, Nat.reduceLeDiff, Nat.reduceEqDiff, Nat.reduceBEq, Int.reduceLT, Int.reduceLE, Int.reduceToNat, Int.reduceAdd, Int.reduceSub, Int.reduceMul, Int.reduceNeg, Int.reduceEq, reduceCtorEq, eq_self, ne_eq, not_false_eq_true, if_true, reduceIte])
            | (show retQ _ _ _ _ _; simp only [go_sem, bas, basL, Nat.reduceAdd, Nat.reduceSub, Nat.reduceMul, Nat.reduceLT, Nat.reduceLeDiff, Nat.reduceEqDiff, Nat.reduceBEq, Int.reduceLT, Int.reduceLE, Int.reduceToNat, Int.reduceAdd, Int.reduceSub, Int.reduceMul, Int.reduceNeg, Int.reduceEq, reduceCtorEq, eq_self, ne_eq, not_false_eq_true, if_true, reduceIte])
            | (intro hg; first | (exfalso; omega) | (exfalso; contradiction) | skip)
            | apply And.intro
            | (with_reducible rfl)
            | (clear hK; omega)
            | omega)
        · exact ⟨j + 1, by omega, by omega, le_of rfl (by try simp only [go_sem, bas, basL, Nat.reduceAdd, Nat.reduceSub, Nat.reduceMul, Nat.reduceLT, Nat.reduceLeDiff, Nat.reduceEqDiff, Nat.reduceBEq, Int.reduceLT, Int.reduceLE, Int.reduceToNat, Int.reduceAdd, Int.reduceSub, Int.reduceMul, Int.reduceNeg, Int.reduceEq, reduceCtorEq, eq_self, ne_eq, not_false_eq_true, if_true, reduceIte]; try simp [sumTo]) ⟨_, rfl⟩ ⟨_, rfl⟩⟩
        · exfalso
          obtain rfl : j = b.length := by omega
          exact hg rfl
        · exfalso
          obtain rfl : j = b.length := by omega
          exact hg rfl
      · skip
        refine calls_abs Try.func4 Try.ntmps4 Try.results4 Try.call4 rfl (by simp) fun w0 S0 M0 => ?_
        repeat' (first
            | refine abs_seq ?_
            | refine abs_block ?_
            | refine abs_skip ?_
            | refine abs_exit ?_
            | refine abs_ret ?_
            | ((first | refine abs_region fun K hK => ?_ | refine abs_draw Try.ty.mixed (by kernel_rfl) fun K hK => ?_ | refine abs_if ?_); simp only [go_sem, bas, basL, Nat.reduceAdd, Nat.reduceSub, Nat.reduceMul, Nat.reduceLT, Nat.reduceLeDiff, Nat.reduceEqDiff, Nat.reduceBEq, Int.reduceLT, Int.reduceLE, Int.reduceToNat, Int.reduceAdd, Int.reduceSub, Int.reduceMul, Int.reduceNeg, Int.reduceEq, reduceCtorEq, eq_self, ne_eq, not_false_eq_true, if_true, reduceIte])
            | (refine hK _ ?_; clear hK K; simp only [thenQ, blockQ, if_true, Nat.reduceEqDiff, reduceIte])
            | (show thenQ _ _ _ _; simp only [thenQ, blockQ, if_true, Nat.reduceEqDiff, reduceIte])
            | (show blockQ _ _ _ _; simp only [thenQ, blockQ, if_true, Nat.reduceEqDiff, reduceIte])
            | ((first | refine callK (known_ok) ?_ | refine callK (parts_ok l hl) ?_ | refine callK (parts_ok b hb) ?_); try simp only [go_sem, bas, basL, Nat.reduceAdd, Nat.reduceSub, Nat.reduceMul, Nat.reduceLT, Nat.reduceLeDiff, Nat.reduceEqDiff, Nat.reduceBEq, Int.reduceLT, Int.reduceLE, Int.reduceToNat, Int.reduceAdd, Int.reduceSub, Int.reduceMul, Int.reduceNeg, Int.reduceEq, reduceCtorEq, eq_self, ne_eq, not_false_eq_true, if_true, reduceIte])
            | (show retQ _ _ _ _ _; simp only [go_sem, bas, basL, Nat.reduceAdd, Nat.reduceSub, Nat.reduceMul, Nat.reduceLT, Nat.reduceLeDiff, Nat.reduceEqDiff, Nat.reduceBEq, Int.reduceLT, Int.reduceLE, Int.reduceToNat, Int.reduceAdd, Int.reduceSub, Int.reduceMul, Int.reduceNeg, Int.reduceEq, reduceCtorEq, eq_self, ne_eq, not_false_eq_true, if_true, reduceIte])
            | (intro hg; first | (exfalso; omega) | (exfalso; contradiction) | skip)
            | apply And.intro
            | (with_reducible rfl)
            | (clear hK; omega)
            | omega)
        all_goals skip
    · skip
      refine calls_abs Try.func4 Try.ntmps4 Try.results4 Try.call4 rfl (by simp) fun w0 S0 M0 => ?_
      repeat' (first
          | refine abs_seq ?_
          | refine abs_block ?_
          | refine abs_skip ?_
          | refine abs_exit ?_
          | refine abs_ret ?_
          | ((first | refine abs_region fun K hK => ?_ | refine abs_draw Try.ty.mixed (by kernel_rfl) fun K hK => ?_ | refine abs_if ?_); simp only [go_sem, bas, basL, Nat.reduceAdd, Nat.reduceSub, Nat.reduceMul, Nat.reduceLT, Nat.reduceLeDiff, Nat.reduceEqDiff, Nat.reduceBEq, Int.reduceLT, Int.reduceLE, Int.reduceToNat, Int.reduceAdd, Int.reduceSub, Int.reduceMul, Int.reduceNeg, Int.reduceEq, reduceCtorEq, eq_self, ne_eq, not_false_eq_true, if_true, reduceIte])
          | (refine hK _ ?_; clear hK K; simp only [thenQ, blockQ, if_true, Nat.reduceEqDiff, reduceIte])
          | (show thenQ _ _ _ _; simp only [thenQ, blockQ, if_true, Nat.reduceEqDiff, reduceIte])
          | (show blockQ _ _ _ _; simp only [thenQ, blockQ, if_true, Nat.reduceEqDiff, reduceIte])
          | ((first | refine callK (known_ok) ?_ | refine callK (parts_ok l hl) ?_ | refine callK (parts_ok b hb) ?_); try simp only [go_sem, bas, basL, Nat.reduceAdd, Nat.reduceSub, Nat.reduceMul, Nat.reduceLT, Nat.reduceLeDiff, Nat.reduceEqDiff, Nat.reduceBEq, Int.reduceLT, Int.reduceLE, Int.reduceToNat, Int.reduceAdd, Int.reduceSub, Int.reduceMul, Int.reduceNeg, Int.reduceEq, reduceCtorEq, eq_self, ne_eq, not_false_eq_true, if_true, reduceIte])
          | (show retQ _ _ _ _ _; simp only [go_sem, bas, basL, Nat.reduceAdd, Nat.reduceSub, Nat.reduceMul, Nat.reduceLT, Nat.reduceLeDiff, Nat.reduceEqDiff, Nat.reduceBEq, Int.reduceLT, Int.reduceLE, Int.reduceToNat, Int.reduceAdd, Int.reduceSub, Int.reduceMul, Int.reduceNeg, Int.reduceEq, reduceCtorEq, eq_self, ne_eq, not_false_eq_true, if_true, reduceIte])
          | (intro hg; first | (exfalso; omega) | (exfalso; contradiction) | skip)
          | apply And.intro
          | (with_reducible rfl)
          | (clear hK; omega)
          | omega)
      all_goals skip
  · skip
    refine calls_abs Try.func4 Try.ntmps4 Try.results4 Try.call4 rfl (by simp) fun w0 S0 M0 => ?_
    repeat' (first
        | refine abs_seq ?_
        | refine abs_block ?_
        | refine abs_skip ?_
        | refine abs_exit ?_
        | refine abs_ret ?_
        | ((first | refine abs_region fun K hK => ?_ | refine abs_draw Try.ty.mixed (by kernel_rfl) fun K hK => ?_ | refine abs_if ?_); simp only [go_sem, bas, basL, Nat.reduceAdd, Nat.reduceSub, Nat.reduceMul, Nat.reduceLT, Nat.reduceLeDiff, Nat.reduceEqDiff, Nat.reduceBEq, Int.reduceLT, Int.reduceLE, Int.reduceToNat, Int.reduceAdd, Int.reduceSub, Int.reduceMul, Int.reduceNeg, Int.reduceEq, reduceCtorEq, eq_self, ne_eq, not_false_eq_true, if_true, reduceIte])
        | (refine hK _ ?_; clear hK K; simp only [thenQ, blockQ, if_true, Nat.reduceEqDiff, reduceIte])
        | (show thenQ _ _ _ _; simp only [thenQ, blockQ, if_true, Nat.reduceEqDiff, reduceIte])
        | (show blockQ _ _ _ _; simp only [thenQ, blockQ, if_true, Nat.reduceEqDiff, reduceIte])
        | ((first | refine callK (known_ok) ?_ | refine callK (parts_ok b hb) ?_); try simp only [go_sem, bas, basL, Nat.reduceAdd, Nat.reduceSub, Nat.reduceMul, Nat.reduceLT, Nat.reduceLeDiff, Nat.reduceEqDiff, Nat.reduceBEq, Int.reduceLT, Int.reduceLE, Int.reduceToNat, Int.reduceAdd, Int.reduceSub, Int.reduceMul, Int.reduceNeg, Int.reduceEq, reduceCtorEq, eq_self, ne_eq, not_false_eq_true, if_true, reduceIte])
        | (show retQ _ _ _ _ _; simp only [go_sem, bas, basL, Nat.reduceAdd, Nat.reduceSub, Nat.reduceMul, Nat.reduceLT, Nat.reduceLeDiff, Nat.reduceEqDiff, Nat.reduceBEq, Int.reduceLT, Int.reduceLE, Int.reduceToNat, Int.reduceAdd, Int.reduceSub, Int.reduceMul, Int.reduceNeg, Int.reduceEq, reduceCtorEq, eq_self, ne_eq, not_false_eq_true, if_true, reduceIte])
        | (intro hg; first | (exfalso; omega) | (exfalso; contradiction) | skip)
        | apply And.intro
        | (with_reducible rfl)
        | (clear hK; omega)
        | omega)
    all_goals skip
end Go.Proofs.Ythamljpomhjepaa
