import Derived.Test.YthamljpomhjepaaR4
set_option linter.unusedVariables false
set_option linter.unusedSimpArgs false
namespace Go.Proofs.Ythamljpomhjepaa
open Go.Ab
attribute [local irreducible] Abs CallK CallR CallsTo
set_option linter.unusedSimpArgs false

theorem sq_nn (a : Int) : 0 ≤ a * a := by
  rcases Int.le_total 0 a with h | h
  · exact Int.mul_nonneg h h
  · have := Int.mul_nonneg (a := -a) (b := -a) (by omega) (by omega)
    rwa [Int.neg_mul_neg] at this
theorem sqs_le {l : List Int} (hl : Parts l) : ∀ n, n ≤ l.length → sumTo (fun k => nth l k * nth l k) n ≤ 100 * sumTo (nth l) n
  | 0, _ => by simp [sumTo]
  | n + 1, h => by
    have ih := sqs_le hl n (by omega)
    have h1 := hl.1 n (by omega)
    have h2 : nth l n * nth l n ≤ 100 * nth l n := Int.mul_le_mul_of_nonneg_right h1.2 h1.1
    simp only [sumTo]
    omega
theorem sq_one {l : List Int} {k : Nat} : ∀ n, k < n → nth l k * nth l k ≤ sumTo (fun k => nth l k * nth l k) n
  | 0, h => by omega
  | n + 1, h => by
    have h0 : 0 ≤ sumTo (fun k => nth l k * nth l k) n := sumTo_nonneg fun i _ => sq_nn _
    have h1 := sq_nn (nth l n)
    simp only [sumTo]
    by_cases hk : k = n
    · subst hk; omega
    · have := sq_one (l := l) n (show k < n by omega)
      omega
theorem Gn_10k {l : List Int} (hl : Parts l) {k : Nat} (hk : k < l.length) : -10000 ≤ Gn l k ∧ Gn l k ≤ 10000 := by
  have h1 := sqs_le hl l.length (Nat.le_refl _)
  have h2 := sq_one (l := l) l.length hk
  have h3 := hl.1 k hk
  have h4 := sq_nn (100 - nth l k)
  have e : (100 - nth l k) * (100 - nth l k) = 10000 - 200 * nth l k + nth l k * nth l k := by rw [Int.sub_mul, Int.mul_sub, Int.mul_sub]; omega
  have h5 := hl.2.2.2
  unfold Gn sqs
  rw [h5] at h1
  omega

set_option maxRecDepth 100000 in
set_option maxHeartbeats 4000000 in
theorem earning_ok (a r c sofar : Int) (b l : List Int) (hp : Paper a r c) (hs : -99990000 ≤ sofar ∧ sofar ≤ 99990000) (hb : Small b) (hl : Parts l) (hbl : b.length = l.length) :
    CallsTo Try.prog 63 [.agg [i64 a, i64 r, i64 c], i64 sofar, ints b, ints l] (i64 (Erg a r c sofar b l)) := by
  refine calls_abs Try.func63 Try.ntmps63 Try.results63 Try.call63 rfl (by simp) fun w0 S0 M0 => ?_
  repeat' (first
      | refine abs_seq ?_
      | refine abs_block ?_
      | refine abs_skip ?_
      | refine abs_exit ?_
      | refine abs_ret ?_
      | ((first | refine abs_region fun K hK => ?_ | refine abs_draw Try.ty.mixed (by kernel_rfl) fun K hK => ?_ | refine abs_if ?_); simp only [go_sem, bas, basL, Nat.reduceAdd, Nat.reduceSub, Nat.reduceMul, Nat.reduceLT, Nat.reduceLeDiff, Nat.reduceEqDiff, Nat.reduceBEq, Int.reduceLT, Int.reduceLE, Int.reduceToNat, Int.reduceAdd, Int.reduceSub, Int.reduceMul, Int.reduceNeg, Int.reduceEq, reduceCtorEq, eq_self, ne_eq, not_false_eq_true, if_true, reduceIte])
      | (refine hK _ ?_; clear hK K; simp only [thenQ, blockQ, if_true, Nat.reduceEqDiff, reduceIte])
      | (show thenQ _ _ _ _; simp only [thenQ, blockQ, if_true, Nat.reduceEqDiff, reduceIte])
      | (show blockQ _ _ _ _; simp only [thenQ, blockQ, if_true, Nat.reduceEqDiff, reduceIte])
      | (show retQ _ _ _ _ _; simp only [go_sem, bas, basL, Nat.reduceAdd, Nat.reduceSub, Nat.reduceMul, Nat.reduceLT, Nat.reduceLeDiff, Nat.reduceEqDiff, Nat.reduceBEq, Int.reduceLT, Int.reduceLE, Int.reduceToNat, Int.reduceAdd, Int.reduceSub, Int.reduceMul, Int.reduceNeg, Int.reduceEq, reduceCtorEq, eq_self, ne_eq, not_false_eq_true, if_true, reduceIte])
      | (intro hg; first | (exfalso; omega) | (exfalso; contradiction) | skip)
      | apply And.intro
      | (with_reducible rfl)
      | (clear hK; omega)
      | omega)
  refine abs_loopN (ι := Nat) (fun j => [(1, i64 sofar), (2, ints b), (3, ints l), (4, .box 0 0), (9, i64 (sumTo (fun k => nth b k * payD a r c (sofar + Gn l k)) j)), (10, i64 j)]) (fun _ => [.mu [i64 a, i64 r, i64 c]]) (fun _ => [])
    (fun j => j ≤ b.length) (fun j => b.length - j) (fun _ _ => ⟨rfl, rfl⟩) 0 (Nat.zero_le _) (le_of rfl (by try simp only [go_sem, bas, basL, Nat.reduceAdd, Nat.reduceSub, Nat.reduceMul, Nat.reduceLT, Nat.reduceLeDiff, Nat.reduceEqDiff, Nat.reduceBEq, Int.reduceLT, Int.reduceLE, Int.reduceToNat, Int.reduceAdd, Int.reduceSub, Int.reduceMul, Int.reduceNeg, Int.reduceEq, reduceCtorEq, eq_self, ne_eq, not_false_eq_true, if_true, reduceIte]; try simp [sumTo]) ⟨_, rfl⟩ ⟨_, rfl⟩) (fun j hj => ?_)
  have b0 := Gn_bd hl.small
  have b1 := sumTo_bd (f := fun k => nth b k * payD a r c (sofar + Gn l k)) (lo := 0) (hi := 10000000000) j (fun i _ => by
    have h1 := hb.2 i
    have h2 := b0 i
    have h3 := payD_bd hp (n := sofar + Gn l i) (by omega) (by omega)
    have h4 := mul_bd (b := payD a r c (sofar + Gn l i)) (B := 100000000) h1.1 h1.2 h3.1 h3.2
    omega)
  have b2 := hb.2 j
  have b3 := b0 j
  have b4 := payD_bd hp (n := sofar + Gn l j) (by omega) (by omega)
  have b5 := mul_bd (b := payD a r c (sofar + Gn l j)) (B := 100000000) b2.1 b2.2 b4.1 b4.2
  have b6 : j < b.length → -10000 ≤ Gn l j ∧ Gn l j ≤ 10000 := fun h => Gn_10k hl (by omega)
  have b7 := hb.1
  simp only [go_sem, bas, basL, Nat.reduceAdd, Nat.reduceSub, Nat.reduceMul, Nat.reduceLT, Nat.reduceLeDiff, Nat.reduceEqDiff, Nat.reduceBEq, Int.reduceLT, Int.reduceLE, Int.reduceToNat, Int.reduceAdd, Int.reduceSub, Int.reduceMul, Int.reduceNeg, Int.reduceEq, reduceCtorEq, eq_self, ne_eq, not_false_eq_true, if_true, reduceIte]
  repeat' (first
      | refine abs_seq ?_
      | refine abs_block ?_
      | refine abs_skip ?_
      | refine abs_exit ?_
      | refine abs_ret ?_
      | ((first | refine abs_region fun K hK => ?_ | refine abs_draw Try.ty.mixed (by kernel_rfl) fun K hK => ?_ | refine abs_if ?_); simp only [go_sem, bas, basL, Nat.reduceAdd, Nat.reduceSub, Nat.reduceMul, Nat.reduceLT, Nat.reduceLeDiff, Nat.reduceEqDiff, Nat.reduceBEq, Int.reduceLT, Int.reduceLE, Int.reduceToNat, Int.reduceAdd, Int.reduceSub, Int.reduceMul, Int.reduceNeg, Int.reduceEq, reduceCtorEq, eq_self, ne_eq, not_false_eq_true, if_true, reduceIte])
      | (refine hK _ ?_; clear hK K; simp only [thenQ, blockQ, if_true, Nat.reduceEqDiff, reduceIte])
      | (show thenQ _ _ _ _; simp only [thenQ, blockQ, if_true, Nat.reduceEqDiff, reduceIte])
      | (show blockQ _ _ _ _; simp only [thenQ, blockQ, if_true, Nat.reduceEqDiff, reduceIte])
      | ((first | refine callK (gain_ok l hl.small j (by omega) (by omega)) ?_ | refine callK (pay_ok a r c (sofar + Gn l j) hp (by omega) (by omega)) ?_); try simp only [go_sem, bas, basL, Nat.reduceAdd, Nat.reduceSub, Nat.reduceMul, Nat.reduceLT, Nat.reduceLeDiff, Nat.reduceEqDiff, Nat.reduceBEq, Int.reduceLT, Int.reduceLE, Int.reduceToNat, Int.reduceAdd, Int.reduceSub, Int.reduceMul, Int.reduceNeg, Int.reduceEq, reduceCtorEq, eq_self, ne_eq, not_false_eq_true, if_true, reduceIte])
      | (show retQ _ _ _ _ _; simp only [go_sem, bas, basL, Nat.reduceAdd, Nat.reduceSub, Nat.reduceMul, Nat.reduceLT, Nat.reduceLeDiff, Nat.reduceEqDiff, Nat.reduceBEq, Int.reduceLT, Int.reduceLE, Int.reduceToNat, Int.reduceAdd, Int.reduceSub, Int.reduceMul, Int.reduceNeg, Int.reduceEq, reduceCtorEq, eq_self, ne_eq, not_false_eq_true, if_true, reduceIte])
      | (intro hg; first | (exfalso; omega) | (exfalso; contradiction) | skip)
      | apply And.intro
      | (with_reducible rfl)
      | (clear hK; omega)
      | omega)
  · exact ⟨j + 1, by omega, by omega, le_of rfl (by try simp only [go_sem, bas, basL, Nat.reduceAdd, Nat.reduceSub, Nat.reduceMul, Nat.reduceLT, Nat.reduceLeDiff, Nat.reduceEqDiff, Nat.reduceBEq, Int.reduceLT, Int.reduceLE, Int.reduceToNat, Int.reduceAdd, Int.reduceSub, Int.reduceMul, Int.reduceNeg, Int.reduceEq, reduceCtorEq, eq_self, ne_eq, not_false_eq_true, if_true, reduceIte]; try simp [sumTo]) ⟨_, rfl⟩ ⟨_, rfl⟩⟩
  · obtain rfl : j = b.length := by omega
    rfl
end Go.Proofs.Ythamljpomhjepaa
