import Derived.Test.YthamljpomhjepaaS5
import Derived.Test.YthamljpomhjepaaI1
import Derived.Test.YthamljpomhjepaaI2
import Derived.Test.YthamljpomhjepaaAbT
set_option linter.unusedVariables false
set_option linter.unusedSimpArgs false
namespace Go.Proofs.Ythamljpomhjepaa
open Go.Ab
attribute [local irreducible] Abs CallK CallR CallsTo IA
set_option linter.unusedSimpArgs false

theorem search_ok (l : Nat) (xss : List (List D)) (J Jx : Nat → Inv) (hok : IC.Ok ⟨Try.prog, l, xss, J, Jx⟩) (cl step : Int) (lb : List Value) (hc3 : cl = 2 ∨ cl = 3) (h1 : 1 ≤ step) (h2 : step ≤ 100) (hlb : lb.length = 4) :
    ∀ (r : Nat) (xs : List Int) (left : Int), (xs.length : Int) + r + 1 = cl → 0 ≤ left ∧ left ≤ 100 →
      SearchC ⟨Try.prog, l, xss, J, Jx⟩ 103 3 lb [.ro [i64 cl], .ro [.val (.func (.yield l) #[] #[])], .ro [i64 step], .ro [.val (.func (.func 103) #[] ⟨lb⟩)]] xs left ((srch step r xs left).map fun x => [ints x])
  | 0, xs, left, hcl, hl => by
    have := leaf_ok l xss J Jx hok cl step left lb (.func (.func 103) #[] ⟨lb⟩) xs (by simpa using hcl) hc3 hl hlb
    simpa [srch] using this
  | r + 1, xs, left, hcl, hl => by
    refine node_ok l xss J Jx hok cl step left lb r xs (by rw [← hcl]; simp; omega) hc3 h1 h2 hl hlb fun n h0 hn => ?_
    exact search_ok l xss J Jx hok cl step lb hc3 h1 h2 hlb r (xs ++ [n]) (left - n) (by rw [← hcl]; simp; omega) (by omega)

set_option maxRecDepth 100000 in
set_option maxHeartbeats 4000000 in
theorem stm_iter (c step : Int) (hc : c = 2 ∨ c = 3) (h1 : 1 ≤ step) (h2 : step ≤ 100) : Iter Try.prog 102 [.ro [i64 c], .ro [i64 step]] ((stm c.toNat step).map fun x => [ints x]) := by
  have hz : ∀ (l : Nat) (J Jx : Nat → Inv), IC.Ok ⟨Try.prog, l, (stm c.toNat step).map fun x => [ints x], J, Jx⟩ → ∀ lb : List Value, lb.length = 4 → SearchC ⟨Try.prog, l, (stm c.toNat step).map fun x => [ints x], J, Jx⟩ 103 3 lb [.ro [i64 c], .ro [.val (.func (.yield l) #[] #[])], .ro [i64 step], .ro [.val (.func (.func 103) #[] ⟨lb⟩)]] [] 100 ((stm c.toNat step).map fun x => [ints x]) := fun l J Jx hok lb hlb =>
    search_ok l _ J Jx hok c step lb hc h1 h2 hlb (c.toNat - 1) [] 100 (by simp; omega) (by omega)
  refine iter_of_ia Try.func102 Try.ntmps102 Try.results102 Try.call102 rfl (by simp) fun l J Jx => ?_
  repeat' (first
      | refine ia_seq ?_
      | refine ia_block ?_
      | refine ia_scope ?_
      | refine ia_label ?_
      | refine ia_skip ?_
      | refine ia_exit ?_
      | refine ia_ret ?_
      | (refine ia_if ?_; simp only [go_sem, bas, basL, Nat.reduceAdd, Nat.reduceSub, Nat.reduceMul, Nat.reduceLT, Nat.reduceLeDiff, Nat.reduceEqDiff, Nat.reduceBEq, Int.reduceLT, Int.reduceLE, Int.reduceToNat, Int.reduceAdd, Int.reduceSub, Int.reduceMul, Int.reduceNeg, Int.reduceEq, reduceCtorEq, eq_self, ne_eq, not_false_eq_true, if_true, reduceIte])
      | (refine ia_search (e := 3) (f := 103) (A := [i64 c]) (B := [i64 step]) (out := (stm c.toNat step).map fun x => [ints x]) rfl rfl Try.ty.ag38 (by show (_ : Nat) < 8; decide) (by show (_ : Nat) < 8; decide) rfl Try.call103 (fun hok => hz l J Jx hok) (fun q hq => rfl) (fun b k' hk => ?_))
      | (refine ia_abs fun w0 S0 M0 oq => abs_region fun K hK => ?_; simp only [go_sem, bas, basL, Nat.reduceAdd, Nat.reduceSub, Nat.reduceMul, Nat.reduceLT, Nat.reduceLeDiff, Nat.reduceEqDiff, Nat.reduceBEq, Int.reduceLT, Int.reduceLE, Int.reduceToNat, Int.reduceAdd, Int.reduceSub, Int.reduceMul, Int.reduceNeg, Int.reduceEq, reduceCtorEq, eq_self, ne_eq, not_false_eq_true, if_true, reduceIte])
      | (refine ia_abs fun w0 S0 M0 oq => abs_draw Try.ty.mixed (by kernel_rfl) fun K hK => ?_; simp only [go_sem, bas, basL, Nat.reduceAdd, Nat.reduceSub, Nat.reduceMul, Nat.reduceLT, Nat.reduceLeDiff, Nat.reduceEqDiff, Nat.reduceBEq, Int.reduceLT, Int.reduceLE, Int.reduceToNat, Int.reduceAdd, Int.reduceSub, Int.reduceMul, Int.reduceNeg, Int.reduceEq, reduceCtorEq, eq_self, ne_eq, not_false_eq_true, if_true, reduceIte])
      | (refine hK _ ?_; clear hK K; simp only [thenI, blockI, if_true, Nat.reduceEqDiff, reduceIte])
      | (show thenI _ _ _ _ _; simp only [thenI, blockI, if_true, Nat.reduceEqDiff, reduceIte])
      | (show noGoI _ _ _ _; simp only [noGoI, thenI, blockI, if_true, Nat.reduceEqDiff, reduceIte])
      | (show blockI _ _ _ _ _; simp only [thenI, blockI, if_true, Nat.reduceEqDiff, reduceIte])
      | (intro hg; first | (exfalso; omega) | (exfalso; contradiction) | skip)
      | apply And.intro
      | (with_reducible rfl)
      | (clear hK; omega)
      | omega)
  · rfl
  · exact hk ‹_›
end Go.Proofs.Ythamljpomhjepaa
#print axioms Go.Proofs.Ythamljpomhjepaa.stm_iter
