import Derived.Test.YthamljpomhjepaaR2
set_option linter.unusedVariables false
set_option linter.unusedSimpArgs false
namespace Go.Proofs.Ythamljpomhjepaa
open Go.Ab
attribute [local irreducible] Abs CallK CallR CallsTo

/-- The points of parts, less those of others, if there are some. -/
def dif (l o : List Int) (k : Nat) : Int := if 0 < o.length then Gn l k - Gn o k else Gn l k
/-- Whether a class of a set was met, the least and the most points so far. -/
def mrK (set : Int) (l o : List Int) : Nat → Bool × Int × Int
  | 0 => (false, 0, 0)
  | k + 1 => if hasB set k = true then (if (mrK set l o k).1 = true then (true, min (mrK set l o k).2.1 (dif l o k), max (mrK set l o k).2.2 (dif l o k)) else (true, dif l o k, dif l o k)) else mrK set l o k
theorem mrK_no {set : Int} {l o : List Int} {k : Nat} (h : hasB set k = false) : mrK set l o (k + 1) = mrK set l o k := by rw [mrK, if_neg (by rw [h]; decide)]
theorem mrK_on {set : Int} {l o : List Int} {k : Nat} (h : hasB set k = true) (h2 : (mrK set l o k).1 = true) : mrK set l o (k + 1) = (true, min (mrK set l o k).2.1 (dif l o k), max (mrK set l o k).2.2 (dif l o k)) := by rw [mrK, if_pos h, if_pos h2]
theorem mrK_new {set : Int} {l o : List Int} {k : Nat} (h : hasB set k = true) (h2 : (mrK set l o k).1 = false) : mrK set l o (k + 1) = (true, dif l o k, dif l o k) := by rw [mrK, if_pos h, if_neg (by rw [h2]; decide)]
theorem dif_bd {l o : List Int} (hl : Small l) (ho : Small o) (k : Nat) : -50000 ≤ dif l o k ∧ dif l o k ≤ 50000 := by
  have h1 := Gn_bd hl k
  have h2 := Gn_bd ho k
  unfold dif
  split <;> omega
theorem mrK_bd {l o : List Int} (hl : Small l) (ho : Small o) (set : Int) : ∀ k, (-50000 ≤ (mrK set l o k).2.1 ∧ (mrK set l o k).2.1 ≤ 50000) ∧ -50000 ≤ (mrK set l o k).2.2 ∧ (mrK set l o k).2.2 ≤ 50000
  | 0 => by simp [mrK]
  | k + 1 => by
    have h1 := mrK_bd hl ho set k
    have h2 := dif_bd hl ho k
    rw [mrK]
    split
    · split
      · simp only []; omega
      · simp only []; omega
    · exact h1
def mrLo (set : Int) (l o : List Int) : Int := (mrK set l o l.length).2.1
def mrHi (set : Int) (l o : List Int) : Int := (mrK set l o l.length).2.2

set_option maxRecDepth 100000 in
set_option maxHeartbeats 4000000 in
theorem more_ok (set : Int) (l o : List Int) (hs : 0 ≤ set ∧ set ≤ 1000) (hl : Small l) (ho : Small o) (hlo : o.length = 0 ∨ l.length ≤ o.length) : CallsTo Try.prog 87 [i64 set, ints l, ints o] (.agg [i64 (mrLo set l o), i64 (mrHi set l o)]) := by
  unfold mrLo mrHi
  have h3 := hl.1
  refine calls_abs Try.func87 Try.ntmps87 Try.results87 Try.call87 rfl (by simp) fun w0 S0 M0 => ?_
  repeat' (first
      | refine abs_seq ?_
      | refine abs_block ?_
      | refine abs_skip ?_
      | refine abs_exit ?_
      | refine abs_ret ?_
      | ((first | refine abs_region fun K hK => ?_ | refine abs_draw Try.ty.mixed (by kernel_rfl) fun K hK => ?_ | refine abs_if ?_ | show retQ _ _ _ _ _); simp -implicitDefEqProofs only [go_sem, bas, basL, Nat.reduceAdd, Nat.reduceSub, Nat.reduceMul, Nat.reduceLT, Nat.reduceLeDiff, Nat.reduceEqDiff, Nat.reduceBEq, Int.reduceLT, Int.reduceLE, Int.reduceToNat, Int.reduceAdd, Int.reduceSub, Int.reduceMul, Int.reduceNeg, Int.reduceEq, reduceCtorEq, eq_self, ne_eq, not_false_eq_true, if_true, reduceIte])
      | ((first | (refine hK _ ?_; clear hK K) | show thenQ _ _ _ _ | show blockQ _ _ _ _); simp only [thenQ, blockQ, if_true, Nat.reduceEqDiff, reduceIte])
      | (intro hg; first | (exfalso; omega) | (exfalso; contradiction) | skip)
      | apply And.intro
      | (with_reducible rfl)
      | (clear hK; omega)
      | omega)
  refine abs_loopN (ι := Nat) (fun k => [(0, i64 set), (1, ints l), (2, ints o), (6, .box 0 0), (7, .box 1 0), (8, .bool (mrK set l o k).1), (9, i64 k)]) (fun k => [.mu [i64 0, i64 0], .mu [i64 (mrK set l o k).2.1, i64 (mrK set l o k).2.2]]) (fun _ => [])
    (fun k => k ≤ l.length) (fun k => l.length - k) (fun _ _ => ⟨rfl, rfl⟩) 0 (Nat.zero_le _) (le_of rfl (by try simp -implicitDefEqProofs only [go_sem, bas, basL, Nat.reduceAdd, Nat.reduceSub, Nat.reduceMul, Nat.reduceLT, Nat.reduceLeDiff, Nat.reduceEqDiff, Nat.reduceBEq, Int.reduceLT, Int.reduceLE, Int.reduceToNat, Int.reduceAdd, Int.reduceSub, Int.reduceMul, Int.reduceNeg, Int.reduceEq, reduceCtorEq, eq_self, ne_eq, not_false_eq_true, if_true, reduceIte]; try simp [mrK]) ⟨_, rfl⟩ ⟨_, rfl⟩) (fun k hk => ?_)
  have g1 := Gn_bd hl k
  have g2 := Gn_bd ho k
  have e1 : 0 < o.length → dif l o k = Gn l k - Gn o k := fun h => by unfold dif; rw [if_pos h]
  have e2 : ¬ 0 < o.length → dif l o k = Gn l k := fun h => by unfold dif; rw [if_neg h]
  simp -implicitDefEqProofs only [go_sem, bas, basL, Nat.reduceAdd, Nat.reduceSub, Nat.reduceMul, Nat.reduceLT, Nat.reduceLeDiff, Nat.reduceEqDiff, Nat.reduceBEq, Int.reduceLT, Int.reduceLE, Int.reduceToNat, Int.reduceAdd, Int.reduceSub, Int.reduceMul, Int.reduceNeg, Int.reduceEq, reduceCtorEq, eq_self, ne_eq, not_false_eq_true, if_true, reduceIte]
  repeat' (first
      | refine abs_seq ?_
      | refine abs_block ?_
      | refine abs_skip ?_
      | refine abs_exit ?_
      | refine abs_ret ?_
      | ((first | refine abs_region fun K hK => ?_ | refine abs_draw Try.ty.mixed (by kernel_rfl) fun K hK => ?_ | refine abs_if ?_ | show retQ _ _ _ _ _ | refine callK (has_ok set k hs.1 hs.2 (by omega) (by omega)) ?_ | refine callK (gain_ok l hl k (by omega) (by omega)) ?_ | refine callK (gain_ok o ho k (by omega) (by omega)) ?_); simp -implicitDefEqProofs only [go_sem, bas, basL, Nat.reduceAdd, Nat.reduceSub, Nat.reduceMul, Nat.reduceLT, Nat.reduceLeDiff, Nat.reduceEqDiff, Nat.reduceBEq, Int.reduceLT, Int.reduceLE, Int.reduceToNat, Int.reduceAdd, Int.reduceSub, Int.reduceMul, Int.reduceNeg, Int.reduceEq, reduceCtorEq, eq_self, ne_eq, not_false_eq_true, if_true, reduceIte])
      | ((first | (refine hK _ ?_; clear hK K) | show thenQ _ _ _ _ | show blockQ _ _ _ _); simp only [thenQ, blockQ, if_true, Nat.reduceEqDiff, reduceIte])
      | (intro hg; first | (exfalso; omega) | (exfalso; contradiction) | skip)
      | apply And.intro
      | (with_reducible rfl)
      | (clear hK; omega)
      | omega)
  · have e := mrK_no (l := l) (o := o) hg
    exact ⟨k + 1, by omega, by omega, le_of rfl (by try simp -implicitDefEqProofs only [go_sem, bas, basL, Nat.reduceAdd, Nat.reduceSub, Nat.reduceMul, Nat.reduceLT, Nat.reduceLeDiff, Nat.reduceEqDiff, Nat.reduceBEq, Int.reduceLT, Int.reduceLE, Int.reduceToNat, Int.reduceAdd, Int.reduceSub, Int.reduceMul, Int.reduceNeg, Int.reduceEq, reduceCtorEq, eq_self, ne_eq, not_false_eq_true, if_true, reduceIte]; try simp [e]) ⟨[], by simp [e]⟩ ⟨_, rfl⟩⟩
  · have e := mrK_new (l := l) (o := o) (by assumption) hg
    rw [e1 (by omega)] at e
    exact ⟨k + 1, by omega, by omega, le_of rfl (by try simp -implicitDefEqProofs only [go_sem, bas, basL, Nat.reduceAdd, Nat.reduceSub, Nat.reduceMul, Nat.reduceLT, Nat.reduceLeDiff, Nat.reduceEqDiff, Nat.reduceBEq, Int.reduceLT, Int.reduceLE, Int.reduceToNat, Int.reduceAdd, Int.reduceSub, Int.reduceMul, Int.reduceNeg, Int.reduceEq, reduceCtorEq, eq_self, ne_eq, not_false_eq_true, if_true, reduceIte]; try simp [e]) ⟨[], by simp [e]⟩ ⟨_, rfl⟩⟩
  · have e := mrK_on (l := l) (o := o) (by assumption) hg
    rw [e1 (by omega)] at e
    exact ⟨k + 1, by omega, by omega, le_of rfl (by try simp -implicitDefEqProofs only [go_sem, bas, basL, Nat.reduceAdd, Nat.reduceSub, Nat.reduceMul, Nat.reduceLT, Nat.reduceLeDiff, Nat.reduceEqDiff, Nat.reduceBEq, Int.reduceLT, Int.reduceLE, Int.reduceToNat, Int.reduceAdd, Int.reduceSub, Int.reduceMul, Int.reduceNeg, Int.reduceEq, reduceCtorEq, eq_self, ne_eq, not_false_eq_true, if_true, reduceIte]; try simp [e, hg]) ⟨[], by simp [e]⟩ ⟨_, rfl⟩⟩
  · have e := mrK_new (l := l) (o := o) (by assumption) hg
    rw [e2 (by omega)] at e
    exact ⟨k + 1, by omega, by omega, le_of rfl (by try simp -implicitDefEqProofs only [go_sem, bas, basL, Nat.reduceAdd, Nat.reduceSub, Nat.reduceMul, Nat.reduceLT, Nat.reduceLeDiff, Nat.reduceEqDiff, Nat.reduceBEq, Int.reduceLT, Int.reduceLE, Int.reduceToNat, Int.reduceAdd, Int.reduceSub, Int.reduceMul, Int.reduceNeg, Int.reduceEq, reduceCtorEq, eq_self, ne_eq, not_false_eq_true, if_true, reduceIte]; try simp [e]) ⟨[], by simp [e]⟩ ⟨_, rfl⟩⟩
  · have e := mrK_on (l := l) (o := o) (by assumption) hg
    rw [e2 (by omega)] at e
    exact ⟨k + 1, by omega, by omega, le_of rfl (by try simp -implicitDefEqProofs only [go_sem, bas, basL, Nat.reduceAdd, Nat.reduceSub, Nat.reduceMul, Nat.reduceLT, Nat.reduceLeDiff, Nat.reduceEqDiff, Nat.reduceBEq, Int.reduceLT, Int.reduceLE, Int.reduceToNat, Int.reduceAdd, Int.reduceSub, Int.reduceMul, Int.reduceNeg, Int.reduceEq, reduceCtorEq, eq_self, ne_eq, not_false_eq_true, if_true, reduceIte]; try simp [e, hg]) ⟨[], by simp [e]⟩ ⟨_, rfl⟩⟩
  · obtain rfl : k = l.length := by omega
    rfl
end Go.Proofs.Ythamljpomhjepaa
