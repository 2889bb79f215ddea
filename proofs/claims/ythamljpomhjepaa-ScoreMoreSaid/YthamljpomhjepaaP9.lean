import Derived.Test.YthamljpomhjepaaP8
set_option linter.unusedVariables false
set_option linter.unusedSimpArgs false
namespace Go.Proofs.Ythamljpomhjepaa
open Go.Ab
attribute [local irreducible] Abs CallK CallR CallsTo
set_option linter.unusedSimpArgs false

def wstK (p : List Int) (set : Int) : Nat → Int × Bool
  | 0 => (0, true)
  | k + 1 => if hasB set k = true ∧ ((wstK p set k).2 = true ∨ Gn p k < (wstK p set k).1) then (Gn p k, false) else wstK p set k
theorem wstK_yes {p : List Int} {set : Int} {k : Nat} (h1 : hasB set k = true) (h2 : (wstK p set k).2 = true ∨ Gn p k < (wstK p set k).1) : wstK p set (k + 1) = (Gn p k, false) := by
  simp only [wstK]; rw [if_pos ⟨h1, h2⟩]
theorem wstK_no {p : List Int} {set : Int} {k : Nat} (h : ¬ hasB set k = true ∨ ¬ ((wstK p set k).2 = true ∨ Gn p k < (wstK p set k).1)) : wstK p set (k + 1) = wstK p set k := by
  simp only [wstK]; rw [if_neg (fun h' => h.elim (fun h => h h'.1) (fun h => h h'.2))]
def wst (p : List Int) (set : Int) : Int := (wstK p set p.length).1
def wf (c : Nat) : List Int → List Int := fun key => [wst (key.take c) (nth key 3)]

set_option maxRecDepth 100000 in
set_option maxHeartbeats 4000000 in
theorem pworst2_ok (a b set : Int) (hp : Small [a, b]) (hs : 0 ≤ set ∧ set ≤ 1000) : CallsTo Try.prog 109 [ints [a, b], i64 set, .ro [.memo ⟨true, false, 4, wf 2⟩]] (i64 (wst [a, b] set)) := by
  have hW : (wf 2 [a, b, 0, set]).headD 0 = wst [a, b] set := rfl
  have hlen : ([a, b] : List Int).length = 2 := rfl
  generalize hP : ([a, b] : List Int) = P at *
  refine calls_abs Try.func109 Try.ntmps109 Try.results109 Try.call109 rfl (by simp) fun w0 S0 M0 => ?_
  rw [← hP]
  repeat' (first
      | refine abs_seq ?_
      | refine abs_block ?_
      | refine abs_skip ?_
      | refine abs_exit ?_
      | refine abs_ret ?_
      | ((first | refine abs_region fun K hK => ?_ | refine abs_draw Try.ty.mixed (by kernel_rfl) fun K hK => ?_ | refine abs_if ?_); simp only [go_sem, bas, basL, Nat.reduceAdd, Nat.reduceSub, Nat.reduceMul, Nat.reduceLT, Nat.reduceLeDiff, Nat.reduceEqDiff, Nat.reduceBEq, Int.reduceLT, Int.reduceLE, Int.reduceToNat, Int.reduceAdd, Int.reduceSub, Int.reduceMul, Int.reduceNeg, Int.reduceEq, reduceCtorEq, eq_self, ne_eq, not_false_eq_true, if_true, reduceIte])
      | (refine hK _ ?_; clear hK K; simp only [thenQ, blockQ, if_true, Nat.reduceEqDiff, reduceIte])
      | (show thenQ _ _ _ _; simp only [thenQ, blockQ, if_true, Nat.reduceEqDiff, reduceIte])
      | (show blockQ _ _ _ _; simp only [thenQ, blockQ, if_true, Nat.reduceEqDiff, reduceIte])
      | (show retQ _ _ _ _ _; simp only [go_sem, bas, basL, Nat.reduceAdd, Nat.reduceSub, Nat.reduceMul, Nat.reduceLT, Nat.reduceLeDiff, Nat.reduceEqDiff, Nat.reduceBEq, Int.reduceLT, Int.reduceLE, Int.reduceToNat, Int.reduceAdd, Int.reduceSub, Int.reduceMul, Int.reduceNeg, Int.reduceEq, reduceCtorEq, eq_self, ne_eq, not_false_eq_true, if_true, reduceIte])
      | (intro hg; first | (exfalso; omega) | (exfalso; contradiction) | skip)
      | apply And.intro
      | (with_reducible rfl)
      | (clear hK; omega)
      | omega)
  · simp only [hW]
    rw [hP]
  refine abs_loopN (ι := Nat) (fun k => [(0, ints P), (1, i64 set), (2, .ro [.memo ⟨true, false, 4, wf 2⟩]), (6, .box 0 0), (9, i64 (wstK P set k).1), (10, .bool (wstK P set k).2), (25, ints P), (26, i64 2), (27, i64 k)]) (fun _ => [.mu [i64 a, i64 b, i64 0, i64 set]]) (fun _ => [])
    (fun k => k ≤ 2) (fun k => 2 - k) (fun _ _ => ⟨rfl, rfl⟩) 0 (Nat.zero_le _) (le_of rfl (by try simp only [go_sem, bas, basL, Nat.reduceAdd, Nat.reduceSub, Nat.reduceMul, Nat.reduceLT, Nat.reduceLeDiff, Nat.reduceEqDiff, Nat.reduceBEq, Int.reduceLT, Int.reduceLE, Int.reduceToNat, Int.reduceAdd, Int.reduceSub, Int.reduceMul, Int.reduceNeg, Int.reduceEq, reduceCtorEq, eq_self, ne_eq, not_false_eq_true, if_true, reduceIte]; try simp [wstK, ← hP]) ⟨_, rfl⟩ ⟨_, rfl⟩) (fun k hk => ?_)
  have hf : set.fdiv (2 ^ k) = set / 2 ^ k := Int.fdiv_eq_ediv_of_nonneg _ (Int.pow_nonneg (by decide))
  have hb : 0 ≤ set / 2 ^ k ∧ set / 2 ^ k ≤ 1000 := ⟨Int.ediv_nonneg hs.1 (Int.pow_nonneg (by decide)), Int.le_trans (Int.ediv_le_self _ hs.1) hs.2⟩
  have hG := Gn_bd hp k
  simp only [go_sem, bas, basL, Nat.reduceAdd, Nat.reduceSub, Nat.reduceMul, Nat.reduceLT, Nat.reduceLeDiff, Nat.reduceEqDiff, Nat.reduceBEq, Int.reduceLT, Int.reduceLE, Int.reduceToNat, Int.reduceAdd, Int.reduceSub, Int.reduceMul, Int.reduceNeg, Int.reduceEq, reduceCtorEq, eq_self, ne_eq, not_false_eq_true, if_true, reduceIte]
  repeat' (first
      | refine abs_seq ?_
      | refine abs_block ?_
      | refine abs_skip ?_
      | refine abs_exit ?_
      | refine abs_ret ?_
      | ((first | refine abs_region fun K hK => ?_ | refine abs_draw Try.ty.mixed (by kernel_rfl) fun K hK => ?_ | refine abs_if ?_); simp only [go_sem, bas, basL, Nat.reduceAdd, Nat.reduceSub, Nat.reduceMul, Nat.reduceLT, Nat.reduceLeDiff, Nat.reduceEqDiff, Nat.reduceBEq, Int.reduceLT, Int.reduceLE, Int.reduceToNat, Int.reduceAdd, Int.reduceSub, Int.reduceMul, Int.reduceNeg, Int.reduceEq, reduceCtorEq, eq_self, ne_eq, not_false_eq_true, if_true, reduceIte])
      | (refine hK _ ?_; clear hK K; simp only [thenQ, blockQ, if_true, Nat.reduceEqDiff, reduceIte])
      | (show thenQ _ _ _ _; simp only [thenQ, blockQ, if_true, Nat.reduceEqDiff, reduceIte])
      | (show blockQ _ _ _ _; simp only [thenQ, blockQ, if_true, Nat.reduceEqDiff, reduceIte])
      | ((rw [hf]))
      | (refine callK (pgain_ok P hp k (by omega) (by omega)) ?_; try simp only [go_sem, bas, basL, Nat.reduceAdd, Nat.reduceSub, Nat.reduceMul, Nat.reduceLT, Nat.reduceLeDiff, Nat.reduceEqDiff, Nat.reduceBEq, Int.reduceLT, Int.reduceLE, Int.reduceToNat, Int.reduceAdd, Int.reduceSub, Int.reduceMul, Int.reduceNeg, Int.reduceEq, reduceCtorEq, eq_self, ne_eq, not_false_eq_true, if_true, reduceIte])
      | (show retQ _ _ _ _ _; simp only [go_sem, bas, basL, Nat.reduceAdd, Nat.reduceSub, Nat.reduceMul, Nat.reduceLT, Nat.reduceLeDiff, Nat.reduceEqDiff, Nat.reduceBEq, Int.reduceLT, Int.reduceLE, Int.reduceToNat, Int.reduceAdd, Int.reduceSub, Int.reduceMul, Int.reduceNeg, Int.reduceEq, reduceCtorEq, eq_self, ne_eq, not_false_eq_true, if_true, reduceIte])
      | (intro hg; first | (exfalso; omega) | (exfalso; contradiction) | skip)
      | apply And.intro
      | (with_reducible rfl)
      | (clear hK; omega)
      | omega)
  · have hh : hasB set k = true := by simp [hasB]; assumption
    have e := wstK_yes (p := P) hh (.inr hg)
    exact ⟨k + 1, by omega, by omega, le_of rfl (by try simp only [go_sem, bas, basL, Nat.reduceAdd, Nat.reduceSub, Nat.reduceMul, Nat.reduceLT, Nat.reduceLeDiff, Nat.reduceEqDiff, Nat.reduceBEq, Int.reduceLT, Int.reduceLE, Int.reduceToNat, Int.reduceAdd, Int.reduceSub, Int.reduceMul, Int.reduceNeg, Int.reduceEq, reduceCtorEq, eq_self, ne_eq, not_false_eq_true, if_true, reduceIte]; simp [e]) ⟨_, rfl⟩ ⟨_, rfl⟩⟩
  · have hh : ¬ ((wstK P set k).2 = true ∨ Gn P k < (wstK P set k).1) := fun h => h.elim (fun h => by simp_all) hg
    have e := wstK_no (p := P) (.inr hh)
    exact ⟨k + 1, by omega, by omega, le_of rfl (by try simp only [go_sem, bas, basL, Nat.reduceAdd, Nat.reduceSub, Nat.reduceMul, Nat.reduceLT, Nat.reduceLeDiff, Nat.reduceEqDiff, Nat.reduceBEq, Int.reduceLT, Int.reduceLE, Int.reduceToNat, Int.reduceAdd, Int.reduceSub, Int.reduceMul, Int.reduceNeg, Int.reduceEq, reduceCtorEq, eq_self, ne_eq, not_false_eq_true, if_true, reduceIte]; simp [e]) ⟨_, rfl⟩ ⟨_, rfl⟩⟩
  · have hh : hasB set k = true := by simp [hasB]; assumption
    have e := wstK_yes (p := P) hh (.inl hg)
    exact ⟨k + 1, by omega, by omega, le_of rfl (by try simp only [go_sem, bas, basL, Nat.reduceAdd, Nat.reduceSub, Nat.reduceMul, Nat.reduceLT, Nat.reduceLeDiff, Nat.reduceEqDiff, Nat.reduceBEq, Int.reduceLT, Int.reduceLE, Int.reduceToNat, Int.reduceAdd, Int.reduceSub, Int.reduceMul, Int.reduceNeg, Int.reduceEq, reduceCtorEq, eq_self, ne_eq, not_false_eq_true, if_true, reduceIte]; simp [e]) ⟨_, rfl⟩ ⟨_, rfl⟩⟩
  · have hh : ¬ hasB set k = true := by simp [hasB]; omega
    have e := wstK_no (p := P) (.inl hh)
    exact ⟨k + 1, by omega, by omega, le_of rfl (by try simp only [go_sem, bas, basL, Nat.reduceAdd, Nat.reduceSub, Nat.reduceMul, Nat.reduceLT, Nat.reduceLeDiff, Nat.reduceEqDiff, Nat.reduceBEq, Int.reduceLT, Int.reduceLE, Int.reduceToNat, Int.reduceAdd, Int.reduceSub, Int.reduceMul, Int.reduceNeg, Int.reduceEq, reduceCtorEq, eq_self, ne_eq, not_false_eq_true, if_true, reduceIte]; simp [e]) ⟨_, rfl⟩ ⟨_, rfl⟩⟩
  · obtain rfl : k = 2 := by omega
    rw [hW, wst, hlen]
  · obtain rfl : k = 2 := by omega
    rw [hP, wst, hlen]

set_option maxRecDepth 100000 in
set_option maxHeartbeats 4000000 in
theorem pworst3_ok (a b d set : Int) (hp : Small [a, b, d]) (hs : 0 ≤ set ∧ set ≤ 1000) : CallsTo Try.prog 109 [ints [a, b, d], i64 set, .ro [.memo ⟨true, false, 4, wf 3⟩]] (i64 (wst [a, b, d] set)) := by
  have hW : (wf 3 [a, b, d, set]).headD 0 = wst [a, b, d] set := rfl
  have hlen : ([a, b, d] : List Int).length = 3 := rfl
  generalize hP : ([a, b, d] : List Int) = P at *
  refine calls_abs Try.func109 Try.ntmps109 Try.results109 Try.call109 rfl (by simp) fun w0 S0 M0 => ?_
  rw [← hP]
  repeat' (first
      | refine abs_seq ?_
      | refine abs_block ?_
      | refine abs_skip ?_
      | refine abs_exit ?_
      | refine abs_ret ?_
      | ((first | refine abs_region fun K hK => ?_ | refine abs_draw Try.ty.mixed (by kernel_rfl) fun K hK => ?_ | refine abs_if ?_); simp only [go_sem, bas, basL, Nat.reduceAdd, Nat.reduceSub, Nat.reduceMul, Nat.reduceLT, Nat.reduceLeDiff, Nat.reduceEqDiff, Nat.reduceBEq, Int.reduceLT, Int.reduceLE, Int.reduceToNat, Int.reduceAdd, Int.reduceSub, Int.reduceMul, Int.reduceNeg, Int.reduceEq, reduceCtorEq, eq_self, ne_eq, not_false_eq_true, if_true, reduceIte])
      | (refine hK _ ?_; clear hK K; simp only [thenQ, blockQ, if_true, Nat.reduceEqDiff, reduceIte])
      | (show thenQ _ _ _ _; simp only [thenQ, blockQ, if_true, Nat.reduceEqDiff, reduceIte])
      | (show blockQ _ _ _ _; simp only [thenQ, blockQ, if_true, Nat.reduceEqDiff, reduceIte])
      | (show retQ _ _ _ _ _; simp only [go_sem, bas, basL, Nat.reduceAdd, Nat.reduceSub, Nat.reduceMul, Nat.reduceLT, Nat.reduceLeDiff, Nat.reduceEqDiff, Nat.reduceBEq, Int.reduceLT, Int.reduceLE, Int.reduceToNat, Int.reduceAdd, Int.reduceSub, Int.reduceMul, Int.reduceNeg, Int.reduceEq, reduceCtorEq, eq_self, ne_eq, not_false_eq_true, if_true, reduceIte])
      | (intro hg; first | (exfalso; omega) | (exfalso; contradiction) | skip)
      | apply And.intro
      | (with_reducible rfl)
      | (clear hK; omega)
      | omega)
  · simp only [hW]
    rw [hP]
  refine abs_loopN (ι := Nat) (fun k => [(0, ints P), (1, i64 set), (2, .ro [.memo ⟨true, false, 4, wf 3⟩]), (6, .box 0 0), (9, i64 (wstK P set k).1), (10, .bool (wstK P set k).2), (25, ints P), (26, i64 3), (27, i64 k)]) (fun _ => [.mu [i64 a, i64 b, i64 d, i64 set]]) (fun _ => [])
    (fun k => k ≤ 3) (fun k => 3 - k) (fun _ _ => ⟨rfl, rfl⟩) 0 (Nat.zero_le _) (le_of rfl (by try simp only [go_sem, bas, basL, Nat.reduceAdd, Nat.reduceSub, Nat.reduceMul, Nat.reduceLT, Nat.reduceLeDiff, Nat.reduceEqDiff, Nat.reduceBEq, Int.reduceLT, Int.reduceLE, Int.reduceToNat, Int.reduceAdd, Int.reduceSub, Int.reduceMul, Int.reduceNeg, Int.reduceEq, reduceCtorEq, eq_self, ne_eq, not_false_eq_true, if_true, reduceIte]; try simp [wstK, ← hP]) ⟨_, rfl⟩ ⟨_, rfl⟩) (fun k hk => ?_)
  have hf : set.fdiv (2 ^ k) = set / 2 ^ k := Int.fdiv_eq_ediv_of_nonneg _ (Int.pow_nonneg (by decide))
  have hb : 0 ≤ set / 2 ^ k ∧ set / 2 ^ k ≤ 1000 := ⟨Int.ediv_nonneg hs.1 (Int.pow_nonneg (by decide)), Int.le_trans (Int.ediv_le_self _ hs.1) hs.2⟩
  have hG := Gn_bd hp k
  simp only [go_sem, bas, basL, Nat.reduceAdd, Nat.reduceSub, Nat.reduceMul, Nat.reduceLT, Nat.reduceLeDiff, Nat.reduceEqDiff, Nat.reduceBEq, Int.reduceLT, Int.reduceLE, Int.reduceToNat, Int.reduceAdd, Int.reduceSub, Int.reduceMul, Int.reduceNeg, Int.reduceEq, reduceCtorEq, eq_self, ne_eq, not_false_eq_true, if_true, reduceIte]
  repeat' (first
      | refine abs_seq ?_
      | refine abs_block ?_
      | refine abs_skip ?_
      | refine abs_exit ?_
      | refine abs_ret ?_
      | ((first | refine abs_region fun K hK => ?_ | refine abs_draw Try.ty.mixed (by kernel_rfl) fun K hK => ?_ | refine abs_if ?_); simp only [go_sem, bas, basL, Nat.reduceAdd, Nat.reduceSub, Nat.reduceMul, Nat.reduceLT, Nat.reduceLeDiff, Nat.reduceEqDiff, Nat.reduceBEq, Int.reduceLT, Int.reduceLE, Int.reduceToNat, Int.reduceAdd, Int.reduceSub, Int.reduceMul, Int.reduceNeg, Int.reduceEq, reduceCtorEq, eq_self, ne_eq, not_false_eq_true, if_true, reduceIte])
      | (refine hK _ ?_; clear hK K; simp only [thenQ, blockQ, if_true, Nat.reduceEqDiff, reduceIte])
      | (show thenQ _ _ _ _; simp only [thenQ, blockQ, if_true, Nat.reduceEqDiff, reduceIte])
      | (show blockQ _ _ _ _; simp only [thenQ, blockQ, if_true, Nat.reduceEqDiff, reduceIte])
      | ((rw [hf]))
      | (refine callK (pgain_ok P hp k (by omega) (by omega)) ?_; try simp only [go_sem, bas, basL, Nat.reduceAdd, Nat.reduceSub, Nat.reduceMul, Nat.reduceLT, Nat.reduceLeDiff, Nat.reduceEqDiff, Nat.reduceBEq, Int.reduceLT, Int.reduceLE, Int.reduceToNat, Int.reduceAdd, Int.reduceSub, Int.reduceMul, Int.reduceNeg, Int.reduceEq, reduceCtorEq, eq_self, ne_eq, not_false_eq_true, if_true, reduceIte])
      | (show retQ _ _ _ _ _; simp only [go_sem, bas, basL, Nat.reduceAdd, Nat.reduceSub, Nat.reduceMul, Nat.reduceLT, Nat.reduceLeDiff, Nat.reduceEqDiff, Nat.reduceBEq, Int.reduceLT, Int.reduceLE, Int.reduceToNat, Int.reduceAdd, Int.reduceSub, Int.reduceMul, Int.reduceNeg, Int.reduceEq, reduceCtorEq, eq_self, ne_eq, not_false_eq_true, if_true, reduceIte])
      | (intro hg; first | (exfalso; omega) | (exfalso; contradiction) | skip)
      | apply And.intro
      | (with_reducible rfl)
      | (clear hK; omega)
      | omega)
  · have hh : hasB set k = true := by simp [hasB]; assumption
    have e := wstK_yes (p := P) hh (.inr hg)
    exact ⟨k + 1, by omega, by omega, le_of rfl (by try simp only [go_sem, bas, basL, Nat.reduceAdd, Nat.reduceSub, Nat.reduceMul, Nat.reduceLT, Nat.reduceLeDiff, Nat.reduceEqDiff, Nat.reduceBEq, Int.reduceLT, Int.reduceLE, Int.reduceToNat, Int.reduceAdd, Int.reduceSub, Int.reduceMul, Int.reduceNeg, Int.reduceEq, reduceCtorEq, eq_self, ne_eq, not_false_eq_true, if_true, reduceIte]; simp [e]) ⟨_, rfl⟩ ⟨_, rfl⟩⟩
  · have hh : ¬ ((wstK P set k).2 = true ∨ Gn P k < (wstK P set k).1) := fun h => h.elim (fun h => by simp_all) hg
    have e := wstK_no (p := P) (.inr hh)
    exact ⟨k + 1, by omega, by omega, le_of rfl (by try simp only [go_sem, bas, basL, Nat.reduceAdd, Nat.reduceSub, Nat.reduceMul, Nat.reduceLT, Nat.reduceLeDiff, Nat.reduceEqDiff, Nat.reduceBEq, Int.reduceLT, Int.reduceLE, Int.reduceToNat, Int.reduceAdd, Int.reduceSub, Int.reduceMul, Int.reduceNeg, Int.reduceEq, reduceCtorEq, eq_self, ne_eq, not_false_eq_true, if_true, reduceIte]; simp [e]) ⟨_, rfl⟩ ⟨_, rfl⟩⟩
  · have hh : hasB set k = true := by simp [hasB]; assumption
    have e := wstK_yes (p := P) hh (.inl hg)
    exact ⟨k + 1, by omega, by omega, le_of rfl (by try simp only [go_sem, bas, basL, Nat.reduceAdd, Nat.reduceSub, Nat.reduceMul, Nat.reduceLT, Nat.reduceLeDiff, Nat.reduceEqDiff, Nat.reduceBEq, Int.reduceLT, Int.reduceLE, Int.reduceToNat, Int.reduceAdd, Int.reduceSub, Int.reduceMul, Int.reduceNeg, Int.reduceEq, reduceCtorEq, eq_self, ne_eq, not_false_eq_true, if_true, reduceIte]; simp [e]) ⟨_, rfl⟩ ⟨_, rfl⟩⟩
  · have hh : ¬ hasB set k = true := by simp [hasB]; omega
    have e := wstK_no (p := P) (.inl hh)
    exact ⟨k + 1, by omega, by omega, le_of rfl (by try simp only [go_sem, bas, basL, Nat.reduceAdd, Nat.reduceSub, Nat.reduceMul, Nat.reduceLT, Nat.reduceLeDiff, Nat.reduceEqDiff, Nat.reduceBEq, Int.reduceLT, Int.reduceLE, Int.reduceToNat, Int.reduceAdd, Int.reduceSub, Int.reduceMul, Int.reduceNeg, Int.reduceEq, reduceCtorEq, eq_self, ne_eq, not_false_eq_true, if_true, reduceIte]; simp [e]) ⟨_, rfl⟩ ⟨_, rfl⟩⟩
  · obtain rfl : k = 3 := by omega
    rw [hW, wst, hlen]
  · obtain rfl : k = 3 := by omega
    rw [hP, wst, hlen]

def daySum (S : List (List Int)) (dist : Nat) (p : List Int) (n : Nat) : Int := sumTo (fun i => wst p (nth (nth S i) dist)) n
theorem wstK_bd {p : List Int} (hp : Small p) (set : Int) : ∀ k, -30000 ≤ (wstK p set k).1 ∧ (wstK p set k).1 ≤ 20000
  | 0 => by simp [wstK]
  | k + 1 => by
    simp only [wstK]
    split
    · exact Gn_bd hp k
    · exact wstK_bd hp set k
theorem pworst_ok (c : Int) (hc : c = 2 ∨ c = 3) (p : List Int) (hp : Small p) (hl : (p.length : Int) = c) (set : Int) (hs : 0 ≤ set ∧ set ≤ 1000) :
    CallsTo Try.prog 109 [ints p, i64 set, .ro [.memo ⟨true, false, 4, wf c.toNat⟩]] (i64 (wst p set)) := by
  rcases hc with rfl | rfl
  · match p, hl, hp with
    | [a, b], _, hp => exact pworst2_ok a b set hp hs
  · match p, hl, hp with
    | [a, b, d], _, hp => exact pworst3_ok a b d set hp hs

set_option maxRecDepth 100000 in
set_option maxHeartbeats 4000000 in
theorem pclim2_ok (c : Int) (W : List Int) (S : List (List Int)) (dist : Nat) (hs : Suite c W S) (hk : dist < W.length) (p : List Int) (hp : Small p) (hl : (p.length : Int) = c) :
    CallsTo Try.prog 110 [ints p, .ro [i64 c, ints W, intss S], .ro [.clo 109 [.ro [.memo ⟨true, false, 4, wf c.toNat⟩]]], .ro [i64 dist]] (i64 (daySum S dist p S.length)) := by
  obtain ⟨h1, h2, h3, h4, h5⟩ := hs
  have hset : ∀ i, i < S.length → 0 ≤ nth (nth S i) dist ∧ nth (nth S i) dist ≤ 1000 := fun i hi => by
    have h6 := h5 i hi
    have h7 := h6.2 dist (by omega)
    have h8 : (2 : Int) ^ c.toNat - 1 ≤ 1000 := by
      rcases (by omega : c = 2 ∨ c = 3) with e | e <;> rw [e] <;> decide
    omega
  refine calls_abs Try.func110 Try.ntmps110 Try.results110 Try.call110 rfl (by simp) fun w0 S0 M0 => ?_
  repeat' (first
      | refine abs_seq ?_
      | refine abs_block ?_
      | refine abs_skip ?_
      | refine abs_exit ?_
      | refine abs_ret ?_
      | ((first | refine abs_region fun K hK => ?_ | refine abs_draw Try.ty.mixed (by kernel_rfl) fun K hK => ?_ | refine abs_if ?_); simp only [go_sem, bas, basL, Nat.reduceAdd, Nat.reduceSub, Nat.reduceMul, Nat.reduceLT, Nat.reduceLeDiff, Nat.reduceEqDiff, Nat.reduceBEq, Int.reduceLT, Int.reduceLE, Int.reduceToNat, Int.reduceAdd, Int.reduceSub, Int.reduceMul, Int.reduceNeg, Int.reduceEq, reduceCtorEq, eq_self, ne_eq, not_false_eq_true, if_true, reduceIte])
      | (refine hK _ ?_; clear hK K; simp only [thenQ, blockQ, if_true, Nat.reduceEqDiff, reduceIte])
      | (show thenQ _ _ _ _; simp only [thenQ, blockQ, if_true, Nat.reduceEqDiff, reduceIte])
      | (show blockQ _ _ _ _; simp only [thenQ, blockQ, if_true, Nat.reduceEqDiff, reduceIte])
      | (show retQ _ _ _ _ _; simp only [go_sem, bas, basL, Nat.reduceAdd, Nat.reduceSub, Nat.reduceMul, Nat.reduceLT, Nat.reduceLeDiff, Nat.reduceEqDiff, Nat.reduceBEq, Int.reduceLT, Int.reduceLE, Int.reduceToNat, Int.reduceAdd, Int.reduceSub, Int.reduceMul, Int.reduceNeg, Int.reduceEq, reduceCtorEq, eq_self, ne_eq, not_false_eq_true, if_true, reduceIte])
      | (intro hg; first | (exfalso; omega) | (exfalso; contradiction) | skip)
      | apply And.intro
      | (with_reducible rfl)
      | (clear hK; omega)
      | omega)
  refine abs_loopN (ι := Nat) (fun i => [(0, ints p), (1, .ro [i64 c, ints W, intss S]), (2, .ro [.clo 109 [.ro [.memo ⟨true, false, 4, wf c.toNat⟩]]]), (3, .ro [i64 dist]), (6, i64 (daySum S dist p i)), (10, i64 S.length), (11, i64 i)]) (fun _ => []) (fun _ => [])
    (fun i => i ≤ S.length) (fun i => S.length - i) (fun _ _ => ⟨rfl, rfl⟩) 0 (Nat.zero_le _) (le_of rfl (by try simp only [go_sem, bas, basL, Nat.reduceAdd, Nat.reduceSub, Nat.reduceMul, Nat.reduceLT, Nat.reduceLeDiff, Nat.reduceEqDiff, Nat.reduceBEq, Int.reduceLT, Int.reduceLE, Int.reduceToNat, Int.reduceAdd, Int.reduceSub, Int.reduceMul, Int.reduceNeg, Int.reduceEq, reduceCtorEq, eq_self, ne_eq, not_false_eq_true, if_true, reduceIte]; try simp [daySum, sumTo]) ⟨_, rfl⟩ ⟨_, rfl⟩) (fun i hi => ?_)
  have q1 := sumTo_bd (f := fun i => wst p (nth (nth S i) dist)) (lo := -30000) (hi := 20000) i (fun i _ => wstK_bd hp _ _)
  have q2 : daySum S dist p i = sumTo (fun i => wst p (nth (nth S i) dist)) i := rfl
  have q3 : -30000 ≤ wst p (nth (nth S i) dist) ∧ wst p (nth (nth S i) dist) ≤ 20000 := wstK_bd hp _ _
  have q4 : i < S.length → dist < (nth S i).length := fun h => by have := (h5 i h).1; omega
  simp only [go_sem, bas, basL, Nat.reduceAdd, Nat.reduceSub, Nat.reduceMul, Nat.reduceLT, Nat.reduceLeDiff, Nat.reduceEqDiff, Nat.reduceBEq, Int.reduceLT, Int.reduceLE, Int.reduceToNat, Int.reduceAdd, Int.reduceSub, Int.reduceMul, Int.reduceNeg, Int.reduceEq, reduceCtorEq, eq_self, ne_eq, not_false_eq_true, if_true, reduceIte]
  repeat' (first
      | refine abs_seq ?_
      | refine abs_block ?_
      | refine abs_skip ?_
      | refine abs_exit ?_
      | refine abs_ret ?_
      | ((first | refine abs_region fun K hK => ?_ | refine abs_draw Try.ty.mixed (by kernel_rfl) fun K hK => ?_ | refine abs_if ?_); simp only [go_sem, bas, basL, Nat.reduceAdd, Nat.reduceSub, Nat.reduceMul, Nat.reduceLT, Nat.reduceLeDiff, Nat.reduceEqDiff, Nat.reduceBEq, Int.reduceLT, Int.reduceLE, Int.reduceToNat, Int.reduceAdd, Int.reduceSub, Int.reduceMul, Int.reduceNeg, Int.reduceEq, reduceCtorEq, eq_self, ne_eq, not_false_eq_true, if_true, reduceIte])
      | (refine hK _ ?_; clear hK K; simp only [thenQ, blockQ, if_true, Nat.reduceEqDiff, reduceIte])
      | (show thenQ _ _ _ _; simp only [thenQ, blockQ, if_true, Nat.reduceEqDiff, reduceIte])
      | (show blockQ _ _ _ _; simp only [thenQ, blockQ, if_true, Nat.reduceEqDiff, reduceIte])
      | (refine callK (pworst_ok c (by omega) p hp hl _ (hset i (by omega))) ?_; try simp only [go_sem, bas, basL, Nat.reduceAdd, Nat.reduceSub, Nat.reduceMul, Nat.reduceLT, Nat.reduceLeDiff, Nat.reduceEqDiff, Nat.reduceBEq, Int.reduceLT, Int.reduceLE, Int.reduceToNat, Int.reduceAdd, Int.reduceSub, Int.reduceMul, Int.reduceNeg, Int.reduceEq, reduceCtorEq, eq_self, ne_eq, not_false_eq_true, if_true, reduceIte])
      | (show retQ _ _ _ _ _; simp only [go_sem, bas, basL, Nat.reduceAdd, Nat.reduceSub, Nat.reduceMul, Nat.reduceLT, Nat.reduceLeDiff, Nat.reduceEqDiff, Nat.reduceBEq, Int.reduceLT, Int.reduceLE, Int.reduceToNat, Int.reduceAdd, Int.reduceSub, Int.reduceMul, Int.reduceNeg, Int.reduceEq, reduceCtorEq, eq_self, ne_eq, not_false_eq_true, if_true, reduceIte])
      | (intro hg; first | (exfalso; omega) | (exfalso; contradiction) | skip)
      | apply And.intro
      | (with_reducible rfl)
      | (clear hK; omega)
      | omega)
  · exact ⟨i + 1, by omega, by omega, le_of rfl (by try simp only [go_sem, bas, basL, Nat.reduceAdd, Nat.reduceSub, Nat.reduceMul, Nat.reduceLT, Nat.reduceLeDiff, Nat.reduceEqDiff, Nat.reduceBEq, Int.reduceLT, Int.reduceLE, Int.reduceToNat, Int.reduceAdd, Int.reduceSub, Int.reduceMul, Int.reduceNeg, Int.reduceEq, reduceCtorEq, eq_self, ne_eq, not_false_eq_true, if_true, reduceIte]; try simp [daySum, sumTo]) ⟨_, rfl⟩ ⟨_, rfl⟩⟩
  · obtain rfl : i = S.length := by omega
    rfl

set_option maxRecDepth 100000 in
set_option maxHeartbeats 4000000 in
theorem pclimate_ok (c : Int) (W : List Int) (S : List (List Int)) (dist : Nat) (hs : Suite c W S) (hk : dist < W.length) :
    CallsTo Try.prog 83 [.agg [i64 c, ints W, intss S], i64 dist] (.tup [ints (bestS (fun p => daySum S dist p S.length) c.toNat 1).1, i64 (bestS (fun p => daySum S dist p S.length) c.toNat 1).2]) := by
  have hc : c = 2 ∨ c = 3 := by have := hs.1; omega
  have q5 := stm_iter c 1 hc (by decide) (by decide)
  have q6 : ∀ x ∈ stm c.toNat 1, CallsTo Try.prog 110 [ints x, .ro [i64 c, ints W, intss S], .ro [.clo 109 [.ro [.memo ⟨true, false, 4, wf c.toNat⟩]]], .ro [i64 dist]] (i64 (daySum S dist x S.length)) := fun x hx => by
    have hx := stm_parts (c := c.toNat) (step := 1) (by omega) (by decide) hx
    exact pclim2_ok c W S dist hs hk x hx.1.small (by rw [hx.2]; omega)
  unfold bestS
  refine calls_abs Try.func83 Try.ntmps83 Try.results83 Try.call83 rfl (by simp) fun w0 S0 M0 => ?_
  repeat' (first
      | (refine abs_freeze 0 _ _ rfl rfl ?_; simp only [basL, Nat.reduceAdd])
      | (refine abs_freeze 1 _ _ rfl rfl ?_; simp only [basL, Nat.reduceAdd])
      | (refine abs_freeze 2 _ _ rfl rfl ?_; simp only [basL, Nat.reduceAdd])
      | (refine abs_freeze 3 _ _ rfl rfl ?_; simp only [basL, Nat.reduceAdd])
      | refine abs_seq ?_
      | refine abs_block ?_
      | refine abs_skip ?_
      | refine abs_exit ?_
      | refine abs_ret ?_
      | ((first | refine abs_region fun K hK => ?_ | refine abs_draw Try.ty.mixed (by kernel_rfl) fun K hK => ?_ | refine abs_if ?_); simp only [go_sem, bas, basL, Nat.reduceAdd, Nat.reduceSub, Nat.reduceMul, Nat.reduceLT, Nat.reduceLeDiff, Nat.reduceEqDiff, Nat.reduceBEq, Int.reduceLT, Int.reduceLE, Int.reduceToNat, Int.reduceAdd, Int.reduceSub, Int.reduceMul, Int.reduceNeg, Int.reduceEq, reduceCtorEq, eq_self, ne_eq, not_false_eq_true, if_true, reduceIte])
      | (refine hK _ ?_; clear hK K; simp only [thenQ, blockQ, if_true, Nat.reduceEqDiff, reduceIte])
      | (show thenQ _ _ _ _; simp only [thenQ, blockQ, if_true, Nat.reduceEqDiff, reduceIte])
      | (show blockQ _ _ _ _; simp only [thenQ, blockQ, if_true, Nat.reduceEqDiff, reduceIte])
      | (refine ⟨(⟨true, false, 4, wf c.toNat⟩ : Memo), ?_⟩)
      | ((first | refine callK (stms_ok _ _) ?_ | refine callK (best1_ok (stm c.toNat 1) 102 _ 110 [.ro [i64 c, ints W, intss S], .ro [.clo 109 [.ro [.memo ⟨true, false, 4, wf c.toNat⟩]]], .ro [i64 dist]] (fun p => daySum S dist p S.length) ⟨fun _ _ => rfl, fun _ _ => rfl⟩ ⟨fun _ _ => rfl, fun _ _ => rfl⟩ q5 (stm_ne (by decide)) q6) ?_); try simp only [go_sem, bas, basL, Nat.reduceAdd, Nat.reduceSub, Nat.reduceMul, Nat.reduceLT, Nat.reduceLeDiff, Nat.reduceEqDiff, Nat.reduceBEq, Int.reduceLT, Int.reduceLE, Int.reduceToNat, Int.reduceAdd, Int.reduceSub, Int.reduceMul, Int.reduceNeg, Int.reduceEq, reduceCtorEq, eq_self, ne_eq, not_false_eq_true, if_true, reduceIte])
      | (show retQ _ _ _ _ _; simp only [go_sem, bas, basL, Nat.reduceAdd, Nat.reduceSub, Nat.reduceMul, Nat.reduceLT, Nat.reduceLeDiff, Nat.reduceEqDiff, Nat.reduceBEq, Int.reduceLT, Int.reduceLE, Int.reduceToNat, Int.reduceAdd, Int.reduceSub, Int.reduceMul, Int.reduceNeg, Int.reduceEq, reduceCtorEq, eq_self, ne_eq, not_false_eq_true, if_true, reduceIte])
      | (intro hg; first | (exfalso; omega) | (exfalso; contradiction) | skip)
      | apply And.intro
      | (with_reducible rfl)
      | (clear hK; omega)
      | omega)
  all_goals skip
end Go.Proofs.Ythamljpomhjepaa
