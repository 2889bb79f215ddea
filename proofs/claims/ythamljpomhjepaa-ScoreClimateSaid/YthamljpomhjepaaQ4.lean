import Derived.Test.YthamljpomhjepaaQ3
import Derived.Test.YthamljpomhjepaaQ1
import Derived.Test.YthamljpomhjepaaAbU
set_option linter.unusedVariables false
set_option linter.unusedSimpArgs false
namespace Go.Proofs.Ythamljpomhjepaa
open Go.Ab
attribute [local irreducible] Abs CallK CallR CallsTo

set_option maxRecDepth 100000 in
set_option maxHeartbeats 4000000 in
theorem rtotal_at (c : Int) (W : List Int) (S : List (List Int)) (f : List (List (List Int))) (L H : Nat → Nat → Int) (hs : Suite c W S) (hf : Fore c W S f)
    (hq : ∀ i k, i < S.length → k < W.length → CallsTo Try.prog 87 [i64 (nth (nth S i) k), ints (nth (nth f i) k), ints []] (.agg [i64 (L i k), i64 (H i k)]))
    (hb : ∀ i k, i < S.length → k < W.length → (-50000 ≤ L i k ∧ L i k ≤ 50000) ∧ -50000 ≤ H i k ∧ H i k ≤ 50000) :
    CallsTo Try.prog 67 [.agg [i64 c, ints W, intss S], intsss f] (.agg [i64 (tS (fun i k => nth W k * L i k) W.length S.length), i64 (tS (fun i k => nth W k * H i k) W.length S.length)]) := by
  have hW := hs.2.1.2
  have hS := hs.2.2.1
  have hw := hs.2.2.2.1
  have hrow := hs.2.2.2.2
  have hfl := hf.1
  have hfr := hf.2
  have bL : Bd W.length S.length (fun i k => nth W k * L i k) := fun i k hi hk => by
    have h1 := hw k hk
    have h2 := (hb i k hi hk).1
    have := mul_abs (b := L i k) (B := 50000) h1.1 h1.2 h2.1 h2.2
    simp only; omega
  have bH : Bd W.length S.length (fun i k => nth W k * H i k) := fun i k hi hk => by
    have h1 := hw k hk
    have h2 := (hb i k hi hk).2
    have := mul_abs (b := H i k) (B := 50000) h1.1 h1.2 h2.1 h2.2
    simp only; omega
  refine calls_abs Try.func67 Try.ntmps67 Try.results67 Try.call67 rfl (by simp) fun w0 S0 M0 => ?_
  repeat' (first
      | refine abs_seq ?_
      | refine abs_block ?_
      | refine abs_skip ?_
      | refine abs_exit ?_
      | refine abs_ret ?_
      | ((first | refine abs_region fun K hK => ?_ | refine abs_draw Try.ty.mixed (by kernel_rfl) fun K hK => ?_ | refine abs_if ?_ | show retQ _ _ _ _ _); simp -implicitDefEqProofs only [go_sem, bas, basL, Nat.reduceAdd, Nat.reduceSub, Nat.reduceMul, Nat.reduceLT, Nat.reduceLeDiff, Nat.reduceEqDiff, Nat.reduceBEq, Int.reduceLT, Int.reduceLE, Int.reduceToNat, Int.reduceAdd, Int.reduceSub, Int.reduceMul, Int.reduceNeg, Int.reduceEq, reduceCtorEq, eq_self, ne_eq, not_false_eq_true, if_true, reduceIte])
      | ((first | (refine hK _ ?_; clear hK K) | show thenQ _ _ _ _ | show blockQ _ _ _ _); simp only [thenQ, blockQ, if_true, Nat.reduceEqDiff, reduceIte])
      | (intro hg; first | (exfalso; omega) | (exfalso; contradiction) | skip)
      | apply And.intro
      | (with_reducible rfl)
      | (clear hK; omega)
      | omega)
  refine abs_loopN (ι := Nat) (fun i => [(1, intsss f), (2, .box 0 0), (4, .box 1 0), (5, .box 2 0), (6, i64 i)]) (fun i => [.mu [i64 c, ints W, intss S], .mu [i64 0, i64 0], .mu [i64 (sumTo (fun i => sumTo (fun k => nth W k * L i k) W.length) i), i64 (sumTo (fun i => sumTo (fun k => nth W k * H i k) W.length) i)]]) (fun _ => [])
    (fun i => i ≤ S.length) (fun i => S.length - i) (fun _ _ => ⟨rfl, rfl⟩) 0 (Nat.zero_le _) (le_of rfl (by try simp -implicitDefEqProofs only [go_sem, bas, basL, Nat.reduceAdd, Nat.reduceSub, Nat.reduceMul, Nat.reduceLT, Nat.reduceLeDiff, Nat.reduceEqDiff, Nat.reduceBEq, Int.reduceLT, Int.reduceLE, Int.reduceToNat, Int.reduceAdd, Int.reduceSub, Int.reduceMul, Int.reduceNeg, Int.reduceEq, reduceCtorEq, eq_self, ne_eq, not_false_eq_true, if_true, reduceIte]; try simp) ⟨[], by simp [sumTo]⟩ ⟨_, rfl⟩) (fun i hi => ?_)
  have a1 := tsum_bd W.length S.length _ hW hS bL i hi
  have a2 := tsum_bd W.length S.length _ hW hS bH i hi
  have r1 : i < S.length → (nth f i).length = W.length ∧ (nth S i).length = W.length := fun h => ⟨(hfr i (by omega)).1, (hrow i h).1⟩
  simp -implicitDefEqProofs only [go_sem, bas, basL, Nat.reduceAdd, Nat.reduceSub, Nat.reduceMul, Nat.reduceLT, Nat.reduceLeDiff, Nat.reduceEqDiff, Nat.reduceBEq, Int.reduceLT, Int.reduceLE, Int.reduceToNat, Int.reduceAdd, Int.reduceSub, Int.reduceMul, Int.reduceNeg, Int.reduceEq, reduceCtorEq, eq_self, ne_eq, not_false_eq_true, if_true, reduceIte]
  repeat' (first
      | refine abs_seq ?_
      | refine abs_block ?_
      | refine abs_skip ?_
      | refine abs_exit ?_
      | refine abs_ret ?_
      | ((first | refine abs_region fun K hK => ?_ | refine abs_draw Try.ty.mixed (by kernel_rfl) fun K hK => ?_ | refine abs_if ?_ | show retQ _ _ _ _ _); simp -implicitDefEqProofs only [go_sem, bas, basL, Nat.reduceAdd, Nat.reduceSub, Nat.reduceMul, Nat.reduceLT, Nat.reduceLeDiff, Nat.reduceEqDiff, Nat.reduceBEq, Int.reduceLT, Int.reduceLE, Int.reduceToNat, Int.reduceAdd, Int.reduceSub, Int.reduceMul, Int.reduceNeg, Int.reduceEq, reduceCtorEq, eq_self, ne_eq, not_false_eq_true, if_true, reduceIte])
      | ((first | (refine hK _ ?_; clear hK K) | show thenQ _ _ _ _ | show blockQ _ _ _ _); simp only [thenQ, blockQ, if_true, Nat.reduceEqDiff, reduceIte])
      | (intro hg; first | (exfalso; omega) | (exfalso; contradiction) | skip)
      | apply And.intro
      | (with_reducible rfl)
      | (clear hK; omega)
      | omega)
  · obtain ⟨r1, r2⟩ := r1 (by omega)
    refine abs_loopN (ι := Nat) (fun k => [(1, intsss f), (2, .box 0 0), (4, .box 1 0), (5, .box 2 0), (6, i64 i), (7, i64 k)]) (fun k => [.mu [i64 c, ints W, intss S], .mu [i64 0, i64 0], .mu [i64 (sumTo (fun i => sumTo (fun k => nth W k * L i k) W.length) i + sumTo (fun k => nth W k * L i k) k), i64 (sumTo (fun i => sumTo (fun k => nth W k * H i k) W.length) i + sumTo (fun k => nth W k * H i k) k)]]) (fun _ => [])
      (fun k => k ≤ W.length) (fun k => W.length - k) (fun _ _ => ⟨rfl, rfl⟩) 0 (Nat.zero_le _) (le_of rfl (by try simp -implicitDefEqProofs only [go_sem, bas, basL, Nat.reduceAdd, Nat.reduceSub, Nat.reduceMul, Nat.reduceLT, Nat.reduceLeDiff, Nat.reduceEqDiff, Nat.reduceBEq, Int.reduceLT, Int.reduceLE, Int.reduceToNat, Int.reduceAdd, Int.reduceSub, Int.reduceMul, Int.reduceNeg, Int.reduceEq, reduceCtorEq, eq_self, ne_eq, not_false_eq_true, if_true, reduceIte]; try simp) ⟨[], by simp [sumTo]⟩ ⟨_, rfl⟩) (fun k hk => ?_)
    have a3 := dsum_bd W.length S.length _ hW bL i (by omega) k hk
    have a4 := dsum_bd W.length S.length _ hW bH i (by omega) k hk
    have a5 : k < W.length → -5000000 ≤ nth W k * L i k ∧ nth W k * L i k ≤ 5000000 := fun h => bL i k (by omega) h
    have a6 : k < W.length → -5000000 ≤ nth W k * H i k ∧ nth W k * H i k ≤ 5000000 := fun h => bH i k (by omega) h
    simp -implicitDefEqProofs only [go_sem, bas, basL, Nat.reduceAdd, Nat.reduceSub, Nat.reduceMul, Nat.reduceLT, Nat.reduceLeDiff, Nat.reduceEqDiff, Nat.reduceBEq, Int.reduceLT, Int.reduceLE, Int.reduceToNat, Int.reduceAdd, Int.reduceSub, Int.reduceMul, Int.reduceNeg, Int.reduceEq, reduceCtorEq, eq_self, ne_eq, not_false_eq_true, if_true, reduceIte]
    repeat' (first
        | refine abs_seq ?_
        | refine abs_block ?_
        | refine abs_skip ?_
        | refine abs_exit ?_
        | refine abs_ret ?_
        | ((first | (show Abs _ (.region 8 _ true) _ _; refine abs_drawD [(25, 8), (28, 8), (31, 8), (35, 8), (38, 8), (41, 8), (44, 8)] Try.ty.mixed (by kernel_rfl) fun K hK => ?_) | show Sep _ _ | refine abs_region fun K hK => ?_ | refine abs_draw Try.ty.mixed (by kernel_rfl) fun K hK => ?_ | refine abs_if ?_ | show retQ _ _ _ _ _ | refine callK (hq i k (by omega) (by omega)) ?_); simp -implicitDefEqProofs only [go_sem, bas, basL, Nat.reduceAdd, Nat.reduceSub, Nat.reduceMul, Nat.reduceLT, Nat.reduceLeDiff, Nat.reduceEqDiff, Nat.reduceBEq, Int.reduceLT, Int.reduceLE, Int.reduceToNat, Int.reduceAdd, Int.reduceSub, Int.reduceMul, Int.reduceNeg, Int.reduceEq, reduceCtorEq, eq_self, ne_eq, not_false_eq_true, if_true, reduceIte])
        | ((first | (refine hK _ ?_; clear hK K) | show thenQ _ _ _ _ | show blockQ _ _ _ _); simp only [thenQ, blockQ, if_true, Nat.reduceEqDiff, reduceIte])
        | (intro hg; first | (exfalso; omega) | (exfalso; contradiction) | skip)
        | apply And.intro
        | (with_reducible rfl)
        | (clear hK; omega)
        | omega)
    · exact ⟨k + 1, by omega, by omega, le_of rfl (by try simp -implicitDefEqProofs only [go_sem, bas, basL, Nat.reduceAdd, Nat.reduceSub, Nat.reduceMul, Nat.reduceLT, Nat.reduceLeDiff, Nat.reduceEqDiff, Nat.reduceBEq, Int.reduceLT, Int.reduceLE, Int.reduceToNat, Int.reduceAdd, Int.reduceSub, Int.reduceMul, Int.reduceNeg, Int.reduceEq, reduceCtorEq, eq_self, ne_eq, not_false_eq_true, if_true, reduceIte]; try simp) ⟨_, by simp [sumTo, Int.add_assoc]; rfl⟩ ⟨_, rfl⟩⟩
    · obtain rfl : k = W.length := by omega
      exact ⟨i + 1, by omega, by omega, le_of rfl (by try simp -implicitDefEqProofs only [go_sem, bas, basL, Nat.reduceAdd, Nat.reduceSub, Nat.reduceMul, Nat.reduceLT, Nat.reduceLeDiff, Nat.reduceEqDiff, Nat.reduceBEq, Int.reduceLT, Int.reduceLE, Int.reduceToNat, Int.reduceAdd, Int.reduceSub, Int.reduceMul, Int.reduceNeg, Int.reduceEq, reduceCtorEq, eq_self, ne_eq, not_false_eq_true, if_true, reduceIte]; try simp) ⟨_, by simp [sumTo]; rfl⟩ ⟨_, rfl⟩⟩
  · obtain rfl : i = S.length := by omega
    rfl

set_option maxRecDepth 100000 in
set_option maxHeartbeats 4000000 in
theorem rdiffer_at (c : Int) (W : List Int) (S : List (List Int)) (f g : List (List (List Int))) (L H : Nat → Nat → Int) (hs : Suite c W S) (hf : Fore c W S f) (hg0 : Fore c W S g)
    (hq : ∀ i k, i < S.length → k < W.length → CallsTo Try.prog 87 [i64 (nth (nth S i) k), ints (nth (nth f i) k), ints (nth (nth g i) k)] (.agg [i64 (L i k), i64 (H i k)]))
    (hb : ∀ i k, i < S.length → k < W.length → (-50000 ≤ L i k ∧ L i k ≤ 50000) ∧ -50000 ≤ H i k ∧ H i k ≤ 50000) :
    CallsTo Try.prog 39 [.agg [i64 c, ints W, intss S], intsss f, intsss g] (.agg [i64 (tS (fun i k => nth W k * L i k) W.length S.length), i64 (tS (fun i k => nth W k * H i k) W.length S.length)]) := by
  have hW := hs.2.1.2
  have hS := hs.2.2.1
  have hw := hs.2.2.2.1
  have hrow := hs.2.2.2.2
  have hfl := hf.1
  have hfr := hf.2
  have hgl := hg0.1
  have hgr := hg0.2
  have bL : Bd W.length S.length (fun i k => nth W k * L i k) := fun i k hi hk => by
    have h1 := hw k hk
    have h2 := (hb i k hi hk).1
    have := mul_abs (b := L i k) (B := 50000) h1.1 h1.2 h2.1 h2.2
    simp only; omega
  have bH : Bd W.length S.length (fun i k => nth W k * H i k) := fun i k hi hk => by
    have h1 := hw k hk
    have h2 := (hb i k hi hk).2
    have := mul_abs (b := H i k) (B := 50000) h1.1 h1.2 h2.1 h2.2
    simp only; omega
  refine calls_abs Try.func39 Try.ntmps39 Try.results39 Try.call39 rfl (by simp) fun w0 S0 M0 => ?_
  repeat' (first
      | refine abs_seq ?_
      | refine abs_block ?_
      | refine abs_skip ?_
      | refine abs_exit ?_
      | refine abs_ret ?_
      | ((first | refine abs_region fun K hK => ?_ | refine abs_draw Try.ty.mixed (by kernel_rfl) fun K hK => ?_ | refine abs_if ?_ | show retQ _ _ _ _ _); simp -implicitDefEqProofs only [go_sem, bas, basL, Nat.reduceAdd, Nat.reduceSub, Nat.reduceMul, Nat.reduceLT, Nat.reduceLeDiff, Nat.reduceEqDiff, Nat.reduceBEq, Int.reduceLT, Int.reduceLE, Int.reduceToNat, Int.reduceAdd, Int.reduceSub, Int.reduceMul, Int.reduceNeg, Int.reduceEq, reduceCtorEq, eq_self, ne_eq, not_false_eq_true, if_true, reduceIte])
      | ((first | (refine hK _ ?_; clear hK K) | show thenQ _ _ _ _ | show blockQ _ _ _ _); simp only [thenQ, blockQ, if_true, Nat.reduceEqDiff, reduceIte])
      | (intro hg; first | (exfalso; omega) | (exfalso; contradiction) | skip)
      | apply And.intro
      | (with_reducible rfl)
      | (clear hK; omega)
      | omega)
  refine abs_loopN (ι := Nat) (fun i => [(1, intsss f), (2, intsss g), (3, .box 0 0), (6, .box 1 0), (7, .box 2 0), (8, i64 i)]) (fun i => [.mu [i64 c, ints W, intss S], .mu [i64 0, i64 0], .mu [i64 (sumTo (fun i => sumTo (fun k => nth W k * L i k) W.length) i), i64 (sumTo (fun i => sumTo (fun k => nth W k * H i k) W.length) i)]]) (fun _ => [])
    (fun i => i ≤ S.length) (fun i => S.length - i) (fun _ _ => ⟨rfl, rfl⟩) 0 (Nat.zero_le _) (le_of rfl (by try simp -implicitDefEqProofs only [go_sem, bas, basL, Nat.reduceAdd, Nat.reduceSub, Nat.reduceMul, Nat.reduceLT, Nat.reduceLeDiff, Nat.reduceEqDiff, Nat.reduceBEq, Int.reduceLT, Int.reduceLE, Int.reduceToNat, Int.reduceAdd, Int.reduceSub, Int.reduceMul, Int.reduceNeg, Int.reduceEq, reduceCtorEq, eq_self, ne_eq, not_false_eq_true, if_true, reduceIte]; try simp) ⟨[], by simp [sumTo]⟩ ⟨_, rfl⟩) (fun i hi => ?_)
  have a1 := tsum_bd W.length S.length _ hW hS bL i hi
  have a2 := tsum_bd W.length S.length _ hW hS bH i hi
  have r1 : i < S.length → (nth f i).length = W.length ∧ (nth S i).length = W.length ∧ (nth g i).length = W.length := fun h => ⟨(hfr i (by omega)).1, (hrow i h).1, (hgr i (by omega)).1⟩
  simp -implicitDefEqProofs only [go_sem, bas, basL, Nat.reduceAdd, Nat.reduceSub, Nat.reduceMul, Nat.reduceLT, Nat.reduceLeDiff, Nat.reduceEqDiff, Nat.reduceBEq, Int.reduceLT, Int.reduceLE, Int.reduceToNat, Int.reduceAdd, Int.reduceSub, Int.reduceMul, Int.reduceNeg, Int.reduceEq, reduceCtorEq, eq_self, ne_eq, not_false_eq_true, if_true, reduceIte]
  repeat' (first
      | refine abs_seq ?_
      | refine abs_block ?_
      | refine abs_skip ?_
      | refine abs_exit ?_
      | refine abs_ret ?_
      | ((first | refine abs_region fun K hK => ?_ | refine abs_draw Try.ty.mixed (by kernel_rfl) fun K hK => ?_ | refine abs_if ?_ | show retQ _ _ _ _ _); simp -implicitDefEqProofs only [go_sem, bas, basL, Nat.reduceAdd, Nat.reduceSub, Nat.reduceMul, Nat.reduceLT, Nat.reduceLeDiff, Nat.reduceEqDiff, Nat.reduceBEq, Int.reduceLT, Int.reduceLE, Int.reduceToNat, Int.reduceAdd, Int.reduceSub, Int.reduceMul, Int.reduceNeg, Int.reduceEq, reduceCtorEq, eq_self, ne_eq, not_false_eq_true, if_true, reduceIte])
      | ((first | (refine hK _ ?_; clear hK K) | show thenQ _ _ _ _ | show blockQ _ _ _ _); simp only [thenQ, blockQ, if_true, Nat.reduceEqDiff, reduceIte])
      | (intro hg; first | (exfalso; omega) | (exfalso; contradiction) | skip)
      | apply And.intro
      | (with_reducible rfl)
      | (clear hK; omega)
      | omega)
  · obtain ⟨r1, r2, r3⟩ := r1 (by omega)
    refine abs_loopN (ι := Nat) (fun k => [(1, intsss f), (2, intsss g), (3, .box 0 0), (6, .box 1 0), (7, .box 2 0), (8, i64 i), (9, i64 k)]) (fun k => [.mu [i64 c, ints W, intss S], .mu [i64 0, i64 0], .mu [i64 (sumTo (fun i => sumTo (fun k => nth W k * L i k) W.length) i + sumTo (fun k => nth W k * L i k) k), i64 (sumTo (fun i => sumTo (fun k => nth W k * H i k) W.length) i + sumTo (fun k => nth W k * H i k) k)]]) (fun _ => [])
      (fun k => k ≤ W.length) (fun k => W.length - k) (fun _ _ => ⟨rfl, rfl⟩) 0 (Nat.zero_le _) (le_of rfl (by try simp -implicitDefEqProofs only [go_sem, bas, basL, Nat.reduceAdd, Nat.reduceSub, Nat.reduceMul, Nat.reduceLT, Nat.reduceLeDiff, Nat.reduceEqDiff, Nat.reduceBEq, Int.reduceLT, Int.reduceLE, Int.reduceToNat, Int.reduceAdd, Int.reduceSub, Int.reduceMul, Int.reduceNeg, Int.reduceEq, reduceCtorEq, eq_self, ne_eq, not_false_eq_true, if_true, reduceIte]; try simp) ⟨[], by simp [sumTo]⟩ ⟨_, rfl⟩) (fun k hk => ?_)
    have a3 := dsum_bd W.length S.length _ hW bL i (by omega) k hk
    have a4 := dsum_bd W.length S.length _ hW bH i (by omega) k hk
    have a5 : k < W.length → -5000000 ≤ nth W k * L i k ∧ nth W k * L i k ≤ 5000000 := fun h => bL i k (by omega) h
    have a6 : k < W.length → -5000000 ≤ nth W k * H i k ∧ nth W k * H i k ≤ 5000000 := fun h => bH i k (by omega) h
    simp -implicitDefEqProofs only [go_sem, bas, basL, Nat.reduceAdd, Nat.reduceSub, Nat.reduceMul, Nat.reduceLT, Nat.reduceLeDiff, Nat.reduceEqDiff, Nat.reduceBEq, Int.reduceLT, Int.reduceLE, Int.reduceToNat, Int.reduceAdd, Int.reduceSub, Int.reduceMul, Int.reduceNeg, Int.reduceEq, reduceCtorEq, eq_self, ne_eq, not_false_eq_true, if_true, reduceIte]
    repeat' (first
        | refine abs_seq ?_
        | refine abs_block ?_
        | refine abs_skip ?_
        | refine abs_exit ?_
        | refine abs_ret ?_
        | ((first | (show Abs _ (.region 8 _ true) _ _; refine abs_drawD [(27, 10), (30, 10), (33, 10), (37, 10), (40, 10), (44, 10), (47, 10), (50, 10), (53, 10)] Try.ty.mixed (by kernel_rfl) fun K hK => ?_) | show Sep _ _ | refine abs_region fun K hK => ?_ | refine abs_draw Try.ty.mixed (by kernel_rfl) fun K hK => ?_ | refine abs_if ?_ | show retQ _ _ _ _ _ | refine callK (hq i k (by omega) (by omega)) ?_); simp -implicitDefEqProofs only [go_sem, bas, basL, Nat.reduceAdd, Nat.reduceSub, Nat.reduceMul, Nat.reduceLT, Nat.reduceLeDiff, Nat.reduceEqDiff, Nat.reduceBEq, Int.reduceLT, Int.reduceLE, Int.reduceToNat, Int.reduceAdd, Int.reduceSub, Int.reduceMul, Int.reduceNeg, Int.reduceEq, reduceCtorEq, eq_self, ne_eq, not_false_eq_true, if_true, reduceIte])
        | ((first | (refine hK _ ?_; clear hK K) | show thenQ _ _ _ _ | show blockQ _ _ _ _); simp only [thenQ, blockQ, if_true, Nat.reduceEqDiff, reduceIte])
        | (intro hg; first | (exfalso; omega) | (exfalso; contradiction) | skip)
        | apply And.intro
        | (with_reducible rfl)
        | (clear hK; omega)
        | omega)
    · exact ⟨k + 1, by omega, by omega, le_of rfl (by try simp -implicitDefEqProofs only [go_sem, bas, basL, Nat.reduceAdd, Nat.reduceSub, Nat.reduceMul, Nat.reduceLT, Nat.reduceLeDiff, Nat.reduceEqDiff, Nat.reduceBEq, Int.reduceLT, Int.reduceLE, Int.reduceToNat, Int.reduceAdd, Int.reduceSub, Int.reduceMul, Int.reduceNeg, Int.reduceEq, reduceCtorEq, eq_self, ne_eq, not_false_eq_true, if_true, reduceIte]; try simp) ⟨_, by simp [sumTo, Int.add_assoc]; rfl⟩ ⟨_, rfl⟩⟩
    · obtain rfl : k = W.length := by omega
      exact ⟨i + 1, by omega, by omega, le_of rfl (by try simp -implicitDefEqProofs only [go_sem, bas, basL, Nat.reduceAdd, Nat.reduceSub, Nat.reduceMul, Nat.reduceLT, Nat.reduceLeDiff, Nat.reduceEqDiff, Nat.reduceBEq, Int.reduceLT, Int.reduceLE, Int.reduceToNat, Int.reduceAdd, Int.reduceSub, Int.reduceMul, Int.reduceNeg, Int.reduceEq, reduceCtorEq, eq_self, ne_eq, not_false_eq_true, if_true, reduceIte]; try simp) ⟨_, by simp [sumTo]; rfl⟩ ⟨_, rfl⟩⟩
  · obtain rfl : i = S.length := by omega
    rfl

theorem more_sd {x : Sd} (h : x.Ok) {i k : Nat} (hi : i < x.S.length) (hk : k < x.W.length) : CallsTo Try.prog 87 [i64 (nth (nth x.S i) k), ints (nth (nth x.own i) k), ints (othL x.oth i k)] (.agg [i64 (sdL x i k), i64 (sdH x i k)]) := by
  have h1 := h.su.2.2.2.2 i hi
  have h2 := h1.2 k (by omega)
  have h8 : (2 : Int) ^ x.c.toNat - 1 ≤ 1000 := by
    obtain ⟨m, e, h3⟩ := pow_c h.su.1
    omega
  have o := sd_oth h hi hk
  have w := sd_own h hi hk
  exact more_ok _ _ _ (by omega) w.1.small o.1 (by omega)
theorem sd_bd {x : Sd} (h : x.Ok) {i k : Nat} (hi : i < x.S.length) (hk : k < x.W.length) : (-50000 ≤ sdL x i k ∧ sdL x i k ≤ 50000) ∧ -50000 ≤ sdH x i k ∧ sdH x i k ≤ 50000 :=
  mr_bd (sd_own h hi hk).1.small (sd_oth h hi hk).1 _
theorem rtotal_ok (c : Int) (W : List Int) (S : List (List Int)) (f : List (List (List Int))) (hs : Suite c W S) (hf : Fore c W S f) :
    CallsTo Try.prog 67 [.agg [i64 c, ints W, intss S], intsss f] (.agg [i64 (Sd.tlo ⟨c, W, S, f, none⟩), i64 (Sd.thi ⟨c, W, S, f, none⟩)]) := by
  have h : Sd.Ok ⟨c, W, S, f, none⟩ := ⟨hs, hf, fun _ h => by cases h⟩
  rw [(tlo_eq h).1, (tlo_eq h).2]
  exact rtotal_at c W S f _ _ hs hf (fun i k hi hk => more_sd h hi hk) (fun i k hi hk => sd_bd h hi hk)
theorem rdiffer_ok (c : Int) (W : List Int) (S : List (List Int)) (f g : List (List (List Int))) (hs : Suite c W S) (hf : Fore c W S f) (hg : Fore c W S g) :
    CallsTo Try.prog 39 [.agg [i64 c, ints W, intss S], intsss f, intsss g] (.agg [i64 (Sd.tlo ⟨c, W, S, f, some g⟩), i64 (Sd.thi ⟨c, W, S, f, some g⟩)]) := by
  have h : Sd.Ok ⟨c, W, S, f, some g⟩ := ⟨hs, hf, fun _ h => by cases h; exact hg⟩
  rw [(tlo_eq h).1, (tlo_eq h).2]
  exact rdiffer_at c W S f g _ _ hs hf hg (fun i k hi hk => more_sd h hi hk) (fun i k hi hk => sd_bd h hi hk)
set_option maxRecDepth 100000 in
set_option maxHeartbeats 4000000 in
theorem rbeats_ok (c : Int) (W : List Int) (S : List (List Int)) (f g : List (List (List Int))) (hs : Suite c W S) (hf : Fore c W S f) (hg0 : Fore c W S g) :
    CallsTo Try.prog 68 [.agg [i64 c, ints W, intss S], intsss f, intsss g] (i64 (beatsW (Sd.tlo ⟨c, W, S, f, some g⟩) (Sd.thi ⟨c, W, S, f, some g⟩))) := by
  have q := rdiffer_ok c W S f g hs hf hg0
  generalize Sd.tlo ⟨c, W, S, f, some g⟩ = lo at *
  generalize Sd.thi ⟨c, W, S, f, some g⟩ = hi at *
  refine calls_abs Try.func68 Try.ntmps68 Try.results68 Try.call68 rfl (by simp) fun w0 S0 M0 => ?_
  repeat' (first
      | refine abs_seq ?_
      | refine abs_block ?_
      | refine abs_skip ?_
      | refine abs_exit ?_
      | refine abs_ret ?_
      | ((first | refine abs_region fun K hK => ?_ | refine abs_draw Try.ty.mixed (by kernel_rfl) fun K hK => ?_ | refine abs_if ?_ | show retQ _ _ _ _ _ | refine callK (q) ?_); simp -implicitDefEqProofs only [go_sem, bas, basL, Nat.reduceAdd, Nat.reduceSub, Nat.reduceMul, Nat.reduceLT, Nat.reduceLeDiff, Nat.reduceEqDiff, Nat.reduceBEq, Int.reduceLT, Int.reduceLE, Int.reduceToNat, Int.reduceAdd, Int.reduceSub, Int.reduceMul, Int.reduceNeg, Int.reduceEq, reduceCtorEq, eq_self, ne_eq, not_false_eq_true, if_true, reduceIte])
      | ((first | (refine hK _ ?_; clear hK K) | show thenQ _ _ _ _ | show blockQ _ _ _ _); simp only [thenQ, blockQ, if_true, Nat.reduceEqDiff, reduceIte])
      | (intro hg; first | (exfalso; omega) | (exfalso; contradiction) | skip)
      | apply And.intro
      | (with_reducible rfl)
      | (clear hK; omega)
      | omega)
  · rw [show beatsW lo hi = 3 from if_pos hg]
  · rw [show beatsW lo hi = 2 by unfold beatsW; rw [if_neg (by assumption), if_pos hg]]
  · rw [show beatsW lo hi = 1 by unfold beatsW; rw [if_neg (by assumption), if_neg hg]]
end Go.Proofs.Ythamljpomhjepaa
