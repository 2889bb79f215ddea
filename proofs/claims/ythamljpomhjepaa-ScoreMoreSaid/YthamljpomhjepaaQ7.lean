import Derived.Test.YthamljpomhjepaaQ3
import Derived.Test.YthamljpomhjepaaQ1
set_option linter.unusedVariables false
set_option linter.unusedSimpArgs false
namespace Go.Proofs.Ythamljpomhjepaa
open Go.Ab
attribute [local irreducible] Abs CallK CallR CallsTo

/-- A class that can have come, for each day and each district. -/
def Tru (c : Int) (W : List Int) (S : List (List Int)) (t : List (List Int)) : Prop := t.length = S.length ∧ ∀ i, i < t.length → (nth t i).length = W.length ∧
  ∀ k, k < (nth t i).length → (0 ≤ nth (nth t i) k ∧ nth (nth t i) k < c) ∧ hasB (nth (nth S i) k) (nth (nth t i) k).toNat = true
instance (c : Int) (W : List Int) (S : List (List Int)) (t : List (List Int)) : Decidable (Tru c W S t) := by unfold Tru; infer_instance

theorem set_bd {c : Int} {W : List Int} {S : List (List Int)} (hs : Suite c W S) {i k : Nat} (hi : i < S.length) (hk : k < W.length) : (1 ≤ nth (nth S i) k ∧ nth (nth S i) k ≤ 1000) ∧ k < (nth S i).length := by
  have h1 := hs.2.2.2.2 i hi
  have h2 := h1.2 k (by omega)
  obtain ⟨m, e, h3⟩ := pow_c hs.1
  omega

set_option maxRecDepth 100000 in
set_option maxHeartbeats 4000000 in
theorem truth_ok (c : Int) (W : List Int) (S : List (List Int)) (t : List (List Int)) (hs : Suite c W S) (ht : t.length ≤ 1000000) : CallsTo Try.prog 41 [.agg [i64 c, ints W, intss S], intss t] (.bool (decide (Tru c W S t))) := by
  have hc := hs.1
  have hW := hs.2.1.2
  have hS := hs.2.2.1
  have hb0 := fun {i k} => set_bd hs (i := i) (k := k)
  refine calls_abs Try.func41 Try.ntmps41 Try.results41 Try.call41 rfl (by simp) fun w0 S0 M0 => ?_
  repeat' (first
      | refine abs_seq ?_
      | refine abs_block ?_
      | refine abs_skip ?_
      | refine abs_exit ?_
      | refine abs_ret ?_
      | ((first | refine abs_region fun K hK => ?_ | refine abs_draw Try.ty.mixed (by kernel_rfl) fun K hK => ?_ | refine abs_if ?_ | show retQ _ _ _ _ _); simp -implicitDefEqProofs only [go_sem, bas, basL, Nat.reduceAdd, Nat.reduceSub, Nat.reduceMul, Nat.reduceLT, Nat.reduceLeDiff, Nat.reduceEqDiff, Nat.reduceBEq, Int.reduceLT, Int.reduceLE, Int.reduceToNat, Int.reduceAdd, Int.reduceSub, Int.reduceMul, Int.reduceNeg, Int.reduceEq, reduceCtorEq, eq_self, ne_eq, not_false_eq_true, if_true, reduceIte])
      | ((first | (refine hK _ ?_; clear hK K) | show thenQ _ _ _ _ | show blockQ _ _ _ _); simp only [thenQ, blockQ, if_true, Nat.reduceEqDiff, reduceIte])
      | (intro hg; first | (exfalso; omega) | (exfalso; contradiction) | skip)
      | apply And.intro
      | (with_reducible rfl)
      | (clear hK; omega)
      | omega)
  · rw [decide_eq_false (fun h : Tru c W S t => by have := h.1; omega)]
  · refine abs_loopN (ι := Nat) (fun i => [(1, intss t), (2, .box 0 0), (5, i64 i)]) (fun _ => [.mu [i64 c, ints W, intss S]]) (fun _ => [])
      (fun i => i ≤ t.length ∧ ∀ a, a < i → (nth t a).length = W.length ∧ ∀ k, k < (nth t a).length → (0 ≤ nth (nth t a) k ∧ nth (nth t a) k < c) ∧ hasB (nth (nth S a) k) (nth (nth t a) k).toNat = true) (fun i => t.length - i) (fun _ _ => ⟨rfl, rfl⟩) 0 ⟨Nat.zero_le _, fun i h => absurd h (Nat.not_lt_zero i)⟩ (le_of rfl (by try simp -implicitDefEqProofs only [go_sem, bas, basL, Nat.reduceAdd, Nat.reduceSub, Nat.reduceMul, Nat.reduceLT, Nat.reduceLeDiff, Nat.reduceEqDiff, Nat.reduceBEq, Int.reduceLT, Int.reduceLE, Int.reduceToNat, Int.reduceAdd, Int.reduceSub, Int.reduceMul, Int.reduceNeg, Int.reduceEq, reduceCtorEq, eq_self, ne_eq, not_false_eq_true, if_true, reduceIte]; try simp) ⟨_, rfl⟩ ⟨_, rfl⟩) (fun i ⟨hi, hb⟩ => ?_)
    simp -implicitDefEqProofs only [go_sem, bas, basL, Nat.reduceAdd, Nat.reduceSub, Nat.reduceMul, Nat.reduceLT, Nat.reduceLeDiff, Nat.reduceEqDiff, Nat.reduceBEq, Int.reduceLT, Int.reduceLE, Int.reduceToNat, Int.reduceAdd, Int.reduceSub, Int.reduceMul, Int.reduceNeg, Int.reduceEq, reduceCtorEq, eq_self, ne_eq, not_false_eq_true, if_true, reduceIte]
    repeat' (first
        | refine abs_seq ?_
        | refine abs_block ?_
        | refine abs_skip ?_
        | refine abs_exit ?_
        | refine abs_ret ?_
        | ((first | refine abs_region fun K hK => ?_ | refine abs_draw Try.ty.mixed (by kernel_rfl) fun K hK => ?_ | refine abs_if ?_ | show retQ _ _ _ _ _); simp -implicitDefEqProofs only [go_sem, bas, basL, Nat.reduceAdd, Nat.reduceSub, Nat.reduceMul, Nat.reduceLT, Nat.reduceLeDiff, Nat.reduceEqDiff, Nat.reduceBEq, Int.reduceLT, Int.reduceLE, Int.reduceToNat, Int.reduceAdd, Int.reduceSub, Int.reduceMul, Int.reduceNeg, Int.reduceEq, reduceCtorEq, eq_self, ne_eq, not_false_eq_true, if_true, reduceIte])
        | ((first | (refine hK _ ?_; clear hK K) | show thenQ _ _ _ _ | show blockQ _ _ _ _); simp only [thenQ, blockQ, if_true, Nat.reduceEqDiff, reduceIte])
        | (intro hg; first | (exfalso; omega) | (exfalso; contradiction) | skip)
        | apply And.intro
        | (with_reducible rfl)
        | (clear hK; omega)
        | omega)
    · rw [decide_eq_false (fun h : Tru c W S t => by have := (h.2 i (by omega)).1; omega)]
    · refine abs_loopN (ι := Nat) (fun k => [(1, intss t), (2, .box 0 0), (5, i64 i), (6, i64 k)]) (fun _ => [.mu [i64 c, ints W, intss S]]) (fun _ => [])
        (fun k => k ≤ (nth t i).length ∧ ∀ b, b < k → (0 ≤ nth (nth t i) b ∧ nth (nth t i) b < c) ∧ hasB (nth (nth S i) b) (nth (nth t i) b).toNat = true) (fun k => (nth t i).length - k) (fun _ _ => ⟨rfl, rfl⟩) 0 ⟨Nat.zero_le _, fun i h => absurd h (Nat.not_lt_zero i)⟩ (le_of rfl (by try simp -implicitDefEqProofs only [go_sem, bas, basL, Nat.reduceAdd, Nat.reduceSub, Nat.reduceMul, Nat.reduceLT, Nat.reduceLeDiff, Nat.reduceEqDiff, Nat.reduceBEq, Int.reduceLT, Int.reduceLE, Int.reduceToNat, Int.reduceAdd, Int.reduceSub, Int.reduceMul, Int.reduceNeg, Int.reduceEq, reduceCtorEq, eq_self, ne_eq, not_false_eq_true, if_true, reduceIte]; try simp) ⟨_, rfl⟩ ⟨_, rfl⟩) (fun k ⟨hk, hd⟩ => ?_)
      have h7 : k < (nth t i).length → (1 ≤ nth (nth S i) k ∧ nth (nth S i) k ≤ 1000) ∧ k < (nth S i).length := fun h => hb0 (by omega) (by omega)
      simp -implicitDefEqProofs only [go_sem, bas, basL, Nat.reduceAdd, Nat.reduceSub, Nat.reduceMul, Nat.reduceLT, Nat.reduceLeDiff, Nat.reduceEqDiff, Nat.reduceBEq, Int.reduceLT, Int.reduceLE, Int.reduceToNat, Int.reduceAdd, Int.reduceSub, Int.reduceMul, Int.reduceNeg, Int.reduceEq, reduceCtorEq, eq_self, ne_eq, not_false_eq_true, if_true, reduceIte]
      repeat' (first
          | refine abs_seq ?_
          | refine abs_block ?_
          | refine abs_skip ?_
          | refine abs_exit ?_
          | refine abs_ret ?_
          | ((first | refine abs_region fun K hK => ?_ | refine abs_draw Try.ty.mixed (by kernel_rfl) fun K hK => ?_ | refine abs_if ?_ | show retQ _ _ _ _ _ | refine callK (has_ok (nth (nth S i) k) (nth (nth t i) k) (by omega) (by omega) (by omega) (by omega)) ?_); simp -implicitDefEqProofs only [go_sem, bas, basL, Nat.reduceAdd, Nat.reduceSub, Nat.reduceMul, Nat.reduceLT, Nat.reduceLeDiff, Nat.reduceEqDiff, Nat.reduceBEq, Int.reduceLT, Int.reduceLE, Int.reduceToNat, Int.reduceAdd, Int.reduceSub, Int.reduceMul, Int.reduceNeg, Int.reduceEq, reduceCtorEq, eq_self, ne_eq, not_false_eq_true, if_true, reduceIte])
          | ((first | (refine hK _ ?_; clear hK K) | show thenQ _ _ _ _ | show blockQ _ _ _ _); simp only [thenQ, blockQ, if_true, Nat.reduceEqDiff, reduceIte])
          | (intro hg; first | (exfalso; omega) | (exfalso; contradiction) | skip)
          | apply And.intro
          | (with_reducible rfl)
          | (clear hK; omega)
          | omega)
      all_goals first
        | (rw [decide_eq_false (fun h : Tru c W S t => by have h9 := (h.2 i (by omega)).2 k (by omega); first | omega | (rw [hg] at h9; exact absurd h9.2 (by decide)))]; done)
        | (refine ⟨k + 1, ⟨by omega, fun a h => ?_⟩, by omega, le_of rfl (by try simp -implicitDefEqProofs only [go_sem, bas, basL, Nat.reduceAdd, Nat.reduceSub, Nat.reduceMul, Nat.reduceLT, Nat.reduceLeDiff, Nat.reduceEqDiff, Nat.reduceBEq, Int.reduceLT, Int.reduceLE, Int.reduceToNat, Int.reduceAdd, Int.reduceSub, Int.reduceMul, Int.reduceNeg, Int.reduceEq, reduceCtorEq, eq_self, ne_eq, not_false_eq_true, if_true, reduceIte]; try simp) ⟨_, rfl⟩ ⟨_, rfl⟩⟩
           by_cases h9 : a = k
           · rw [h9]; exact ⟨by omega, by assumption⟩
           · exact hd a (by omega))
        | (refine ⟨i + 1, ⟨by omega, fun a h => ?_⟩, by omega, le_of rfl (by try simp -implicitDefEqProofs only [go_sem, bas, basL, Nat.reduceAdd, Nat.reduceSub, Nat.reduceMul, Nat.reduceLT, Nat.reduceLeDiff, Nat.reduceEqDiff, Nat.reduceBEq, Int.reduceLT, Int.reduceLE, Int.reduceToNat, Int.reduceAdd, Int.reduceSub, Int.reduceMul, Int.reduceNeg, Int.reduceEq, reduceCtorEq, eq_self, ne_eq, not_false_eq_true, if_true, reduceIte]; try simp) ⟨_, rfl⟩ ⟨_, rfl⟩⟩
           by_cases h9 : a = i
           · rw [h9]; exact ⟨by omega, fun b hb => hd b (by omega)⟩
           · exact hb a (by omega))
    · rw [decide_eq_true (show Tru c W S t from ⟨by omega, fun a ha => hb a (by omega)⟩)]

/-- The points of a forecast, if these classes came. -/
def gnd (W : List Int) (f : List (List (List Int))) (t : List (List Int)) (s : Nat) : Int := tS (fun i k => nth W k * Gn (nth (nth f i) k) (nth (nth t i) k).toNat) W.length s

theorem tru_at {c : Int} {W : List Int} {S : List (List Int)} {f : List (List (List Int))} {t : List (List Int)} (hf : Fore c W S f) (ht : Tru c W S t) {i k : Nat} (hi : i < S.length) (hk : k < W.length) :
    (Parts (nth (nth f i) k) ∧ k < (nth f i).length ∧ k < (nth t i).length) ∧ (0 ≤ nth (nth t i) k ∧ nth (nth t i) k < (nth (nth f i) k).length) ∧ hasB (nth (nth S i) k) (nth (nth t i) k).toNat = true := by
  have h1 := hf.2 i (by have := hf.1; omega)
  have h2 := h1.2 k (by omega)
  have h3 := ht.2 i (by have := ht.1; omega)
  have h4 := h3.2 k (by omega)
  exact ⟨⟨h2.2, by omega, by omega⟩, by omega, h4.2⟩

set_option maxRecDepth 100000 in
set_option maxHeartbeats 4000000 in
theorem gained_ok (c : Int) (W : List Int) (S : List (List Int)) (f : List (List (List Int))) (t : List (List Int)) (hs : Suite c W S) (hf : Fore c W S f) (ht : Tru c W S t) :
    CallsTo Try.prog 44 [.agg [i64 c, ints W, intss S], intsss f, intss t] (.tup [i64 (gnd W f t S.length), .bool true]) := by
  have hW := hs.2.1.2
  have hS := hs.2.2.1
  have hw := hs.2.2.2.1
  have hfl := hf.1
  have htl := ht.1
  have hat := fun {i k} => tru_at hf ht (i := i) (k := k)
  have hg10 : ∀ i k, i < S.length → k < W.length → -10000 ≤ Gn (nth (nth f i) k) (nth (nth t i) k).toNat ∧ Gn (nth (nth f i) k) (nth (nth t i) k).toNat ≤ 10000 := fun i k hi hk => by
    have := hat hi hk
    exact Gn10 this.1.1 (by omega)
  have hB : Bd W.length S.length (fun i k => nth W k * Gn (nth (nth f i) k) (nth (nth t i) k).toNat) := fun i k hi hk => by
    have h1 := hw k hk
    have h2 := hg10 i k hi hk
    have := mul_abs (b := Gn (nth (nth f i) k) (nth (nth t i) k).toNat) (B := 10000) h1.1 h1.2 h2.1 h2.2
    simp only; omega
  have q : ∀ i k, i < S.length → k < W.length → CallsTo Try.prog 19 [ints (nth (nth f i) k), i64 (nth (nth t i) k)] (.tup [i64 (Gn (nth (nth f i) k) (nth (nth t i) k).toNat), i64 0]) := fun i k hi hk => by
    have h1 := hat hi hk
    have := gainx_ok (nth (nth f i) k) (nth (nth t i) k)
    rw [if_pos ⟨h1.1.1, h1.2.1.1, by omega⟩, if_pos ⟨h1.1.1, h1.2.1.1, by omega⟩] at this
    exact this
  have hfr : ∀ i, i < S.length → (nth f i).length = W.length ∧ (nth t i).length = W.length := fun i hi => ⟨(hf.2 i (by omega)).1, (ht.2 i (by omega)).1⟩
  unfold gnd
  refine calls_abs Try.func44 Try.ntmps44 Try.results44 Try.call44 rfl (by simp) fun w0 S0 M0 => ?_
  repeat' (first
      | refine abs_seq ?_
      | refine abs_block ?_
      | refine abs_skip ?_
      | refine abs_exit ?_
      | refine abs_ret ?_
      | ((first | refine abs_region fun K hK => ?_ | refine abs_draw Try.ty.mixed (by kernel_rfl) fun K hK => ?_ | refine abs_if ?_ | show retQ _ _ _ _ _); simp -implicitDefEqProofs only [go_sem, bas, basL, Nat.reduceAdd, Nat.reduceSub, Nat.reduceMul, Nat.reduceLT, Nat.reduceLeDiff, Nat.reduceEqDiff, Nat.reduceBEq, Int.reduceLT, Int.reduceLE, Int.reduceToNat, Int.reduceAdd, Int.reduceSub, Int.reduceMul, Int.reduceNeg, Int.reduceEq, reduceCtorEq, eq_self, ne_eq, not_false_eq_true, if_true, reduceIte])
      | ((first | (refine hK _ ?_; clear hK K) | show thenQ _ _ _ _ | show blockQ _ _ _ _); simp only [thenQ, blockQ, if_true, Nat.reduceEqDiff, reduceIte])
      | (intro hg; first | (exfalso; omega) | (exfalso; contradiction) | skip)
      | apply And.intro
      | (with_reducible rfl)
      | (clear hK; omega)
      | omega)
  refine abs_loopN (ι := Nat) (fun i => [(1, intsss f), (2, intss t), (3, .box 0 0), (8, i64 (sumTo (fun i => sumTo (fun k => nth W k * Gn (nth (nth f i) k) (nth (nth t i) k).toNat) W.length) i)), (9, i64 i)]) (fun i => [.mu [i64 c, ints W, intss S]]) (fun _ => [])
    (fun i => i ≤ S.length) (fun i => S.length - i) (fun _ _ => ⟨rfl, rfl⟩) 0 (Nat.zero_le _) (le_of rfl (by try simp -implicitDefEqProofs only [go_sem, bas, basL, Nat.reduceAdd, Nat.reduceSub, Nat.reduceMul, Nat.reduceLT, Nat.reduceLeDiff, Nat.reduceEqDiff, Nat.reduceBEq, Int.reduceLT, Int.reduceLE, Int.reduceToNat, Int.reduceAdd, Int.reduceSub, Int.reduceMul, Int.reduceNeg, Int.reduceEq, reduceCtorEq, eq_self, ne_eq, not_false_eq_true, if_true, reduceIte]; try simp [sumTo]) ⟨_, rfl⟩ ⟨_, rfl⟩) (fun i hi => ?_)
  have a1 := tsum_bd W.length S.length _ hW hS hB i hi
  have r1 := hfr i
  simp -implicitDefEqProofs only [go_sem, bas, basL, Nat.reduceAdd, Nat.reduceSub, Nat.reduceMul, Nat.reduceLT, Nat.reduceLeDiff, Nat.reduceEqDiff, Nat.reduceBEq, Int.reduceLT, Int.reduceLE, Int.reduceToNat, Int.reduceAdd, Int.reduceSub, Int.reduceMul, Int.reduceNeg, Int.reduceEq, reduceCtorEq, eq_self, ne_eq, not_false_eq_true, if_true, reduceIte]
  repeat' (first
      | refine abs_seq ?_
      | refine abs_block ?_
      | refine abs_skip ?_
      | refine abs_exit ?_
      | refine abs_ret ?_
      | ((first | refine abs_region fun K hK => ?_ | refine abs_draw Try.ty.mixed (by kernel_rfl) fun K hK => ?_ | refine abs_if ?_ | show retQ _ _ _ _ _); simp -implicitDefEqProofs only [go_sem, bas, basL, Nat.reduceAdd, Nat.reduceSub, Nat.reduceMul, Nat.reduceLT, Nat.reduceLeDiff, Nat.reduceEqDiff, Nat.reduceBEq, Int.reduceLT, Int.reduceLE, Int.reduceToNat, Int.reduceAdd, Int.reduceSub, Int.reduceMul, Int.reduceNeg, Int.reduceEq, reduceCtorEq, eq_self, ne_eq, not_false_eq_true, if_true, reduceIte])
      | ((first | (refine hK _ ?_; clear hK K) | show thenQ _ _ _ _ | show blockQ _ _ _ _); simp only [thenQ, blockQ, if_true, Nat.reduceEqDiff, reduceIte])
      | (intro hg; first | (exfalso; omega) | (exfalso; contradiction) | skip)
      | apply And.intro
      | (with_reducible rfl)
      | (clear hK; omega)
      | omega)
  · have r1 := r1 (by omega)
    refine abs_loopN (ι := Nat) (fun k => [(1, intsss f), (2, intss t), (3, .box 0 0), (8, i64 (sumTo (fun i => sumTo (fun k => nth W k * Gn (nth (nth f i) k) (nth (nth t i) k).toNat) W.length) i + sumTo (fun k => nth W k * Gn (nth (nth f i) k) (nth (nth t i) k).toNat) k)), (9, i64 i), (10, i64 k)]) (fun i => [.mu [i64 c, ints W, intss S]]) (fun _ => [])
      (fun k => k ≤ W.length) (fun k => W.length - k) (fun _ _ => ⟨rfl, rfl⟩) 0 (Nat.zero_le _) (le_of rfl (by try simp -implicitDefEqProofs only [go_sem, bas, basL, Nat.reduceAdd, Nat.reduceSub, Nat.reduceMul, Nat.reduceLT, Nat.reduceLeDiff, Nat.reduceEqDiff, Nat.reduceBEq, Int.reduceLT, Int.reduceLE, Int.reduceToNat, Int.reduceAdd, Int.reduceSub, Int.reduceMul, Int.reduceNeg, Int.reduceEq, reduceCtorEq, eq_self, ne_eq, not_false_eq_true, if_true, reduceIte]; try simp [sumTo]) ⟨_, rfl⟩ ⟨_, rfl⟩) (fun k hk => ?_)
    have a3 := dsum_bd W.length S.length _ hW hB i (by omega) k hk
    have a5 : k < W.length → -5000000 ≤ nth W k * Gn (nth (nth f i) k) (nth (nth t i) k).toNat ∧ nth W k * Gn (nth (nth f i) k) (nth (nth t i) k).toNat ≤ 5000000 := fun h => hB i k (by omega) h
    have a6 := hg10 i k
    simp -implicitDefEqProofs only [go_sem, bas, basL, Nat.reduceAdd, Nat.reduceSub, Nat.reduceMul, Nat.reduceLT, Nat.reduceLeDiff, Nat.reduceEqDiff, Nat.reduceBEq, Int.reduceLT, Int.reduceLE, Int.reduceToNat, Int.reduceAdd, Int.reduceSub, Int.reduceMul, Int.reduceNeg, Int.reduceEq, reduceCtorEq, eq_self, ne_eq, not_false_eq_true, if_true, reduceIte]
    repeat' (first
        | refine abs_seq ?_
        | refine abs_block ?_
        | refine abs_skip ?_
        | refine abs_exit ?_
        | refine abs_ret ?_
        | ((first | refine abs_region fun K hK => ?_ | refine abs_draw Try.ty.mixed (by kernel_rfl) fun K hK => ?_ | refine abs_if ?_ | show retQ _ _ _ _ _ | refine callK (q i k (by omega) (by omega)) ?_); simp -implicitDefEqProofs only [go_sem, bas, basL, Nat.reduceAdd, Nat.reduceSub, Nat.reduceMul, Nat.reduceLT, Nat.reduceLeDiff, Nat.reduceEqDiff, Nat.reduceBEq, Int.reduceLT, Int.reduceLE, Int.reduceToNat, Int.reduceAdd, Int.reduceSub, Int.reduceMul, Int.reduceNeg, Int.reduceEq, reduceCtorEq, eq_self, ne_eq, not_false_eq_true, if_true, reduceIte])
        | ((first | (refine hK _ ?_; clear hK K) | show thenQ _ _ _ _ | show blockQ _ _ _ _); simp only [thenQ, blockQ, if_true, Nat.reduceEqDiff, reduceIte])
        | (intro hg; first | (exfalso; omega) | (exfalso; contradiction) | skip)
        | apply And.intro
        | (with_reducible rfl)
        | (clear hK; omega)
        | omega)
    · exact ⟨k + 1, by omega, by omega, le_of rfl (by try simp -implicitDefEqProofs only [go_sem, bas, basL, Nat.reduceAdd, Nat.reduceSub, Nat.reduceMul, Nat.reduceLT, Nat.reduceLeDiff, Nat.reduceEqDiff, Nat.reduceBEq, Int.reduceLT, Int.reduceLE, Int.reduceToNat, Int.reduceAdd, Int.reduceSub, Int.reduceMul, Int.reduceNeg, Int.reduceEq, reduceCtorEq, eq_self, ne_eq, not_false_eq_true, if_true, reduceIte]; simp [sumTo, Int.add_assoc]) ⟨_, rfl⟩ ⟨_, rfl⟩⟩
    · obtain rfl : k = W.length := by omega
      exact ⟨i + 1, by omega, by omega, le_of rfl (by try simp -implicitDefEqProofs only [go_sem, bas, basL, Nat.reduceAdd, Nat.reduceSub, Nat.reduceMul, Nat.reduceLT, Nat.reduceLeDiff, Nat.reduceEqDiff, Nat.reduceBEq, Int.reduceLT, Int.reduceLE, Int.reduceToNat, Int.reduceAdd, Int.reduceSub, Int.reduceMul, Int.reduceNeg, Int.reduceEq, reduceCtorEq, eq_self, ne_eq, not_false_eq_true, if_true, reduceIte]; simp [sumTo]) ⟨_, rfl⟩ ⟨_, rfl⟩⟩
  · obtain rfl : i = S.length := by omega
    rfl

set_option maxRecDepth 100000 in
set_option maxHeartbeats 4000000 in
theorem lies_ok (n lo hi : Int) : CallsTo Try.prog 45 [i64 n, .agg [i64 lo, i64 hi]] (.bool (decide (lo ≤ n ∧ n ≤ hi))) := by
  refine calls_abs Try.func45 Try.ntmps45 Try.results45 Try.call45 rfl (by simp) fun w0 S0 M0 => ?_
  repeat' (first
      | refine abs_seq ?_
      | refine abs_block ?_
      | refine abs_skip ?_
      | refine abs_exit ?_
      | refine abs_ret ?_
      | ((first | refine abs_region fun K hK => ?_ | refine abs_draw Try.ty.mixed (by kernel_rfl) fun K hK => ?_ | refine abs_if ?_ | show retQ _ _ _ _ _); simp -implicitDefEqProofs only [go_sem, bas, basL, Nat.reduceAdd, Nat.reduceSub, Nat.reduceMul, Nat.reduceLT, Nat.reduceLeDiff, Nat.reduceEqDiff, Nat.reduceBEq, Int.reduceLT, Int.reduceLE, Int.reduceToNat, Int.reduceAdd, Int.reduceSub, Int.reduceMul, Int.reduceNeg, Int.reduceEq, reduceCtorEq, eq_self, ne_eq, not_false_eq_true, if_true, reduceIte])
      | ((first | (refine hK _ ?_; clear hK K) | show thenQ _ _ _ _ | show blockQ _ _ _ _); simp only [thenQ, blockQ, if_true, Nat.reduceEqDiff, reduceIte])
      | (intro hg; first | (exfalso; omega) | (exfalso; contradiction) | skip)
      | apply And.intro
      | (with_reducible rfl)
      | (clear hK; omega)
      | omega)
  all_goals
    refine boolD ?_
    simp only [decide_eq_true_eq, Bool.false_eq_true]
    constructor
    · intro h
      first
      | exact h.elim
      | omega
    · intro h
      omega
end Go.Proofs.Ythamljpomhjepaa
