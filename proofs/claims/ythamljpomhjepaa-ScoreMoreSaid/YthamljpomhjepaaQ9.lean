import Derived.Test.YthamljpomhjepaaQ8
import Derived.Test.YthamljpomhjepaaAbT
set_option linter.unusedVariables false
set_option linter.unusedSimpArgs false
namespace Go.Proofs.Ythamljpomhjepaa
open Go.Ab
attribute [local irreducible] Abs CallK CallR CallsTo

/-- The class of a set for which parts gain least, or most, so far. -/
def chK (most : Bool) (set : Int) (p : List Int) : Nat → Int
  | 0 => -1
  | k + 1 => if hasB set k = true ∧ (chK most set p k < 0 ∨ (most = true ∧ nth p (chK most set p k).toNat < nth p k) ∨ (most = false ∧ nth p k < nth p (chK most set p k).toNat)) then k else chK most set p k
theorem chK_yes {most : Bool} {set : Int} {p : List Int} {k : Nat} (h : hasB set k = true) (h2 : chK most set p k < 0 ∨ (most = true ∧ nth p (chK most set p k).toNat < nth p k) ∨ (most = false ∧ nth p k < nth p (chK most set p k).toNat)) : chK most set p (k + 1) = k := by rw [chK, if_pos ⟨h, h2⟩]
theorem chK_no {most : Bool} {set : Int} {p : List Int} {k : Nat} (h : hasB set k = false) : chK most set p (k + 1) = chK most set p k := by rw [chK, if_neg (by rw [h]; simp)]
theorem chK_keep {most : Bool} {set : Int} {p : List Int} {k : Nat} (h2 : ¬ (chK most set p k < 0 ∨ (most = true ∧ nth p (chK most set p k).toNat < nth p k) ∨ (most = false ∧ nth p k < nth p (chK most set p k).toNat))) : chK most set p (k + 1) = chK most set p k := by rw [chK, if_neg (fun h => h2 h.2)]
theorem chK_bd (most : Bool) (set : Int) (p : List Int) : ∀ k : Nat, -1 ≤ chK most set p k ∧ chK most set p k < k ∨ (k = 0 ∧ chK most set p k = -1)
  | 0 => .inr ⟨rfl, rfl⟩
  | k + 1 => by
    have h := chK_bd most set p k
    left
    rw [chK]
    split
    · omega
    · omega
theorem chK_lt (most : Bool) (set : Int) (p : List Int) (k : Nat) : -1 ≤ chK most set p k ∧ chK most set p k ≤ (k : Int) - 1 := by
  have := chK_bd most set p k
  omega
theorem chK_spec (most : Bool) (set : Int) (p : List Int) : ∀ k : Nat, (∃ i, i < k ∧ hasB set i = true) →
    (0 ≤ chK most set p k ∧ hasB set (chK most set p k).toNat = true) ∧ ∀ i, i < k → hasB set i = true → (most = true → nth p i ≤ nth p (chK most set p k).toNat) ∧ (most = false → nth p (chK most set p k).toNat ≤ nth p i)
  | 0, ⟨i, h, _⟩ => absurd h (Nat.not_lt_zero i)
  | k + 1, hex => by
    have emp : ∀ j, j ≤ k → (∀ i, i < j → hasB set i = false) → chK most set p j = -1 := by
      intro j
      induction j with
      | zero => intros; rfl
      | succ j ih =>
        intro hj hall
        rw [chK_no (hall j (by omega))]
        exact ih (by omega) (fun i hi => hall i (by omega))
    cases hk : hasB set k with
    | false =>
      rw [chK_no hk]
      obtain ⟨i, hi, hb⟩ := hex
      have hik : i < k := by
        rcases Nat.lt_or_ge i k with h | h
        · exact h
        · obtain rfl : i = k := by omega
          rw [hk] at hb; cases hb
      obtain ⟨h1, h2⟩ := chK_spec most set p k ⟨i, hik, hb⟩
      refine ⟨h1, fun j hj hjb => ?_⟩
      rcases Nat.lt_or_ge j k with h | h
      · exact h2 j h hjb
      · obtain rfl : j = k := by omega
        rw [hk] at hjb; cases hjb
    | true =>
      by_cases hsome : ∃ i, i < k ∧ hasB set i = true
      · obtain ⟨h1, h2⟩ := chK_spec most set p k hsome
        by_cases hc : chK most set p k < 0 ∨ (most = true ∧ nth p (chK most set p k).toNat < nth p k) ∨ (most = false ∧ nth p k < nth p (chK most set p k).toNat)
        · rw [chK_yes hk hc]
          refine ⟨⟨by omega, by simpa using hk⟩, fun j hj hjb => ?_⟩
          simp only [Int.toNat_natCast]
          rcases hc with hc | ⟨hm, hc⟩ | ⟨hm, hc⟩
          · omega
          · subst hm
            refine ⟨fun _ => ?_, fun h => (by cases h)⟩
            rcases Nat.lt_or_ge j k with h | h
            · have := (h2 j h hjb).1 rfl; omega
            · obtain rfl : j = k := by omega
              exact Int.le_refl _
          · subst hm
            refine ⟨fun h => (by cases h), fun _ => ?_⟩
            rcases Nat.lt_or_ge j k with h | h
            · have := (h2 j h hjb).2 rfl; omega
            · obtain rfl : j = k := by omega
              exact Int.le_refl _
        · rw [chK_keep hc]
          refine ⟨h1, fun j hj hjb => ?_⟩
          rcases Nat.lt_or_ge j k with h | h
          · exact h2 j h hjb
          · obtain rfl : j = k := by omega
            refine ⟨fun hm => ?_, fun hm => ?_⟩
            · rcases Int.lt_or_le (nth p (chK most set p j).toNat) (nth p j) with h9 | h9
              · exact absurd (.inr (.inl ⟨hm, h9⟩)) hc
              · exact h9
            · rcases Int.lt_or_le (nth p j) (nth p (chK most set p j).toNat) with h9 | h9
              · exact absurd (.inr (.inr ⟨hm, h9⟩)) hc
              · exact h9
      · have e := emp k (Nat.le_refl _) (fun i hi => by
          cases hb : hasB set i with
          | false => rfl
          | true => exact absurd ⟨i, hi, hb⟩ hsome)
        rw [chK_yes hk (.inl (by omega))]
        refine ⟨⟨by omega, by simpa using hk⟩, fun j hj hjb => ?_⟩
        simp only [Int.toNat_natCast]
        rcases Nat.lt_or_ge j k with h | h
        · exact absurd ⟨j, h, hjb⟩ hsome
        · obtain rfl : j = k := by omega
          exact ⟨fun _ => Int.le_refl _, fun _ => Int.le_refl _⟩
/-- The class chosen of a day and a district. -/
def chD (most : Bool) (c : Int) (S : List (List Int)) (f : List (List (List Int))) (i k : Nat) : Int := chK most (nth (nth S i) k) (nth (nth f i) k) c.toNat
def chR (most : Bool) (c : Int) (S : List (List Int)) (f : List (List (List Int))) (i n : Nat) : List Int := (List.range n).map fun k => (2 : Int) ^ (chD most c S f i k).toNat
def chT (most : Bool) (c : Int) (W : List Int) (S : List (List Int)) (f : List (List (List Int))) (n : Nat) : List (List Int) := (List.range n).map fun i => chR most c S f i W.length
theorem chR_succ (most : Bool) (c : Int) (S : List (List Int)) (f : List (List (List Int))) (i n : Nat) : chR most c S f i (n + 1) = chR most c S f i n ++ [(2 : Int) ^ (chD most c S f i n).toNat] := by simp [chR, List.range_succ]
theorem chT_succ (most : Bool) (c : Int) (W : List Int) (S : List (List Int)) (f : List (List (List Int))) (n : Nat) : chT most c W S f (n + 1) = chT most c W S f n ++ [chR most c S f n W.length] := by simp [chT, List.range_succ]

set_option maxRecDepth 100000 in
set_option maxHeartbeats 4000000 in
theorem chosen_least (c : Int) (W : List Int) (S : List (List Int)) (f : List (List (List Int))) (hs : Suite c W S) (hf : Fore c W S f) :
    CallsTo Try.prog 46 [.agg [i64 c, ints W, intss S], intsss f, .bool false] (.agg [i64 c, ints W, intss (chT false c W S f S.length)]) := by
  have hc := hs.1
  have hW := hs.2.1.2
  have hS := hs.2.2.1
  have hfl := hf.1
  have hb0 := fun {i k} => set_bd hs (i := i) (k := k)
  have hfr : ∀ i, i < S.length → (nth f i).length = W.length := fun i hi => (hf.2 i (by omega)).1
  have hfp : ∀ i k, i < S.length → k < W.length → (nth (nth f i) k).length = c.toNat := fun i k hi hk => by
    have := (hf.2 i (by omega)).2 k (by have := hfr i hi; omega)
    omega
  have hhas : ∀ i k, i < S.length → k < W.length → 0 ≤ chD false c S f i k := fun i k hi hk => by
    have h5 := hs.2.2.2.2 i hi
    exact (chK_spec false _ (nth (nth f i) k) c.toNat (set_has hs.1 (h5.2 k (by omega)))).1.1
  refine calls_abs Try.func46 Try.ntmps46 Try.results46 Try.call46 rfl (by simp) fun w0 S0 M0 => ?_
  repeat' (first
      | refine abs_seq ?_
      | refine abs_block ?_
      | refine abs_skip ?_
      | refine abs_exit ?_
      | refine abs_ret ?_
      | ((first | refine abs_region fun K hK => ?_ | refine abs_draw Try.ty.mixed (by kernel_rfl) fun K hK => ?_ | refine abs_if ?_ | show retQ _ _ _ _ _); simp -implicitDefEqProofs only [go_sem, bas, basL, Nat.reduceAdd, Nat.reduceSub, Nat.reduceMul, Nat.reduceLT, Nat.reduceLeDiff, Nat.reduceEqDiff, Nat.reduceBEq, Int.reduceLT, Int.reduceLE, Int.reduceToNat, Int.reduceAdd, Int.reduceSub, Int.reduceMul, Int.reduceNeg, Int.reduceEq, reduceCtorEq, eq_self, ne_eq, not_false_eq_true, if_true, reduceIte])
      | ((first | (refine hK _ ?_; clear hK K) | show thenQ _ _ _ _ | show blockQ _ _ _ _); simp only [thenQ, blockQ, if_true, Nat.reduceEqDiff, reduceIte])
      | (intro hg; first | (exfalso; omega) | (exfalso; contradiction) | skip)
      | apply And.intro
      | (with_reducible rfl)
      | (clear hK; omega)
      | omega)
  refine abs_adoptB 2 2 22 1 _ rfl rfl ?_
  refine abs_loopN (ι := Nat) (fun i => [(1, intsss f), (2, .bool false), (3, .box 0 0), (6, .box 1 0), (7, .box 2 0), (8, i64 i)]) (fun _ => [.mu [i64 c, ints W, intss S], .mu [i64 0, .val (.slice none 0 0), .val (.slice none 0 0)], .mu [i64 c, ints W, .own 0]]) (fun i => [⟨true, 22, 1, (chT false c W S f i).map ints⟩])
    (fun i => i ≤ S.length) (fun i => S.length - i) (fun _ _ => ⟨rfl, rfl⟩) 0 (Nat.zero_le _) (le_of rfl (by try simp -implicitDefEqProofs only [go_sem, bas, basL, Nat.reduceAdd, Nat.reduceSub, Nat.reduceMul, Nat.reduceLT, Nat.reduceLeDiff, Nat.reduceEqDiff, Nat.reduceBEq, Int.reduceLT, Int.reduceLE, Int.reduceToNat, Int.reduceAdd, Int.reduceSub, Int.reduceMul, Int.reduceNeg, Int.reduceEq, reduceCtorEq, eq_self, ne_eq, not_false_eq_true, if_true, reduceIte]; try simp) ⟨_, rfl⟩ ⟨_, rfl⟩) (fun i hi => ?_)
  have r1 := hfr i
  have r2 : (chT false c W S f i).length = i := by simp [chT]
  simp -implicitDefEqProofs only [go_sem, bas, basL, Nat.reduceAdd, Nat.reduceSub, Nat.reduceMul, Nat.reduceLT, Nat.reduceLeDiff, Nat.reduceEqDiff, Nat.reduceBEq, Int.reduceLT, Int.reduceLE, Int.reduceToNat, Int.reduceAdd, Int.reduceSub, Int.reduceMul, Int.reduceNeg, Int.reduceEq, reduceCtorEq, eq_self, ne_eq, not_false_eq_true, if_true, reduceIte]
  repeat' (first
      | refine abs_seq ?_
      | refine abs_block ?_
      | refine abs_skip ?_
      | refine abs_exit ?_
      | refine abs_ret ?_
      | ((first | refine abs_region fun K hK => ?_ | refine abs_draw Try.ty.mixed (by kernel_rfl) fun K hK => ?_ | refine abs_if ?_ | show retQ _ _ _ _ _); simp -implicitDefEqProofs only [go_sem, bas, basL, Nat.reduceAdd, Nat.reduceSub, Nat.reduceMul, Nat.reduceLT, Nat.reduceLeDiff, Nat.reduceEqDiff, Nat.reduceBEq, Int.reduceLT, Int.reduceLE, Int.reduceToNat, Int.reduceAdd, Int.reduceSub, Int.reduceMul, Int.reduceNeg, Int.reduceEq, reduceCtorEq, eq_self, ne_eq, not_false_eq_true, if_true, reduceIte])
      | ((first | (refine hK _ ?_; clear hK K) | show thenQ _ _ _ _ | show blockQ _ _ _ _); simp only [thenQ, blockQ, if_true, Nat.reduceEqDiff, reduceIte])
      | (intro hg; first | (exfalso; omega) | (exfalso; contradiction) | skip)
      | apply And.intro
      | (with_reducible rfl)
      | (clear hK; omega)
      | omega)
  · have r1 := r1 (by omega)
    refine abs_adopt 9 3 1 rfl ?_
    refine abs_loopN (ι := Nat) (fun d => [(1, intsss f), (2, .bool false), (3, .box 0 0), (6, .box 1 0), (7, .box 2 0), (8, i64 i), (9, .own 1), (10, i64 d)]) (fun _ => [.mu [i64 c, ints W, intss S], .mu [i64 0, .val (.slice none 0 0), .val (.slice none 0 0)], .mu [i64 c, ints W, .own 0]]) (fun d => [⟨true, 22, 1, (chT false c W S f i).map ints⟩, ⟨true, 3, 1, (chR false c S f i d).map (D.int .i64)⟩])
      (fun d => d ≤ W.length) (fun d => W.length - d) (fun _ _ => ⟨rfl, rfl⟩) 0 (Nat.zero_le _) (le_of rfl (by try simp -implicitDefEqProofs only [go_sem, bas, basL, Nat.reduceAdd, Nat.reduceSub, Nat.reduceMul, Nat.reduceLT, Nat.reduceLeDiff, Nat.reduceEqDiff, Nat.reduceBEq, Int.reduceLT, Int.reduceLE, Int.reduceToNat, Int.reduceAdd, Int.reduceSub, Int.reduceMul, Int.reduceNeg, Int.reduceEq, reduceCtorEq, eq_self, ne_eq, not_false_eq_true, if_true, reduceIte]; try simp) ⟨_, rfl⟩ ⟨_, rfl⟩) (fun d hd => ?_)
    have r3 : (chR false c S f i d).length = d := by simp [chR]
    have r5 := hfp i d
    have r6 := hb0 (i := i) (k := d)
    have r7 := hhas i d
    have r9 := chK_lt false (nth (nth S i) d) (nth (nth f i) d) c.toNat
    simp -implicitDefEqProofs only [go_sem, bas, basL, Nat.reduceAdd, Nat.reduceSub, Nat.reduceMul, Nat.reduceLT, Nat.reduceLeDiff, Nat.reduceEqDiff, Nat.reduceBEq, Int.reduceLT, Int.reduceLE, Int.reduceToNat, Int.reduceAdd, Int.reduceSub, Int.reduceMul, Int.reduceNeg, Int.reduceEq, reduceCtorEq, eq_self, ne_eq, not_false_eq_true, if_true, reduceIte]
    repeat' (first
        | refine abs_seq ?_
        | refine abs_block ?_
        | refine abs_skip ?_
        | refine abs_exit ?_
        | refine abs_ret ?_
        | ((first | refine abs_region fun K hK => ?_ | refine abs_draw Try.ty.mixed (by kernel_rfl) fun K hK => ?_ | refine abs_if ?_ | show retQ _ _ _ _ _); simp -implicitDefEqProofs only [go_sem, bas, basL, Nat.reduceAdd, Nat.reduceSub, Nat.reduceMul, Nat.reduceLT, Nat.reduceLeDiff, Nat.reduceEqDiff, Nat.reduceBEq, Int.reduceLT, Int.reduceLE, Int.reduceToNat, Int.reduceAdd, Int.reduceSub, Int.reduceMul, Int.reduceNeg, Int.reduceEq, reduceCtorEq, eq_self, ne_eq, not_false_eq_true, if_true, reduceIte])
        | ((first | (refine hK _ ?_; clear hK K) | show thenQ _ _ _ _ | show blockQ _ _ _ _); simp only [thenQ, blockQ, if_true, Nat.reduceEqDiff, reduceIte])
        | (intro hg; first | (exfalso; omega) | (exfalso; contradiction) | skip)
        | apply And.intro
        | (with_reducible rfl)
        | (clear hK; omega)
        | omega)
    · refine abs_loopN (ι := Nat) (fun k => [(1, intsss f), (2, .bool false), (3, .box 0 0), (6, .box 1 0), (7, .box 2 0), (8, i64 i), (9, .own 1), (10, i64 d), (11, i64 (chK false (nth (nth S i) d) (nth (nth f i) d) k)), (12, i64 k)]) (fun _ => [.mu [i64 c, ints W, intss S], .mu [i64 0, .val (.slice none 0 0), .val (.slice none 0 0)], .mu [i64 c, ints W, .own 0]]) (fun _ => [⟨true, 22, 1, (chT false c W S f i).map ints⟩, ⟨true, 3, 1, (chR false c S f i d).map (D.int .i64)⟩])
        (fun k => k ≤ c.toNat) (fun k => c.toNat - k) (fun _ _ => ⟨rfl, rfl⟩) 0 (Nat.zero_le _) (le_of rfl (by try simp -implicitDefEqProofs only [go_sem, bas, basL, Nat.reduceAdd, Nat.reduceSub, Nat.reduceMul, Nat.reduceLT, Nat.reduceLeDiff, Nat.reduceEqDiff, Nat.reduceBEq, Int.reduceLT, Int.reduceLE, Int.reduceToNat, Int.reduceAdd, Int.reduceSub, Int.reduceMul, Int.reduceNeg, Int.reduceEq, reduceCtorEq, eq_self, ne_eq, not_false_eq_true, if_true, reduceIte]; try simp [chK]) ⟨_, rfl⟩ ⟨_, rfl⟩) (fun k hk => ?_)
      have r4 := chK_lt false (nth (nth S i) d) (nth (nth f i) d) k
      have r5 := r5 (by omega) (by omega)
      have r6 := r6 (by omega) (by omega)
      have r7 : k = c.toNat → 0 ≤ chK false (nth (nth S i) d) (nth (nth f i) d) k := fun h => by rw [h]; exact r7 (by omega) (by omega)
      simp -implicitDefEqProofs only [go_sem, bas, basL, Nat.reduceAdd, Nat.reduceSub, Nat.reduceMul, Nat.reduceLT, Nat.reduceLeDiff, Nat.reduceEqDiff, Nat.reduceBEq, Int.reduceLT, Int.reduceLE, Int.reduceToNat, Int.reduceAdd, Int.reduceSub, Int.reduceMul, Int.reduceNeg, Int.reduceEq, reduceCtorEq, eq_self, ne_eq, not_false_eq_true, if_true, reduceIte]
      repeat' (first
          | refine abs_seq ?_
          | refine abs_block ?_
          | refine abs_skip ?_
          | refine abs_exit ?_
          | refine abs_ret ?_
          | ((first | refine abs_region fun K hK => ?_ | refine abs_draw Try.ty.mixed (by kernel_rfl) fun K hK => ?_ | refine abs_if ?_ | show retQ _ _ _ _ _ | refine callK (has_ok (nth (nth S i) d) k (by omega) (by omega) (by omega) (by omega)) ?_ | refine callK (sets_ok (chK false (nth (nth S i) d) (nth (nth f i) d) k) (by omega) (by omega)) ?_); simp -implicitDefEqProofs only [go_sem, bas, basL, Nat.reduceAdd, Nat.reduceSub, Nat.reduceMul, Nat.reduceLT, Nat.reduceLeDiff, Nat.reduceEqDiff, Nat.reduceBEq, Int.reduceLT, Int.reduceLE, Int.reduceToNat, Int.reduceAdd, Int.reduceSub, Int.reduceMul, Int.reduceNeg, Int.reduceEq, reduceCtorEq, eq_self, ne_eq, not_false_eq_true, if_true, reduceIte])
          | ((first | (refine hK _ ?_; clear hK K) | show thenQ _ _ _ _ | show blockQ _ _ _ _); simp only [thenQ, blockQ, if_true, Nat.reduceEqDiff, reduceIte])
          | (intro hg; first | (exfalso; omega) | (exfalso; contradiction) | skip)
          | apply And.intro
          | (with_reducible rfl)
          | (clear hK; omega)
          | omega)
      all_goals first
        | (have e := chK_no (most := false) (set := nth (nth S i) d) (p := nth (nth f i) d) (k := k) (by assumption)
           exact ⟨k + 1, by omega, by omega, le_of rfl (by try simp -implicitDefEqProofs only [go_sem, bas, basL, Nat.reduceAdd, Nat.reduceSub, Nat.reduceMul, Nat.reduceLT, Nat.reduceLeDiff, Nat.reduceEqDiff, Nat.reduceBEq, Int.reduceLT, Int.reduceLE, Int.reduceToNat, Int.reduceAdd, Int.reduceSub, Int.reduceMul, Int.reduceNeg, Int.reduceEq, reduceCtorEq, eq_self, ne_eq, not_false_eq_true, if_true, reduceIte]; simp [e]) ⟨[], rfl⟩ ⟨[], rfl⟩⟩)
        | (have e := chK_yes (most := false) (set := nth (nth S i) d) (p := nth (nth f i) d) (k := k) (by assumption) (by first | exact .inl (by omega) | exact .inr (.inl ⟨rfl, by assumption⟩) | exact .inr (.inr ⟨rfl, by assumption⟩))
           exact ⟨k + 1, by omega, by omega, le_of rfl (by try simp -implicitDefEqProofs only [go_sem, bas, basL, Nat.reduceAdd, Nat.reduceSub, Nat.reduceMul, Nat.reduceLT, Nat.reduceLeDiff, Nat.reduceEqDiff, Nat.reduceBEq, Int.reduceLT, Int.reduceLE, Int.reduceToNat, Int.reduceAdd, Int.reduceSub, Int.reduceMul, Int.reduceNeg, Int.reduceEq, reduceCtorEq, eq_self, ne_eq, not_false_eq_true, if_true, reduceIte]; simp [e]) ⟨[], rfl⟩ ⟨[], rfl⟩⟩)
        | (have e := chK_keep (most := false) (set := nth (nth S i) d) (p := nth (nth f i) d) (k := k) (by intro h; rcases h with h | ⟨h1, h2⟩ | ⟨h1, h2⟩ <;> first | omega | (cases h1; done) | contradiction)
           exact ⟨k + 1, by omega, by omega, le_of rfl (by try simp -implicitDefEqProofs only [go_sem, bas, basL, Nat.reduceAdd, Nat.reduceSub, Nat.reduceMul, Nat.reduceLT, Nat.reduceLeDiff, Nat.reduceEqDiff, Nat.reduceBEq, Int.reduceLT, Int.reduceLE, Int.reduceToNat, Int.reduceAdd, Int.reduceSub, Int.reduceMul, Int.reduceNeg, Int.reduceEq, reduceCtorEq, eq_self, ne_eq, not_false_eq_true, if_true, reduceIte]; simp [e]) ⟨[], rfl⟩ ⟨[], rfl⟩⟩)
        | (obtain rfl : k = c.toNat := by omega
           exact ⟨d + 1, by omega, by omega, le_of rfl (by try simp -implicitDefEqProofs only [go_sem, bas, basL, Nat.reduceAdd, Nat.reduceSub, Nat.reduceMul, Nat.reduceLT, Nat.reduceLeDiff, Nat.reduceEqDiff, Nat.reduceBEq, Int.reduceLT, Int.reduceLE, Int.reduceToNat, Int.reduceAdd, Int.reduceSub, Int.reduceMul, Int.reduceNeg, Int.reduceEq, reduceCtorEq, eq_self, ne_eq, not_false_eq_true, if_true, reduceIte]; try simp) ⟨[], rfl⟩ ⟨[], by simp [chR_succ, chD]⟩⟩)
        | skip
    · obtain rfl : d = W.length := by omega
      exact ⟨i + 1, by omega, by omega, le_of rfl (by try simp -implicitDefEqProofs only [go_sem, bas, basL, Nat.reduceAdd, Nat.reduceSub, Nat.reduceMul, Nat.reduceLT, Nat.reduceLeDiff, Nat.reduceEqDiff, Nat.reduceBEq, Int.reduceLT, Int.reduceLE, Int.reduceToNat, Int.reduceAdd, Int.reduceSub, Int.reduceMul, Int.reduceNeg, Int.reduceEq, reduceCtorEq, eq_self, ne_eq, not_false_eq_true, if_true, reduceIte]; try simp) ⟨_, by simp; rfl⟩ ⟨_, by simp [chT_succ]; rfl⟩⟩
  · obtain rfl : i = S.length := by omega
    rfl
set_option maxRecDepth 100000 in
set_option maxHeartbeats 4000000 in
theorem chosen_most (c : Int) (W : List Int) (S : List (List Int)) (f : List (List (List Int))) (hs : Suite c W S) (hf : Fore c W S f) :
    CallsTo Try.prog 46 [.agg [i64 c, ints W, intss S], intsss f, .bool true] (.agg [i64 c, ints W, intss (chT true c W S f S.length)]) := by
  have hc := hs.1
  have hW := hs.2.1.2
  have hS := hs.2.2.1
  have hfl := hf.1
  have hb0 := fun {i k} => set_bd hs (i := i) (k := k)
  have hfr : ∀ i, i < S.length → (nth f i).length = W.length := fun i hi => (hf.2 i (by omega)).1
  have hfp : ∀ i k, i < S.length → k < W.length → (nth (nth f i) k).length = c.toNat := fun i k hi hk => by
    have := (hf.2 i (by omega)).2 k (by have := hfr i hi; omega)
    omega
  have hhas : ∀ i k, i < S.length → k < W.length → 0 ≤ chD true c S f i k := fun i k hi hk => by
    have h5 := hs.2.2.2.2 i hi
    exact (chK_spec true _ (nth (nth f i) k) c.toNat (set_has hs.1 (h5.2 k (by omega)))).1.1
  refine calls_abs Try.func46 Try.ntmps46 Try.results46 Try.call46 rfl (by simp) fun w0 S0 M0 => ?_
  repeat' (first
      | refine abs_seq ?_
      | refine abs_block ?_
      | refine abs_skip ?_
      | refine abs_exit ?_
      | refine abs_ret ?_
      | ((first | refine abs_region fun K hK => ?_ | refine abs_draw Try.ty.mixed (by kernel_rfl) fun K hK => ?_ | refine abs_if ?_ | show retQ _ _ _ _ _); simp -implicitDefEqProofs only [go_sem, bas, basL, Nat.reduceAdd, Nat.reduceSub, Nat.reduceMul, Nat.reduceLT, Nat.reduceLeDiff, Nat.reduceEqDiff, Nat.reduceBEq, Int.reduceLT, Int.reduceLE, Int.reduceToNat, Int.reduceAdd, Int.reduceSub, Int.reduceMul, Int.reduceNeg, Int.reduceEq, reduceCtorEq, eq_self, ne_eq, not_false_eq_true, if_true, reduceIte])
      | ((first | (refine hK _ ?_; clear hK K) | show thenQ _ _ _ _ | show blockQ _ _ _ _); simp only [thenQ, blockQ, if_true, Nat.reduceEqDiff, reduceIte])
      | (intro hg; first | (exfalso; omega) | (exfalso; contradiction) | skip)
      | apply And.intro
      | (with_reducible rfl)
      | (clear hK; omega)
      | omega)
  refine abs_adoptB 2 2 22 1 _ rfl rfl ?_
  refine abs_loopN (ι := Nat) (fun i => [(1, intsss f), (2, .bool true), (3, .box 0 0), (6, .box 1 0), (7, .box 2 0), (8, i64 i)]) (fun _ => [.mu [i64 c, ints W, intss S], .mu [i64 0, .val (.slice none 0 0), .val (.slice none 0 0)], .mu [i64 c, ints W, .own 0]]) (fun i => [⟨true, 22, 1, (chT true c W S f i).map ints⟩])
    (fun i => i ≤ S.length) (fun i => S.length - i) (fun _ _ => ⟨rfl, rfl⟩) 0 (Nat.zero_le _) (le_of rfl (by try simp -implicitDefEqProofs only [go_sem, bas, basL, Nat.reduceAdd, Nat.reduceSub, Nat.reduceMul, Nat.reduceLT, Nat.reduceLeDiff, Nat.reduceEqDiff, Nat.reduceBEq, Int.reduceLT, Int.reduceLE, Int.reduceToNat, Int.reduceAdd, Int.reduceSub, Int.reduceMul, Int.reduceNeg, Int.reduceEq, reduceCtorEq, eq_self, ne_eq, not_false_eq_true, if_true, reduceIte]; try simp) ⟨_, rfl⟩ ⟨_, rfl⟩) (fun i hi => ?_)
  have r1 := hfr i
  have r2 : (chT true c W S f i).length = i := by simp [chT]
  simp -implicitDefEqProofs only [go_sem, bas, basL, Nat.reduceAdd, Nat.reduceSub, Nat.reduceMul, Nat.reduceLT, Nat.reduceLeDiff, Nat.reduceEqDiff, Nat.reduceBEq, Int.reduceLT, Int.reduceLE, Int.reduceToNat, Int.reduceAdd, Int.reduceSub, Int.reduceMul, Int.reduceNeg, Int.reduceEq, reduceCtorEq, eq_self, ne_eq, not_false_eq_true, if_true, reduceIte]
  repeat' (first
      | refine abs_seq ?_
      | refine abs_block ?_
      | refine abs_skip ?_
      | refine abs_exit ?_
      | refine abs_ret ?_
      | ((first | refine abs_region fun K hK => ?_ | refine abs_draw Try.ty.mixed (by kernel_rfl) fun K hK => ?_ | refine abs_if ?_ | show retQ _ _ _ _ _); simp -implicitDefEqProofs only [go_sem, bas, basL, Nat.reduceAdd, Nat.reduceSub, Nat.reduceMul, Nat.reduceLT, Nat.reduceLeDiff, Nat.reduceEqDiff, Nat.reduceBEq, Int.reduceLT, Int.reduceLE, Int.reduceToNat, Int.reduceAdd, Int.reduceSub, Int.reduceMul, Int.reduceNeg, Int.reduceEq, reduceCtorEq, eq_self, ne_eq, not_false_eq_true, if_true, reduceIte])
      | ((first | (refine hK _ ?_; clear hK K) | show thenQ _ _ _ _ | show blockQ _ _ _ _); simp only [thenQ, blockQ, if_true, Nat.reduceEqDiff, reduceIte])
      | (intro hg; first | (exfalso; omega) | (exfalso; contradiction) | skip)
      | apply And.intro
      | (with_reducible rfl)
      | (clear hK; omega)
      | omega)
  · have r1 := r1 (by omega)
    refine abs_adopt 9 3 1 rfl ?_
    refine abs_loopN (ι := Nat) (fun d => [(1, intsss f), (2, .bool true), (3, .box 0 0), (6, .box 1 0), (7, .box 2 0), (8, i64 i), (9, .own 1), (10, i64 d)]) (fun _ => [.mu [i64 c, ints W, intss S], .mu [i64 0, .val (.slice none 0 0), .val (.slice none 0 0)], .mu [i64 c, ints W, .own 0]]) (fun d => [⟨true, 22, 1, (chT true c W S f i).map ints⟩, ⟨true, 3, 1, (chR true c S f i d).map (D.int .i64)⟩])
      (fun d => d ≤ W.length) (fun d => W.length - d) (fun _ _ => ⟨rfl, rfl⟩) 0 (Nat.zero_le _) (le_of rfl (by try simp -implicitDefEqProofs only [go_sem, bas, basL, Nat.reduceAdd, Nat.reduceSub, Nat.reduceMul, Nat.reduceLT, Nat.reduceLeDiff, Nat.reduceEqDiff, Nat.reduceBEq, Int.reduceLT, Int.reduceLE, Int.reduceToNat, Int.reduceAdd, Int.reduceSub, Int.reduceMul, Int.reduceNeg, Int.reduceEq, reduceCtorEq, eq_self, ne_eq, not_false_eq_true, if_true, reduceIte]; try simp) ⟨_, rfl⟩ ⟨_, rfl⟩) (fun d hd => ?_)
    have r3 : (chR true c S f i d).length = d := by simp [chR]
    have r5 := hfp i d
    have r6 := hb0 (i := i) (k := d)
    have r7 := hhas i d
    have r9 := chK_lt true (nth (nth S i) d) (nth (nth f i) d) c.toNat
    simp -implicitDefEqProofs only [go_sem, bas, basL, Nat.reduceAdd, Nat.reduceSub, Nat.reduceMul, Nat.reduceLT, Nat.reduceLeDiff, Nat.reduceEqDiff, Nat.reduceBEq, Int.reduceLT, Int.reduceLE, Int.reduceToNat, Int.reduceAdd, Int.reduceSub, Int.reduceMul, Int.reduceNeg, Int.reduceEq, reduceCtorEq, eq_self, ne_eq, not_false_eq_true, if_true, reduceIte]
    repeat' (first
        | refine abs_seq ?_
        | refine abs_block ?_
        | refine abs_skip ?_
        | refine abs_exit ?_
        | refine abs_ret ?_
        | ((first | refine abs_region fun K hK => ?_ | refine abs_draw Try.ty.mixed (by kernel_rfl) fun K hK => ?_ | refine abs_if ?_ | show retQ _ _ _ _ _); simp -implicitDefEqProofs only [go_sem, bas, basL, Nat.reduceAdd, Nat.reduceSub, Nat.reduceMul, Nat.reduceLT, Nat.reduceLeDiff, Nat.reduceEqDiff, Nat.reduceBEq, Int.reduceLT, Int.reduceLE, Int.reduceToNat, Int.reduceAdd, Int.reduceSub, Int.reduceMul, Int.reduceNeg, Int.reduceEq, reduceCtorEq, eq_self, ne_eq, not_false_eq_true, if_true, reduceIte])
        | ((first | (refine hK _ ?_; clear hK K) | show thenQ _ _ _ _ | show blockQ _ _ _ _); simp only [thenQ, blockQ, if_true, Nat.reduceEqDiff, reduceIte])
        | (intro hg; first | (exfalso; omega) | (exfalso; contradiction) | skip)
        | apply And.intro
        | (with_reducible rfl)
        | (clear hK; omega)
        | omega)
    · refine abs_loopN (ι := Nat) (fun k => [(1, intsss f), (2, .bool true), (3, .box 0 0), (6, .box 1 0), (7, .box 2 0), (8, i64 i), (9, .own 1), (10, i64 d), (11, i64 (chK true (nth (nth S i) d) (nth (nth f i) d) k)), (12, i64 k)]) (fun _ => [.mu [i64 c, ints W, intss S], .mu [i64 0, .val (.slice none 0 0), .val (.slice none 0 0)], .mu [i64 c, ints W, .own 0]]) (fun _ => [⟨true, 22, 1, (chT true c W S f i).map ints⟩, ⟨true, 3, 1, (chR true c S f i d).map (D.int .i64)⟩])
        (fun k => k ≤ c.toNat) (fun k => c.toNat - k) (fun _ _ => ⟨rfl, rfl⟩) 0 (Nat.zero_le _) (le_of rfl (by try simp -implicitDefEqProofs only [go_sem, bas, basL, Nat.reduceAdd, Nat.reduceSub, Nat.reduceMul, Nat.reduceLT, Nat.reduceLeDiff, Nat.reduceEqDiff, Nat.reduceBEq, Int.reduceLT, Int.reduceLE, Int.reduceToNat, Int.reduceAdd, Int.reduceSub, Int.reduceMul, Int.reduceNeg, Int.reduceEq, reduceCtorEq, eq_self, ne_eq, not_false_eq_true, if_true, reduceIte]; try simp [chK]) ⟨_, rfl⟩ ⟨_, rfl⟩) (fun k hk => ?_)
      have r4 := chK_lt true (nth (nth S i) d) (nth (nth f i) d) k
      have r5 := r5 (by omega) (by omega)
      have r6 := r6 (by omega) (by omega)
      have r7 : k = c.toNat → 0 ≤ chK true (nth (nth S i) d) (nth (nth f i) d) k := fun h => by rw [h]; exact r7 (by omega) (by omega)
      simp -implicitDefEqProofs only [go_sem, bas, basL, Nat.reduceAdd, Nat.reduceSub, Nat.reduceMul, Nat.reduceLT, Nat.reduceLeDiff, Nat.reduceEqDiff, Nat.reduceBEq, Int.reduceLT, Int.reduceLE, Int.reduceToNat, Int.reduceAdd, Int.reduceSub, Int.reduceMul, Int.reduceNeg, Int.reduceEq, reduceCtorEq, eq_self, ne_eq, not_false_eq_true, if_true, reduceIte]
      repeat' (first
          | refine abs_seq ?_
          | refine abs_block ?_
          | refine abs_skip ?_
          | refine abs_exit ?_
          | refine abs_ret ?_
          | ((first | refine abs_region fun K hK => ?_ | refine abs_draw Try.ty.mixed (by kernel_rfl) fun K hK => ?_ | refine abs_if ?_ | show retQ _ _ _ _ _ | refine callK (has_ok (nth (nth S i) d) k (by omega) (by omega) (by omega) (by omega)) ?_ | refine callK (sets_ok (chK true (nth (nth S i) d) (nth (nth f i) d) k) (by omega) (by omega)) ?_); simp -implicitDefEqProofs only [go_sem, bas, basL, Nat.reduceAdd, Nat.reduceSub, Nat.reduceMul, Nat.reduceLT, Nat.reduceLeDiff, Nat.reduceEqDiff, Nat.reduceBEq, Int.reduceLT, Int.reduceLE, Int.reduceToNat, Int.reduceAdd, Int.reduceSub, Int.reduceMul, Int.reduceNeg, Int.reduceEq, reduceCtorEq, eq_self, ne_eq, not_false_eq_true, if_true, reduceIte])
          | ((first | (refine hK _ ?_; clear hK K) | show thenQ _ _ _ _ | show blockQ _ _ _ _); simp only [thenQ, blockQ, if_true, Nat.reduceEqDiff, reduceIte])
          | (intro hg; first | (exfalso; omega) | (exfalso; contradiction) | skip)
          | apply And.intro
          | (with_reducible rfl)
          | (clear hK; omega)
          | omega)
      all_goals first
        | (have e := chK_no (most := true) (set := nth (nth S i) d) (p := nth (nth f i) d) (k := k) (by assumption)
           exact ⟨k + 1, by omega, by omega, le_of rfl (by try simp -implicitDefEqProofs only [go_sem, bas, basL, Nat.reduceAdd, Nat.reduceSub, Nat.reduceMul, Nat.reduceLT, Nat.reduceLeDiff, Nat.reduceEqDiff, Nat.reduceBEq, Int.reduceLT, Int.reduceLE, Int.reduceToNat, Int.reduceAdd, Int.reduceSub, Int.reduceMul, Int.reduceNeg, Int.reduceEq, reduceCtorEq, eq_self, ne_eq, not_false_eq_true, if_true, reduceIte]; simp [e]) ⟨[], rfl⟩ ⟨[], rfl⟩⟩)
        | (have e := chK_yes (most := true) (set := nth (nth S i) d) (p := nth (nth f i) d) (k := k) (by assumption) (by first | exact .inl (by omega) | exact .inr (.inl ⟨rfl, by assumption⟩) | exact .inr (.inr ⟨rfl, by assumption⟩))
           exact ⟨k + 1, by omega, by omega, le_of rfl (by try simp -implicitDefEqProofs only [go_sem, bas, basL, Nat.reduceAdd, Nat.reduceSub, Nat.reduceMul, Nat.reduceLT, Nat.reduceLeDiff, Nat.reduceEqDiff, Nat.reduceBEq, Int.reduceLT, Int.reduceLE, Int.reduceToNat, Int.reduceAdd, Int.reduceSub, Int.reduceMul, Int.reduceNeg, Int.reduceEq, reduceCtorEq, eq_self, ne_eq, not_false_eq_true, if_true, reduceIte]; simp [e]) ⟨[], rfl⟩ ⟨[], rfl⟩⟩)
        | (have e := chK_keep (most := true) (set := nth (nth S i) d) (p := nth (nth f i) d) (k := k) (by intro h; rcases h with h | ⟨h1, h2⟩ | ⟨h1, h2⟩ <;> first | omega | (cases h1; done) | contradiction)
           exact ⟨k + 1, by omega, by omega, le_of rfl (by try simp -implicitDefEqProofs only [go_sem, bas, basL, Nat.reduceAdd, Nat.reduceSub, Nat.reduceMul, Nat.reduceLT, Nat.reduceLeDiff, Nat.reduceEqDiff, Nat.reduceBEq, Int.reduceLT, Int.reduceLE, Int.reduceToNat, Int.reduceAdd, Int.reduceSub, Int.reduceMul, Int.reduceNeg, Int.reduceEq, reduceCtorEq, eq_self, ne_eq, not_false_eq_true, if_true, reduceIte]; simp [e]) ⟨[], rfl⟩ ⟨[], rfl⟩⟩)
        | (obtain rfl : k = c.toNat := by omega
           exact ⟨d + 1, by omega, by omega, le_of rfl (by try simp -implicitDefEqProofs only [go_sem, bas, basL, Nat.reduceAdd, Nat.reduceSub, Nat.reduceMul, Nat.reduceLT, Nat.reduceLeDiff, Nat.reduceEqDiff, Nat.reduceBEq, Int.reduceLT, Int.reduceLE, Int.reduceToNat, Int.reduceAdd, Int.reduceSub, Int.reduceMul, Int.reduceNeg, Int.reduceEq, reduceCtorEq, eq_self, ne_eq, not_false_eq_true, if_true, reduceIte]; try simp) ⟨[], rfl⟩ ⟨[], by simp [chR_succ, chD]⟩⟩)
        | skip
    · obtain rfl : d = W.length := by omega
      exact ⟨i + 1, by omega, by omega, le_of rfl (by try simp -implicitDefEqProofs only [go_sem, bas, basL, Nat.reduceAdd, Nat.reduceSub, Nat.reduceMul, Nat.reduceLT, Nat.reduceLeDiff, Nat.reduceEqDiff, Nat.reduceBEq, Int.reduceLT, Int.reduceLE, Int.reduceToNat, Int.reduceAdd, Int.reduceSub, Int.reduceMul, Int.reduceNeg, Int.reduceEq, reduceCtorEq, eq_self, ne_eq, not_false_eq_true, if_true, reduceIte]; try simp) ⟨_, by simp; rfl⟩ ⟨_, by simp [chT_succ]; rfl⟩⟩
  · obtain rfl : i = S.length := by omega
    rfl
end Go.Proofs.Ythamljpomhjepaa
