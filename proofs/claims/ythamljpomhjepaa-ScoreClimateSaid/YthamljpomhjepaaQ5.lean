import Derived.Test.YthamljpomhjepaaQ4
import Derived.Test.YthamljpomhjepaaP10
import Derived.Test.YthamljpomhjepaaR4
set_option linter.unusedVariables false
set_option linter.unusedSimpArgs false
namespace Go.Proofs.Ythamljpomhjepaa
open Go.Ab
attribute [local irreducible] Abs CallK CallR CallsTo

theorem dif_nil (p : List Int) (k : Nat) : dif p [] k = Gn p k := rfl
theorem wstK_mr (p : List Int) (set : Int) : ∀ k, (wstK p set k).1 = (mrK set p [] k).2.1 ∧ (wstK p set k).2 = !(mrK set p [] k).1
  | 0 => ⟨rfl, rfl⟩
  | k + 1 => by
    obtain ⟨h1, h2⟩ := wstK_mr p set k
    cases hk : hasB set k with
    | false => rw [mrK_no hk, wstK_no (.inl (by rw [hk]; decide))]; exact ⟨h1, h2⟩
    | true =>
      cases hm : (mrK set p [] k).1 with
      | false =>
        rw [hm] at h2
        rw [mrK_new hk hm, wstK_yes hk (.inl h2)]
        exact ⟨rfl, rfl⟩
      | true =>
        rw [hm] at h2
        rw [mrK_on hk hm]
        by_cases hlt : Gn p k < (wstK p set k).1
        · rw [wstK_yes hk (.inr hlt)]
          refine ⟨?_, rfl⟩
          simp only [dif_nil]
          omega
        · rw [wstK_no (.inr (by rw [h2]; simp; omega))]
          refine ⟨?_, h2⟩
          simp only [dif_nil]
          omega
theorem wst_mr (p : List Int) (set : Int) : wst p set = mrLo set p [] := (wstK_mr p set p.length).1
theorem small_nil : Small [] := ⟨by simp, fun i => by simp [nth]⟩

theorem suite_set {c : Int} {W : List Int} {S : List (List Int)} (hs : Suite c W S) {i k : Nat} (hi : i < S.length) (hk : k < W.length) : (1 ≤ nth (nth S i) k ∧ nth (nth S i) k ≤ 1000) ∧ k < (nth S i).length := by
  have h1 := hs.2.2.2.2 i hi
  have h2 := h1.2 k (by omega)
  obtain ⟨m, e, h3⟩ := pow_c hs.1
  omega

set_option maxRecDepth 100000 in
set_option maxHeartbeats 4000000 in
theorem rleast_ok (c : Int) (W : List Int) (S : List (List Int)) (dist : Nat) (l : List Int) (hs : Suite c W S) (hk : dist < W.length) (hl : Small l) :
    CallsTo Try.prog 37 [.agg [i64 c, ints W, intss S], i64 dist, ints l] (i64 (daySum S dist l S.length)) := by
  have hS := hs.2.2.1
  have hW := hs.2.1.2
  have q : ∀ i, i < S.length → CallsTo Try.prog 87 [i64 (nth (nth S i) dist), ints l, ints []] (.agg [i64 (wst l (nth (nth S i) dist)), i64 (mrHi (nth (nth S i) dist) l [])]) := fun i hi => by
    rw [wst_mr]
    have := suite_set hs hi hk
    exact more_ok _ l [] (by omega) hl small_nil (.inl rfl)
  refine calls_abs Try.func37 Try.ntmps37 Try.results37 Try.call37 rfl (by simp) fun w0 S0 M0 => ?_
  repeat' (first
      | refine abs_seq ?_
      | refine abs_block ?_
      | refine abs_skip ?_
      | refine abs_exit ?_
      | refine abs_ret ?_
      | ((first | refine abs_region fun K hK => ?_ | refine abs_draw Try.ty.mixed (by kernel_rfl) fun K hK => ?_ | refine abs_if ?_ | show retQ _ _ _ _ _); simp -implicitDefEqProofs only [go_sem, bas, basL, Nat.reduceAdd, Nat.reduceSub, Nat.reduceMul, Nat.reduceLT, Nat.reduceLeDiff, Nat.reduceEqDiff, Nat.reduceBEq, Int.reduceLT, Int.reduceLE, Int.reduceToNat, Int.reduceAdd, Int.reduceSub, Int.reduceMul, Int.reduceNeg, Int.reduceEq, reduceCtorEq, eq_self, ne_eq, not_false_eq_true, if_true, reduceIte])
      | ((first | (refine hK _ ?_; clear hK K) | show thenQ _ _ _ _ | show blockQ _ _ _ _); simp only [thenQ, blockQ, if_true, Nat.reduceEqDiff, reduceIte])
      | (intro hg; first | (exfalso; omega) | (exfalso; contradiction) | skip)
      | apply And.intro
      | (with_reducible rfl)
      | (clear hK; omega)
      | omega)
  refine abs_loopN (ι := Nat) (fun i => [(1, i64 dist), (2, ints l), (3, .box 0 0), (7, i64 (daySum S dist l i)), (8, i64 i)]) (fun _ => [.mu [i64 c, ints W, intss S]]) (fun _ => [])
    (fun i => i ≤ S.length) (fun i => S.length - i) (fun _ _ => ⟨rfl, rfl⟩) 0 (Nat.zero_le _) (le_of rfl (by try simp -implicitDefEqProofs only [go_sem, bas, basL, Nat.reduceAdd, Nat.reduceSub, Nat.reduceMul, Nat.reduceLT, Nat.reduceLeDiff, Nat.reduceEqDiff, Nat.reduceBEq, Int.reduceLT, Int.reduceLE, Int.reduceToNat, Int.reduceAdd, Int.reduceSub, Int.reduceMul, Int.reduceNeg, Int.reduceEq, reduceCtorEq, eq_self, ne_eq, not_false_eq_true, if_true, reduceIte]; try simp [daySum, sumTo]) ⟨_, rfl⟩ ⟨_, rfl⟩) (fun i hi => ?_)
  have q1 := sumTo_bd (f := fun i => wst l (nth (nth S i) dist)) (lo := -30000) (hi := 20000) i (fun i _ => wstK_bd hl _ _)
  have q2 : daySum S dist l i = sumTo (fun i => wst l (nth (nth S i) dist)) i := rfl
  have q3 : -30000 ≤ wst l (nth (nth S i) dist) ∧ wst l (nth (nth S i) dist) ≤ 20000 := wstK_bd hl _ _
  have q4 : i < S.length → dist < (nth S i).length := fun h => (suite_set hs h hk).2
  simp -implicitDefEqProofs only [go_sem, bas, basL, Nat.reduceAdd, Nat.reduceSub, Nat.reduceMul, Nat.reduceLT, Nat.reduceLeDiff, Nat.reduceEqDiff, Nat.reduceBEq, Int.reduceLT, Int.reduceLE, Int.reduceToNat, Int.reduceAdd, Int.reduceSub, Int.reduceMul, Int.reduceNeg, Int.reduceEq, reduceCtorEq, eq_self, ne_eq, not_false_eq_true, if_true, reduceIte]
  repeat' (first
      | refine abs_seq ?_
      | refine abs_block ?_
      | refine abs_skip ?_
      | refine abs_exit ?_
      | refine abs_ret ?_
      | ((first | refine abs_region fun K hK => ?_ | refine abs_draw Try.ty.mixed (by kernel_rfl) fun K hK => ?_ | refine abs_if ?_ | show retQ _ _ _ _ _ | refine callK (q i (by omega)) ?_); simp -implicitDefEqProofs only [go_sem, bas, basL, Nat.reduceAdd, Nat.reduceSub, Nat.reduceMul, Nat.reduceLT, Nat.reduceLeDiff, Nat.reduceEqDiff, Nat.reduceBEq, Int.reduceLT, Int.reduceLE, Int.reduceToNat, Int.reduceAdd, Int.reduceSub, Int.reduceMul, Int.reduceNeg, Int.reduceEq, reduceCtorEq, eq_self, ne_eq, not_false_eq_true, if_true, reduceIte])
      | ((first | (refine hK _ ?_; clear hK K) | show thenQ _ _ _ _ | show blockQ _ _ _ _); simp only [thenQ, blockQ, if_true, Nat.reduceEqDiff, reduceIte])
      | (intro hg; first | (exfalso; omega) | (exfalso; contradiction) | skip)
      | apply And.intro
      | (with_reducible rfl)
      | (clear hK; omega)
      | omega)
  · exact ⟨i + 1, by omega, by omega, le_of rfl (by try simp -implicitDefEqProofs only [go_sem, bas, basL, Nat.reduceAdd, Nat.reduceSub, Nat.reduceMul, Nat.reduceLT, Nat.reduceLeDiff, Nat.reduceEqDiff, Nat.reduceBEq, Int.reduceLT, Int.reduceLE, Int.reduceToNat, Int.reduceAdd, Int.reduceSub, Int.reduceMul, Int.reduceNeg, Int.reduceEq, reduceCtorEq, eq_self, ne_eq, not_false_eq_true, if_true, reduceIte]; try simp [daySum, sumTo]) ⟨_, rfl⟩ ⟨_, rfl⟩⟩
  · obtain rfl : i = S.length := by omega
    rfl

set_option maxRecDepth 100000 in
set_option maxHeartbeats 4000000 in
theorem rclimate_ok (c : Int) (W : List Int) (S : List (List Int)) (dist : Nat) (hs : Suite c W S) (hk : dist < W.length) :
    CallsTo Try.prog 36 [.agg [i64 c, ints W, intss S], i64 dist] (ints (clim c S dist)) := by
  have hc := hs.1
  have q1 := stat_ok c 1 (by omega) (by decide) (by decide)
  have q2 := stm_len (c := c.toNat) (step := 1) (by omega) (by decide)
  have q3 : ∀ x ∈ stm c.toNat 1, Parts x := fun x hx => (stm_parts (c := c.toNat) (step := 1) (by omega) (by decide) hx).1
  have q4 := List.length_pos_iff.2 (stm_ne (c := c.toNat) (step := 1) (by decide))
  unfold clim bestS
  generalize stm c.toNat 1 = Z at *
  have q5 : ∀ i, i < Z.length → CallsTo Try.prog 37 [.agg [i64 c, ints W, intss S], i64 dist, ints (nth Z i)] (i64 (daySum S dist (nth Z i) S.length)) := fun i hi =>
    rleast_ok c W S dist _ hs hk (q3 _ (by rw [nth_eq Z i hi]; exact List.getElem_mem hi)).small
  generalize hw : (fun p => daySum S dist p S.length) = w
  have q6 : ∀ i, i < Z.length → CallsTo Try.prog 37 [.agg [i64 c, ints W, intss S], i64 dist, ints (nth Z i)] (i64 (w (nth Z i))) := fun i hi => by rw [← hw]; exact q5 i hi
  have e0 : (bst w Z 1) = (nth Z 0, w (nth Z 0)) := by rw [bst_one]
  clear q5
  refine calls_abs Try.func36 Try.ntmps36 Try.results36 Try.call36 rfl (by simp) fun w0 S0 M0 => ?_
  repeat' (first
      | refine abs_seq ?_
      | refine abs_block ?_
      | refine abs_skip ?_
      | refine abs_exit ?_
      | refine abs_ret ?_
      | ((first | refine abs_region fun K hK => ?_ | refine abs_draw Try.ty.mixed (by kernel_rfl) fun K hK => ?_ | refine abs_if ?_ | show retQ _ _ _ _ _ | refine callK (q1) ?_ | refine callK (q6 0 q4) ?_); simp -implicitDefEqProofs only [go_sem, bas, basL, Nat.reduceAdd, Nat.reduceSub, Nat.reduceMul, Nat.reduceLT, Nat.reduceLeDiff, Nat.reduceEqDiff, Nat.reduceBEq, Int.reduceLT, Int.reduceLE, Int.reduceToNat, Int.reduceAdd, Int.reduceSub, Int.reduceMul, Int.reduceNeg, Int.reduceEq, reduceCtorEq, eq_self, ne_eq, not_false_eq_true, if_true, reduceIte])
      | ((first | (refine hK _ ?_; clear hK K) | show thenQ _ _ _ _ | show blockQ _ _ _ _); simp only [thenQ, blockQ, if_true, Nat.reduceEqDiff, reduceIte])
      | (intro hg; first | (exfalso; omega) | (exfalso; contradiction) | skip)
      | apply And.intro
      | (with_reducible rfl)
      | (clear hK; omega)
      | omega)
  refine abs_loopN (ι := Nat) (fun j => [(1, i64 dist), (2, .box 0 0), (5, intss Z), (6, ints (bst w Z j).1), (7, i64 (bst w Z j).2), (8, i64 j)]) (fun _ => [.mu [i64 c, ints W, intss S]]) (fun _ => [])
    (fun j => 1 ≤ j ∧ j ≤ Z.length) (fun j => Z.length - j) (fun _ _ => ⟨rfl, rfl⟩) 1 ⟨Nat.le_refl _, q4⟩ (le_of rfl (by try simp -implicitDefEqProofs only [go_sem, bas, basL, Nat.reduceAdd, Nat.reduceSub, Nat.reduceMul, Nat.reduceLT, Nat.reduceLeDiff, Nat.reduceEqDiff, Nat.reduceBEq, Int.reduceLT, Int.reduceLE, Int.reduceToNat, Int.reduceAdd, Int.reduceSub, Int.reduceMul, Int.reduceNeg, Int.reduceEq, reduceCtorEq, eq_self, ne_eq, not_false_eq_true, if_true, reduceIte]; try simp [e0]) ⟨_, rfl⟩ ⟨_, rfl⟩) (fun j hj => ?_)
  simp -implicitDefEqProofs only [go_sem, bas, basL, Nat.reduceAdd, Nat.reduceSub, Nat.reduceMul, Nat.reduceLT, Nat.reduceLeDiff, Nat.reduceEqDiff, Nat.reduceBEq, Int.reduceLT, Int.reduceLE, Int.reduceToNat, Int.reduceAdd, Int.reduceSub, Int.reduceMul, Int.reduceNeg, Int.reduceEq, reduceCtorEq, eq_self, ne_eq, not_false_eq_true, if_true, reduceIte]
  repeat' (first
      | refine abs_seq ?_
      | refine abs_block ?_
      | refine abs_skip ?_
      | refine abs_exit ?_
      | refine abs_ret ?_
      | ((first | refine abs_region fun K hK => ?_ | refine abs_draw Try.ty.mixed (by kernel_rfl) fun K hK => ?_ | refine abs_if ?_ | show retQ _ _ _ _ _ | refine callK (q6 j (by omega)) ?_); simp -implicitDefEqProofs only [go_sem, bas, basL, Nat.reduceAdd, Nat.reduceSub, Nat.reduceMul, Nat.reduceLT, Nat.reduceLeDiff, Nat.reduceEqDiff, Nat.reduceBEq, Int.reduceLT, Int.reduceLE, Int.reduceToNat, Int.reduceAdd, Int.reduceSub, Int.reduceMul, Int.reduceNeg, Int.reduceEq, reduceCtorEq, eq_self, ne_eq, not_false_eq_true, if_true, reduceIte])
      | ((first | (refine hK _ ?_; clear hK K) | show thenQ _ _ _ _ | show blockQ _ _ _ _); simp only [thenQ, blockQ, if_true, Nat.reduceEqDiff, reduceIte])
      | (intro hg; first | (exfalso; omega) | (exfalso; contradiction) | skip)
      | apply And.intro
      | (with_reducible rfl)
      | (clear hK; omega)
      | omega)
  · have e := bst_yes (w := w) (l := Z) (k := j) (.inr hg)
    exact ⟨j + 1, by omega, by omega, le_of rfl (by try simp -implicitDefEqProofs only [go_sem, bas, basL, Nat.reduceAdd, Nat.reduceSub, Nat.reduceMul, Nat.reduceLT, Nat.reduceLeDiff, Nat.reduceEqDiff, Nat.reduceBEq, Int.reduceLT, Int.reduceLE, Int.reduceToNat, Int.reduceAdd, Int.reduceSub, Int.reduceMul, Int.reduceNeg, Int.reduceEq, reduceCtorEq, eq_self, ne_eq, not_false_eq_true, if_true, reduceIte]; try simp [e]) ⟨_, rfl⟩ ⟨_, rfl⟩⟩
  · have e := bst_no (w := w) (l := Z) (k := j) (by omega) hg
    exact ⟨j + 1, by omega, by omega, le_of rfl (by try simp -implicitDefEqProofs only [go_sem, bas, basL, Nat.reduceAdd, Nat.reduceSub, Nat.reduceMul, Nat.reduceLT, Nat.reduceLeDiff, Nat.reduceEqDiff, Nat.reduceBEq, Int.reduceLT, Int.reduceLE, Int.reduceToNat, Int.reduceAdd, Int.reduceSub, Int.reduceMul, Int.reduceNeg, Int.reduceEq, reduceCtorEq, eq_self, ne_eq, not_false_eq_true, if_true, reduceIte]; try simp [e]) ⟨_, rfl⟩ ⟨_, rfl⟩⟩
  · obtain rfl : j = Z.length := by omega
    rfl

set_option maxRecDepth 100000 in
set_option maxHeartbeats 4000000 in
theorem rclimates_ok (c : Int) (W : List Int) (S : List (List Int)) (hs : Suite c W S) :
    CallsTo Try.prog 40 [.agg [i64 c, ints W, intss S]] (intsss (List.replicate S.length (clims c S W.length))) := by
  have hS := hs.2.2.1
  have hW := hs.2.1.2
  have e9 : intsss (List.replicate S.length (clims c S W.length)) = .list (List.replicate S.length (intss (clims c S W.length))) := by simp [List.map_replicate]
  rw [e9]
  refine calls_abs Try.func40 Try.ntmps40 Try.results40 Try.call40 rfl (by simp) fun w0 S0 M0 => ?_
  repeat' (first
      | refine abs_seq ?_
      | refine abs_block ?_
      | refine abs_skip ?_
      | refine abs_exit ?_
      | refine abs_ret ?_
      | ((first | refine abs_region fun K hK => ?_ | refine abs_draw Try.ty.mixed (by kernel_rfl) fun K hK => ?_ | refine abs_if ?_ | show retQ _ _ _ _ _); simp -implicitDefEqProofs only [go_sem, bas, basL, Nat.reduceAdd, Nat.reduceSub, Nat.reduceMul, Nat.reduceLT, Nat.reduceLeDiff, Nat.reduceEqDiff, Nat.reduceBEq, Int.reduceLT, Int.reduceLE, Int.reduceToNat, Int.reduceAdd, Int.reduceSub, Int.reduceMul, Int.reduceNeg, Int.reduceEq, reduceCtorEq, eq_self, ne_eq, not_false_eq_true, if_true, reduceIte])
      | ((first | (refine hK _ ?_; clear hK K) | show thenQ _ _ _ _ | show blockQ _ _ _ _); simp only [thenQ, blockQ, if_true, Nat.reduceEqDiff, reduceIte])
      | (intro hg; first | (exfalso; omega) | (exfalso; contradiction) | skip)
      | apply And.intro
      | (with_reducible rfl)
      | (clear hK; omega)
      | omega)
  refine abs_adopt 3 22 1 rfl ?_
  refine abs_loopN (ι := Nat) (fun k => [(1, .box 0 0), (3, .own 0), (4, i64 k)]) (fun _ => [.mu [i64 c, ints W, intss S]]) (fun k => [⟨true, 22, 1, (clims c S k).map ints⟩])
    (fun k => k ≤ W.length) (fun k => W.length - k) (fun _ _ => ⟨rfl, rfl⟩) 0 (Nat.zero_le _) (le_of rfl (by try simp -implicitDefEqProofs only [go_sem, bas, basL, Nat.reduceAdd, Nat.reduceSub, Nat.reduceMul, Nat.reduceLT, Nat.reduceLeDiff, Nat.reduceEqDiff, Nat.reduceBEq, Int.reduceLT, Int.reduceLE, Int.reduceToNat, Int.reduceAdd, Int.reduceSub, Int.reduceMul, Int.reduceNeg, Int.reduceEq, reduceCtorEq, eq_self, ne_eq, not_false_eq_true, if_true, reduceIte]; try simp) ⟨_, rfl⟩ ⟨_, rfl⟩) (fun k hk => ?_)
  have hcl : (clims c S k).length = k := by simp [clims]
  simp -implicitDefEqProofs only [go_sem, bas, basL, Nat.reduceAdd, Nat.reduceSub, Nat.reduceMul, Nat.reduceLT, Nat.reduceLeDiff, Nat.reduceEqDiff, Nat.reduceBEq, Int.reduceLT, Int.reduceLE, Int.reduceToNat, Int.reduceAdd, Int.reduceSub, Int.reduceMul, Int.reduceNeg, Int.reduceEq, reduceCtorEq, eq_self, ne_eq, not_false_eq_true, if_true, reduceIte]
  repeat' (first
      | refine abs_seq ?_
      | refine abs_block ?_
      | refine abs_skip ?_
      | refine abs_exit ?_
      | refine abs_ret ?_
      | ((first | refine abs_region fun K hK => ?_ | refine abs_draw Try.ty.mixed (by kernel_rfl) fun K hK => ?_ | refine abs_if ?_ | show retQ _ _ _ _ _ | refine callK (rclimate_ok c W S k hs (by omega)) ?_); simp -implicitDefEqProofs only [go_sem, bas, basL, Nat.reduceAdd, Nat.reduceSub, Nat.reduceMul, Nat.reduceLT, Nat.reduceLeDiff, Nat.reduceEqDiff, Nat.reduceBEq, Int.reduceLT, Int.reduceLE, Int.reduceToNat, Int.reduceAdd, Int.reduceSub, Int.reduceMul, Int.reduceNeg, Int.reduceEq, reduceCtorEq, eq_self, ne_eq, not_false_eq_true, if_true, reduceIte])
      | ((first | (refine hK _ ?_; clear hK K) | show thenQ _ _ _ _ | show blockQ _ _ _ _); simp only [thenQ, blockQ, if_true, Nat.reduceEqDiff, reduceIte])
      | (intro hg; first | (exfalso; omega) | (exfalso; contradiction) | skip)
      | apply And.intro
      | (with_reducible rfl)
      | (clear hK; omega)
      | omega)
  · exact ⟨k + 1, by omega, by omega, le_of rfl (by try simp -implicitDefEqProofs only [go_sem, bas, basL, Nat.reduceAdd, Nat.reduceSub, Nat.reduceMul, Nat.reduceLT, Nat.reduceLeDiff, Nat.reduceEqDiff, Nat.reduceBEq, Int.reduceLT, Int.reduceLE, Int.reduceToNat, Int.reduceAdd, Int.reduceSub, Int.reduceMul, Int.reduceNeg, Int.reduceEq, reduceCtorEq, eq_self, ne_eq, not_false_eq_true, if_true, reduceIte]; try simp) ⟨_, rfl⟩ ⟨[], by simp [clims_succ, clim]⟩⟩
  obtain rfl : k = W.length := by omega
  refine abs_adopt 5 40 1 rfl ?_
  refine abs_loopN (ι := Nat) (fun i => [(1, .box 0 0), (3, .own 0), (5, .own 1), (6, i64 i)]) (fun _ => [.mu [i64 c, ints W, intss S]]) (fun i => [⟨true, 22, 1, (clims c S W.length).map ints⟩, ⟨true, 40, 1, List.replicate i (intss (clims c S W.length))⟩])
    (fun i => i ≤ S.length) (fun i => S.length - i) (fun _ _ => ⟨rfl, rfl⟩) 0 (Nat.zero_le _) (le_of rfl (by try simp -implicitDefEqProofs only [go_sem, bas, basL, Nat.reduceAdd, Nat.reduceSub, Nat.reduceMul, Nat.reduceLT, Nat.reduceLeDiff, Nat.reduceEqDiff, Nat.reduceBEq, Int.reduceLT, Int.reduceLE, Int.reduceToNat, Int.reduceAdd, Int.reduceSub, Int.reduceMul, Int.reduceNeg, Int.reduceEq, reduceCtorEq, eq_self, ne_eq, not_false_eq_true, if_true, reduceIte]; try simp) ⟨_, rfl⟩ ⟨_, rfl⟩) (fun i hi => ?_)
  have hrl : (List.replicate i (intss (clims c S W.length))).length = i := by simp
  simp -implicitDefEqProofs only [go_sem, bas, basL, Nat.reduceAdd, Nat.reduceSub, Nat.reduceMul, Nat.reduceLT, Nat.reduceLeDiff, Nat.reduceEqDiff, Nat.reduceBEq, Int.reduceLT, Int.reduceLE, Int.reduceToNat, Int.reduceAdd, Int.reduceSub, Int.reduceMul, Int.reduceNeg, Int.reduceEq, reduceCtorEq, eq_self, ne_eq, not_false_eq_true, if_true, reduceIte]
  repeat' (first
      | refine abs_seq ?_
      | refine abs_block ?_
      | refine abs_skip ?_
      | refine abs_exit ?_
      | refine abs_ret ?_
      | ((first | refine abs_region fun K hK => ?_ | refine abs_draw Try.ty.mixed (by kernel_rfl) fun K hK => ?_ | refine abs_if ?_ | show retQ _ _ _ _ _); simp -implicitDefEqProofs only [go_sem, bas, basL, Nat.reduceAdd, Nat.reduceSub, Nat.reduceMul, Nat.reduceLT, Nat.reduceLeDiff, Nat.reduceEqDiff, Nat.reduceBEq, Int.reduceLT, Int.reduceLE, Int.reduceToNat, Int.reduceAdd, Int.reduceSub, Int.reduceMul, Int.reduceNeg, Int.reduceEq, reduceCtorEq, eq_self, ne_eq, not_false_eq_true, if_true, reduceIte])
      | ((first | (refine hK _ ?_; clear hK K) | show thenQ _ _ _ _ | show blockQ _ _ _ _); simp only [thenQ, blockQ, if_true, Nat.reduceEqDiff, reduceIte])
      | (intro hg; first | (exfalso; omega) | (exfalso; contradiction) | skip)
      | apply And.intro
      | (with_reducible rfl)
      | (clear hK; omega)
      | omega)
  · exact ⟨i + 1, by omega, by omega, le_of rfl (by try simp -implicitDefEqProofs only [go_sem, bas, basL, Nat.reduceAdd, Nat.reduceSub, Nat.reduceMul, Nat.reduceLT, Nat.reduceLeDiff, Nat.reduceEqDiff, Nat.reduceBEq, Int.reduceLT, Int.reduceLE, Int.reduceToNat, Int.reduceAdd, Int.reduceSub, Int.reduceMul, Int.reduceNeg, Int.reduceEq, reduceCtorEq, eq_self, ne_eq, not_false_eq_true, if_true, reduceIte]; try simp) ⟨_, rfl⟩ ⟨[], by simp [List.replicate_succ']⟩⟩
  · obtain rfl : i = S.length := by omega
    rfl

theorem bestS_val2 (w : List Int → Int) {c : Nat} {step : Int} (h : 1 ≤ step) : (bestS w c step).2 = w (bestS w c step).1 := by
  have hp := List.length_pos_iff.2 (stm_ne (c := c) h)
  unfold bestS
  obtain ⟨m, hm⟩ : ∃ m, (stm c step).length = m + 1 := ⟨(stm c step).length - 1, by omega⟩
  rw [hm]; exact bst_val w _ m
theorem climN_val (c : Int) (S : List (List Int)) (k : Nat) : climN c S k = daySum S k (clim c S k) S.length := bestS_val2 (fun p => daySum S k p S.length) (by decide)
end Go.Proofs.Ythamljpomhjepaa
