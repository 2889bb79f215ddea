import Derived.Test.YthamljpomhjepaaQ8
import Derived.Test.YthamljpomhjepaaQ5
import Derived.Test.YthamljpomhjepaaAbV
set_option linter.unusedVariables false
set_option linter.unusedSimpArgs false
namespace Go.Proofs.Ythamljpomhjepaa
open Go.Ab
attribute [local irreducible] Abs CallK CallR CallsTo

/-- What was seen in one district. -/
def alS (S : List (List Int)) (k n : Nat) : List (List Int) := (List.range n).map fun i => [nth (nth S i) k]
theorem alS_succ (S : List (List Int)) (k n : Nat) : alS S k (n + 1) = alS S k n ++ [[nth (nth S n) k]] := by simp [alS, List.range_succ]
theorem alS_len (S : List (List Int)) (k n : Nat) : (alS S k n).length = n := by simp [alS]
theorem alS_nth (S : List (List Int)) (k : Nat) {n i : Nat} (h : i < n) : nth (alS S k n) i = [nth (nth S i) k] := by simp [alS, nth, h]
theorem rep_nth {α : Type} [Inhabited α] (a : α) {n i : Nat} (h : i < n) : nth (List.replicate n a) i = a := by simp [nth, h]
theorem al_suite {c : Int} {W : List Int} {S : List (List Int)} (hs : Suite c W S) {k : Nat} (hk : k < W.length) : Suite c [1] (alS S k S.length) := by
  refine ⟨hs.1, by simp, by rw [alS_len]; exact hs.2.2.1, fun i hi => ?_, fun i hi => ?_⟩
  · have : i = 0 := by simp at hi; omega
    subst this
    decide
  · rw [alS_len] at hi
    rw [alS_nth S k hi]
    refine ⟨rfl, fun j hj => ?_⟩
    have : j = 0 := by simp at hj; omega
    subst this
    have h5 := hs.2.2.2.2 i hi
    exact h5.2 k (by omega)
theorem al_fore {c : Int} {W : List Int} {S : List (List Int)} (hs : Suite c W S) {k : Nat} (hk : k < W.length) {l : List Int} (hl : Parts l) (hc : (l.length : Int) = c) : Fore c [1] (alS S k S.length) (List.replicate S.length [l]) := by
  refine ⟨by simp [alS_len], fun i hi => ?_⟩
  rw [List.length_replicate] at hi
  rw [rep_nth _ hi]
  refine ⟨rfl, fun j hj => ?_⟩
  have : j = 0 := by simp at hj; omega
  subst this
  exact ⟨hc, hl⟩
theorem al_day {c : Int} {W : List Int} {S : List (List Int)} {k : Nat} (p : List Int) : daySum (alS S k S.length) 0 p (alS S k S.length).length = daySum S k p S.length := by
  rw [alS_len]
  unfold daySum
  exact sumTo_cg _ fun i hi => by rw [alS_nth S k hi]; rfl
theorem al_clim {c : Int} {S : List (List Int)} {k : Nat} : clim c (alS S k S.length) 0 = clim c S k := by
  unfold clim
  rw [show (fun p => daySum (alS S k S.length) 0 p (alS S k S.length).length) = fun p => daySum S k p S.length from funext fun p => al_day (c := c) (W := []) p]
theorem al_clims {c : Int} {S : List (List Int)} {k : Nat} : List.replicate (alS S k S.length).length (clims c (alS S k S.length) ([1] : List Int).length) = List.replicate S.length [clim c S k] := by
  rw [alS_len]
  congr 1
  simp [clims, al_clim]
theorem al_low {c : Int} {W : List Int} {S : List (List Int)} (hs : Suite c W S) {k : Nat} (hk : k < W.length) {l : List Int} (hl : Parts l) (hc : (l.length : Int) = c) : Sd.tlo ⟨c, [1], alS S k S.length, List.replicate S.length [l], none⟩ = daySum S k l S.length := by
  have h : Sd.Ok ⟨c, [1], alS S k S.length, List.replicate S.length [l], none⟩ := ⟨al_suite hs hk, al_fore hs hk hl hc, fun _ h => by cases h⟩
  rw [(tlo_eq h).1]
  simp only [alS_len]
  unfold daySum tS
  refine sumTo_cg _ fun i hi => ?_
  simp only [List.length_singleton, sumTo, sdL, othL]
  rw [alS_nth S k hi, rep_nth _ hi, wst_mr]
  simp [nth]
theorem al_zero {c : Int} {W : List Int} {S : List (List Int)} (hs : Suite c W S) {k : Nat} (hk : k < W.length) {l : List Int} (hl : Parts l) (hc : (l.length : Int) = c) :
    Sd.tlo ⟨c, [1], alS S k S.length, List.replicate S.length [l], some (List.replicate S.length [l])⟩ = 0 ∧ Sd.thi ⟨c, [1], alS S k S.length, List.replicate S.length [l], some (List.replicate S.length [l])⟩ = 0 := by
  have hf := al_fore hs hk hl hc
  have h : Sd.Ok ⟨c, [1], alS S k S.length, List.replicate S.length [l], some (List.replicate S.length [l])⟩ := ⟨al_suite hs hk, hf, fun _ h => by cases h; exact hf⟩
  have hz : ∀ n, sumTo (fun _ => 0) n = 0 := fun n => by induction n with | zero => rfl | succ n ih => simp only [sumTo, ih]; rfl
  have key : ∀ i j, i < S.length → j < 1 → sdL ⟨c, [1], alS S k S.length, List.replicate S.length [l], some (List.replicate S.length [l])⟩ i j = 0 ∧ sdH ⟨c, [1], alS S k S.length, List.replicate S.length [l], some (List.replicate S.length [l])⟩ i j = 0 := fun i j hi hj => by
    obtain ⟨⟨a, a1, a2, a3⟩, ⟨b, b1, b2, b3⟩, _⟩ := mr_lo (o := othL (some (List.replicate S.length [l])) i j) (sd_set h (show i < (alS S k S.length).length by rw [alS_len]; exact hi) hj)
    have z : ∀ n, dif (nth (nth (List.replicate S.length [l]) i) j) (othL (some (List.replicate S.length [l])) i j) n = 0 := fun n => by
      unfold dif othL
      have hp : 0 < (nth (nth (List.replicate S.length [l]) i) j).length := by
        rw [rep_nth _ hi]
        have : j = 0 := by omega
        subst this
        have := hl.2.1
        show 0 < l.length
        omega
      simp only [if_pos hp]
      omega
    exact ⟨a3.trans (z a), b3.trans (z b)⟩
  rw [(tlo_eq h).1, (tlo_eq h).2]
  simp only [alS_len]
  unfold tS
  constructor
  · rw [sumTo_cg (g := fun _ => 0) _ (fun i hi => by
      rw [sumTo_cg (g := fun _ => 0) _ (fun j hj => by show nth [1] j * sdL _ i j = 0; rw [(key i j hi (by simpa using hj)).1]; simp)]; exact hz _)]
    exact hz _
  · rw [sumTo_cg (g := fun _ => 0) _ (fun i hi => by
      rw [sumTo_cg (g := fun _ => 0) _ (fun j hj => by show nth [1] j * sdH _ i j = 0; rw [(key i j hi (by simpa using hj)).2]; simp)]; exact hz _)]
    exact hz _
theorem al_best {c : Int} {S : List (List Int)} {k : Nat} {o : List Int} (ho : Parts o) (hc : (o.length : Int) = c) :
    daySum S k o S.length ≤ daySum S k (clim c S k) S.length ∧ (daySum S k o S.length = daySum S k (clim c S k) S.length → before o (clim c S k) = false) := by
  have hm : o ∈ stm c.toNat 1 := by
    have := stt_mem (b := o) (l := o) (step := 1) (by decide) ⟨fun i _ => by simp, ho, rfl⟩
    rwa [show o.length = c.toNat by omega] at this
  exact best_near (w := fun p => daySum S k p S.length) (c := c.toNat) (by decide) hm

set_option maxRecDepth 100000 in
set_option maxHeartbeats 4000000 in
theorem alone_ok (c : Int) (W : List Int) (S : List (List Int)) (k : Nat) (hs : Suite c W S) (hk : k < W.length) : CallsTo Try.prog 47 [.agg [i64 c, ints W, intss S], i64 k] (.agg [i64 c, ints [1], intss (alS S k S.length)]) := by
  have hS := hs.2.2.1
  have hW := hs.2.1.2
  have hb0 := fun {i} => set_bd hs (i := i) (k := k)
  refine calls_abs Try.func47 Try.ntmps47 Try.results47 Try.call47 rfl (by simp) fun w0 S0 M0 => ?_
  repeat' (first
      | refine abs_seq ?_
      | refine abs_block ?_
      | refine abs_skip ?_
      | refine abs_exit ?_
      | refine abs_ret ?_
      | ((first | refine abs_region fun K hK => ?_ | refine abs_draw Try.ty.mixed (by kernel_rfl) fun K hK => ?_ | refine abs_if ?_ | show retQ _ _ _ _ _); simp -implicitDefEqProofs only [go_sem, bas, basL, Nat.reduceAdd, Nat.reduceSub, Nat.reduceMul, Nat.reduceLT, Nat.reduceLeDiff, Nat.reduceEqDiff, Nat.reduceBEq, Int.reduceLT, Int.reduceLE, Int.reduceToNat, Int.reduceAdd, Int.reduceSub, Int.reduceMul, Int.reduceNeg, Int.reduceEq, reduceCtorEq, eq_self, ne_eq, not_false_eq_true, if_true, reduceIte])
      | ((first | (refine hK _ ?_; clear hK K) | show thenQ _ _ _ _ | show blockQ _ _ _ _); simp only [thenQ, blockQ, if_true, Nat.reduceEqDiff, reduceIte])
      | (intro hg; first | (exfalso; omega) | (exfalso; contradiction) | skip)
      | apply And.intro
      | (with_reducible rfl)
      | (clear hK; omega)
      | omega)
  refine abs_adoptB 2 2 22 1 _ rfl rfl ?_
  refine abs_loopN (ι := Nat) (fun i => [(1, i64 k), (2, .box 0 0), (4, .box 1 0), (5, .box 2 0), (6, i64 i)]) (fun _ => [.mu [i64 c, ints W, intss S], .mu [i64 0, .val (.slice none 0 0), .val (.slice none 0 0)], .mu [i64 c, ints [1], .own 0]]) (fun i => [⟨true, 22, 1, (alS S k i).map ints⟩])
    (fun i => i ≤ S.length) (fun i => S.length - i) (fun _ _ => ⟨rfl, rfl⟩) 0 (Nat.zero_le _) (le_of rfl (by try simp -implicitDefEqProofs only [go_sem, bas, basL, Nat.reduceAdd, Nat.reduceSub, Nat.reduceMul, Nat.reduceLT, Nat.reduceLeDiff, Nat.reduceEqDiff, Nat.reduceBEq, Int.reduceLT, Int.reduceLE, Int.reduceToNat, Int.reduceAdd, Int.reduceSub, Int.reduceMul, Int.reduceNeg, Int.reduceEq, reduceCtorEq, eq_self, ne_eq, not_false_eq_true, if_true, reduceIte]; try simp) ⟨_, rfl⟩ ⟨_, rfl⟩) (fun i hi => ?_)
  have r2 := alS_len S k i
  have r3 := fun h => hb0 (i := i) h hk
  simp -implicitDefEqProofs only [go_sem, bas, basL, Nat.reduceAdd, Nat.reduceSub, Nat.reduceMul, Nat.reduceLT, Nat.reduceLeDiff, Nat.reduceEqDiff, Nat.reduceBEq, Int.reduceLT, Int.reduceLE, Int.reduceToNat, Int.reduceAdd, Int.reduceSub, Int.reduceMul, Int.reduceNeg, Int.reduceEq, reduceCtorEq, eq_self, ne_eq, not_false_eq_true, if_true, reduceIte]
  repeat' (first
      | refine abs_seq ?_
      | refine abs_block ?_
      | refine abs_skip ?_
      | refine abs_exit ?_
      | refine abs_ret ?_
      | ((first | (show Abs _ (.region 5 _ true) _ _; refine abs_drawX [(20, 31), (23, 31), (26, 31)] [5] Try.ty.mixed (by kernel_rfl) fun K hK => ?_) | show Sep _ _ | show Bxs _ _ | refine abs_region fun K hK => ?_ | refine abs_draw Try.ty.mixed (by kernel_rfl) fun K hK => ?_ | refine abs_if ?_ | show retQ _ _ _ _ _); simp -implicitDefEqProofs only [go_sem, bas, basL, Nat.reduceAdd, Nat.reduceSub, Nat.reduceMul, Nat.reduceLT, Nat.reduceLeDiff, Nat.reduceEqDiff, Nat.reduceBEq, Int.reduceLT, Int.reduceLE, Int.reduceToNat, Int.reduceAdd, Int.reduceSub, Int.reduceMul, Int.reduceNeg, Int.reduceEq, reduceCtorEq, eq_self, ne_eq, not_false_eq_true, if_true, reduceIte])
      | ((first | (refine hK _ ?_; clear hK K) | show thenQ _ _ _ _ | show blockQ _ _ _ _); simp only [thenQ, blockQ, if_true, Nat.reduceEqDiff, reduceIte])
      | (intro hg; first | (exfalso; omega) | (exfalso; contradiction) | skip)
      | apply And.intro
      | (with_reducible rfl)
      | (clear hK; omega)
      | omega)
  · exact ⟨i + 1, by omega, by omega, le_of rfl (by try simp -implicitDefEqProofs only [go_sem, bas, basL, Nat.reduceAdd, Nat.reduceSub, Nat.reduceMul, Nat.reduceLT, Nat.reduceLeDiff, Nat.reduceEqDiff, Nat.reduceBEq, Int.reduceLT, Int.reduceLE, Int.reduceToNat, Int.reduceAdd, Int.reduceSub, Int.reduceMul, Int.reduceNeg, Int.reduceEq, reduceCtorEq, eq_self, ne_eq, not_false_eq_true, if_true, reduceIte]; try simp) ⟨[], rfl⟩ ⟨[], by simp [alS_succ]⟩⟩
  · obtain rfl : i = S.length := by omega
    rfl

set_option maxRecDepth 100000 in
set_option maxHeartbeats 4000000 in
theorem constant_ok (n : Nat) (l : List Int) (hn : n ≤ 1000000) : CallsTo Try.prog 48 [i64 n, ints l] (intsss (List.replicate n [l])) := by
  have e9 : intsss (List.replicate n [l]) = .list (List.replicate n (.list [ints l])) := by simp [List.map_replicate]
  rw [e9]
  refine calls_abs Try.func48 Try.ntmps48 Try.results48 Try.call48 rfl (by simp) fun w0 S0 M0 => ?_
  repeat' (first
      | refine abs_seq ?_
      | refine abs_block ?_
      | refine abs_skip ?_
      | refine abs_exit ?_
      | refine abs_ret ?_
      | ((first | refine abs_region fun K hK => ?_ | refine abs_draw Try.ty.mixed (by kernel_rfl) fun K hK => ?_ | refine abs_if ?_ | show retQ _ _ _ _ _); simp -implicitDefEqProofs only [go_sem, bas, basL, Nat.reduceAdd, Nat.reduceSub, Nat.reduceMul, Nat.reduceLT, Nat.reduceLeDiff, Nat.reduceEqDiff, Nat.reduceBEq, Int.reduceLT, Int.reduceLE, Int.reduceToNat, Int.reduceAdd, Int.reduceSub, Int.reduceMul, Int.reduceNeg, Int.reduceEq, reduceCtorEq, eq_self, ne_eq, not_false_eq_true, if_true, reduceIte])
      | ((first | (refine hK _ ?_; clear hK K) | show thenQ _ _ _ _ | show blockQ _ _ _ _); simp only [thenQ, blockQ, if_true, Nat.reduceEqDiff, reduceIte])
      | (intro hg; first | (exfalso; omega) | (exfalso; contradiction) | skip)
      | apply And.intro
      | (with_reducible rfl)
      | (clear hK; omega)
      | omega)
  refine abs_adopt 5 40 1 rfl ?_
  refine abs_loopN (ι := Nat) (fun i => [(0, i64 n), (1, ints l), (5, .own 0), (6, i64 i)]) (fun _ => []) (fun i => [⟨true, 40, 1, List.replicate i (.list [ints l])⟩])
    (fun i => i ≤ n) (fun i => n - i) (fun _ _ => ⟨rfl, rfl⟩) 0 (Nat.zero_le _) (le_of rfl (by try simp -implicitDefEqProofs only [go_sem, bas, basL, Nat.reduceAdd, Nat.reduceSub, Nat.reduceMul, Nat.reduceLT, Nat.reduceLeDiff, Nat.reduceEqDiff, Nat.reduceBEq, Int.reduceLT, Int.reduceLE, Int.reduceToNat, Int.reduceAdd, Int.reduceSub, Int.reduceMul, Int.reduceNeg, Int.reduceEq, reduceCtorEq, eq_self, ne_eq, not_false_eq_true, if_true, reduceIte]; try simp) ⟨_, rfl⟩ ⟨_, rfl⟩) (fun i hi => ?_)
  have hrl : (List.replicate i (D.list [ints l])).length = i := by simp
  simp -implicitDefEqProofs only [go_sem, bas, basL, Nat.reduceAdd, Nat.reduceSub, Nat.reduceMul, Nat.reduceLT, Nat.reduceLeDiff, Nat.reduceEqDiff, Nat.reduceBEq, Int.reduceLT, Int.reduceLE, Int.reduceToNat, Int.reduceAdd, Int.reduceSub, Int.reduceMul, Int.reduceNeg, Int.reduceEq, reduceCtorEq, eq_self, ne_eq, not_false_eq_true, if_true, reduceIte]
  repeat' (first
      | refine abs_seq ?_
      | refine abs_block ?_
      | refine abs_skip ?_
      | refine abs_exit ?_
      | refine abs_ret ?_
      | ((first | refine abs_region fun K hK => ?_ | refine abs_draw Try.ty.mixed (by kernel_rfl) fun K hK => ?_ | refine abs_if ?_ | show retQ _ _ _ _ _); simp -implicitDefEqProofs only [go_sem, bas, basL, Nat.reduceAdd, Nat.reduceSub, Nat.reduceMul, Nat.reduceLT, Nat.reduceLeDiff, Nat.reduceEqDiff, Nat.reduceBEq, Int.reduceLT, Int.reduceLE, Int.reduceToNat, Int.reduceAdd, Int.reduceSub, Int.reduceMul, Int.reduceNeg, Int.reduceEq, reduceCtorEq, eq_self, ne_eq, not_false_eq_true, if_true, reduceIte])
      | ((first | (refine hK _ ?_; clear hK K) | show thenQ _ _ _ _ | show blockQ _ _ _ _); simp only [thenQ, blockQ, if_true, Nat.reduceEqDiff, reduceIte])
      | (intro hg; first | (exfalso; omega) | (exfalso; contradiction) | skip)
      | apply And.intro
      | (with_reducible rfl)
      | (clear hK; omega)
      | omega)
  · exact ⟨i + 1, by omega, by omega, le_of rfl (by try simp -implicitDefEqProofs only [go_sem, bas, basL, Nat.reduceAdd, Nat.reduceSub, Nat.reduceMul, Nat.reduceLT, Nat.reduceLeDiff, Nat.reduceEqDiff, Nat.reduceBEq, Int.reduceLT, Int.reduceLE, Int.reduceToNat, Int.reduceAdd, Int.reduceSub, Int.reduceMul, Int.reduceNeg, Int.reduceEq, reduceCtorEq, eq_self, ne_eq, not_false_eq_true, if_true, reduceIte]; try simp) ⟨_, rfl⟩ ⟨[], by simp [List.replicate_succ']⟩⟩
  · obtain rfl : i = n := by omega
    rfl
end Go.Proofs.Ythamljpomhjepaa
