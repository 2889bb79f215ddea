/- The law ScoreTrue returns true for every input (a suite, two forecasts and a class for each day and district), and leaves its arguments as they were.
Its conditions: none beyond those of the given row, which are the ones that the statement itself names. -/
import Derived.Test.YthamljpomhjepaaQ8
import Derived.Test.YthamljpomhjepaaKn
import Derived.Test.YthamljpomhjepaaRx
set_option linter.unusedVariables false
set_option linter.unusedSimpArgs false
section
namespace Go.Proofs.Ythamljpomhjepaa
open Go.Ab
attribute [local irreducible] Abs CallK CallR CallsTo

set_option maxRecDepth 100000 in
set_option maxHeartbeats 4000000 in
theorem true_out (c : Int) (W : List Int) (S : List (List Int)) (f g : List (List (List Int))) (t : List (List Int)) (h : ¬ (Shrt W S ∧ Brief f ∧ Brief g ∧ Suite c W S ∧ Fore c W S f ∧ Fore c W S g ∧ t.length ≤ 8 ∧ Tru c W S t)) :
    CallsTo Try.prog 8 [.agg [i64 c, ints W, intss S], intsss f, intsss g, intss t] (.bool true) := by
  refine calls_abs Try.func8 Try.ntmps8 Try.results8 Try.call8 rfl (by simp) fun w0 S0 M0 => ?_
  repeat' (first
      | refine abs_seq ?_
      | refine abs_block ?_
      | refine abs_skip ?_
      | refine abs_exit ?_
      | refine abs_ret ?_
      | ((first | refine abs_region fun K hK => ?_ | refine abs_draw Try.ty.mixed (by kernel_rfl) fun K hK => ?_ | refine abs_if ?_); simp -implicitDefEqProofs only [go_sem, bas, basL, Nat.reduceAdd, Nat.reduceSub, Nat.reduceMul, Nat.reduceLT, Nat.reduceLeDiff, Nat.reduceEqDiff, Nat.reduceBEq, Int.reduceLT, Int.reduceLE, Int.reduceToNat, Int.reduceAdd, Int.reduceSub, Int.reduceMul, Int.reduceNeg, Int.reduceEq, reduceCtorEq, eq_self, ne_eq, not_false_eq_true, if_true, reduceIte])
      | (refine hK _ ?_; clear hK K; simp only [thenQ, blockQ, if_true, Nat.reduceEqDiff, reduceIte])
      | (show thenQ _ _ _ _; simp only [thenQ, blockQ, if_true, Nat.reduceEqDiff, reduceIte])
      | (show blockQ _ _ _ _; simp only [thenQ, blockQ, if_true, Nat.reduceEqDiff, reduceIte])
      | ((first | refine callK (known_ok) ?_ | refine callK (short_ok c W S) ?_ | refine callK (brief_ok f) ?_ | refine callK (brief_ok g) ?_ | refine callK (suite_ok c W S (by have h := ‹Shrt W S›; have := h.2.2; omega) (by have h := ‹Shrt W S›; have := h.2.1; omega)) ?_ | refine callK (fore_ok c W S f (by have h := ‹Shrt W S›; have := h.2.2; omega) (by have h := ‹Brief f›; have := h.2; omega) ‹Brief f›.rows) ?_ | refine callK (fore_ok c W S g (by have h := ‹Shrt W S›; have := h.2.2; omega) (by have h := ‹Brief g›; have := h.2; omega) ‹Brief g›.rows) ?_ | refine callK (truth_ok c W S t ‹Suite c W S› (by omega)) ?_); try simp -implicitDefEqProofs only [go_sem, bas, basL, Nat.reduceAdd, Nat.reduceSub, Nat.reduceMul, Nat.reduceLT, Nat.reduceLeDiff, Nat.reduceEqDiff, Nat.reduceBEq, Int.reduceLT, Int.reduceLE, Int.reduceToNat, Int.reduceAdd, Int.reduceSub, Int.reduceMul, Int.reduceNeg, Int.reduceEq, reduceCtorEq, eq_self, ne_eq, not_false_eq_true, if_true, reduceIte])
      | (show retQ _ _ _ _ _; simp -implicitDefEqProofs only [go_sem, bas, basL, Nat.reduceAdd, Nat.reduceSub, Nat.reduceMul, Nat.reduceLT, Nat.reduceLeDiff, Nat.reduceEqDiff, Nat.reduceBEq, Int.reduceLT, Int.reduceLE, Int.reduceToNat, Int.reduceAdd, Int.reduceSub, Int.reduceMul, Int.reduceNeg, Int.reduceEq, reduceCtorEq, eq_self, ne_eq, not_false_eq_true, if_true, reduceIte])
      | (intro hg; first | (exfalso; omega) | (exfalso; contradiction) | skip)
      | apply And.intro
      | (with_reducible rfl)
      | (clear hK; omega)
      | omega)
  all_goals exact absurd ⟨by assumption, by assumption, by assumption, by assumption, by assumption, by assumption, by omega, by assumption⟩ h

set_option maxRecDepth 100000 in
set_option maxHeartbeats 4000000 in
theorem true_in (c : Int) (W : List Int) (S : List (List Int)) (f g : List (List (List Int))) (t : List (List Int)) (h1 : Shrt W S) (h2 : Brief f) (h3 : Brief g) (hs : Suite c W S) (hf : Fore c W S f) (hg0 : Fore c W S g) (h4 : t.length ≤ 8) (ht : Tru c W S t) :
    CallsTo Try.prog 8 [.agg [i64 c, ints W, intss S], intsss f, intsss g, intss t] (.bool true) := by
  have hS := hs.2.2.1
  have hW := hs.2.1.2
  have hc := hs.1
  have a1 := short_ok c W S
  have a2 := brief_ok f
  have a3 := brief_ok g
  have a4 := suite_ok c W S (by omega) (by omega)
  have a5 := fore_ok c W S f (by omega) (by have := h2.2; omega) h2.rows
  have a6 := fore_ok c W S g (by omega) (by have := h3.2; omega) h3.rows
  have a7 := truth_ok c W S t hs (by omega)
  rw [decide_eq_true h1] at a1
  rw [decide_eq_true h2] at a2
  rw [decide_eq_true h3] at a3
  rw [decide_eq_true hs] at a4
  rw [decide_eq_true hf] at a5
  rw [decide_eq_true hg0] at a6
  rw [decide_eq_true ht] at a7
  have p1 := ptotalx_ok c W S f
  have p2 := pskill_ok c W S f
  have p3 := pbeats_ok c W S f g
  rw [if_pos ⟨hs, hf⟩] at p1 p2
  rw [if_pos ⟨hs, hf, hg0⟩] at p3
  have hcl := clims_fore hs
  have g1 := gained_ok c W S f t hs hf ht
  have g2 := gained_ok c W S g t hs hg0 ht
  have g3 := gained_ok c W S _ t hs hcl ht
  have e1 := true_one hs hf ht
  have e2 := true_two hs hf hcl ht
  have e3 := true_two hs hf hg0 ht
  have b1 := gnd_bd hs hf ht
  have b2 := gnd_bd hs hcl ht
  have e9 : intsss (List.replicate S.length (clims c S W.length)) = .list (List.replicate S.length (intss (clims c S W.length))) := by simp [List.map_replicate]
  rw [e9] at g3
  have w1 := beatsW_bd (Sd.tlo ⟨c, W, S, f, some g⟩) (Sd.thi ⟨c, W, S, f, some g⟩)
  have w2 : beatsW (Sd.tlo ⟨c, W, S, f, some g⟩) (Sd.thi ⟨c, W, S, f, some g⟩) = 3 → gnd W g t S.length < gnd W f t S.length := fun h => by have := beatsW_3 h; omega
  have w3 : beatsW (Sd.tlo ⟨c, W, S, f, some g⟩) (Sd.thi ⟨c, W, S, f, some g⟩) = 1 → gnd W f t S.length ≤ gnd W g t S.length := fun h => by have := beatsW_1 h; omega
  have qc : ∀ d, d < W.length → CallsTo Try.prog 32 [.agg [i64 c, ints W, intss S], i64 d] (.tup [ints (clim c S d), i64 (climN c S d), i64 0]) := fun d hd => by
    have := pclimx_ok c W S d
    rw [if_pos ⟨hs, by omega, by omega⟩] at this
    simpa only [Int.toNat_natCast] using this
  have qp : ∀ d, CallsTo Try.prog 21 [ints (clim c S d)] (.bool true) := fun d => by
    have hp := clim_parts hc S d
    have := parts_ok (clim c S d) (by have := hp.2.2.2.1; omega)
    rwa [decide_eq_true hp.2] at this
  have hcp := fun d => clim_parts hc S d
  clear e3
  generalize beatsW (Sd.tlo ⟨c, W, S, f, some g⟩) (Sd.thi ⟨c, W, S, f, some g⟩) = w at *
  generalize gnd W (List.replicate S.length (clims c S W.length)) t S.length = cc at *
  generalize gnd W f t S.length = a at *
  generalize gnd W g t S.length = b at *
  generalize Sd.tlo ⟨c, W, S, f, none⟩ = lo1 at *
  generalize Sd.thi ⟨c, W, S, f, none⟩ = hi1 at *
  generalize Sd.tlo ⟨c, W, S, f, some (List.replicate S.length (clims c S W.length))⟩ = lo2 at *
  generalize Sd.thi ⟨c, W, S, f, some (List.replicate S.length (clims c S W.length))⟩ = hi2 at *
  refine calls_abs Try.func8 Try.ntmps8 Try.results8 Try.call8 rfl (by simp) fun w0 S0 M0 => ?_
  repeat' (first
      | refine abs_seq ?_
      | refine abs_block ?_
      | refine abs_skip ?_
      | refine abs_exit ?_
      | refine abs_ret ?_
      | ((first | refine abs_region fun K hK => ?_ | refine abs_draw Try.ty.mixed (by kernel_rfl) fun K hK => ?_ | refine abs_if ?_); simp -implicitDefEqProofs only [go_sem, bas, basL, Nat.reduceAdd, Nat.reduceSub, Nat.reduceMul, Nat.reduceLT, Nat.reduceLeDiff, Nat.reduceEqDiff, Nat.reduceBEq, Int.reduceLT, Int.reduceLE, Int.reduceToNat, Int.reduceAdd, Int.reduceSub, Int.reduceMul, Int.reduceNeg, Int.reduceEq, reduceCtorEq, eq_self, ne_eq, not_false_eq_true, if_true, reduceIte])
      | (refine hK _ ?_; clear hK K; simp only [thenQ, blockQ, if_true, Nat.reduceEqDiff, reduceIte])
      | (show thenQ _ _ _ _; simp only [thenQ, blockQ, if_true, Nat.reduceEqDiff, reduceIte])
      | (show blockQ _ _ _ _; simp only [thenQ, blockQ, if_true, Nat.reduceEqDiff, reduceIte])
      | ((first | refine callK (known_ok) ?_ | refine callK (a1) ?_ | refine callK (a2) ?_ | refine callK (a3) ?_ | refine callK (a4) ?_ | refine callK (a5) ?_ | refine callK (a6) ?_ | refine callK (a7) ?_ | refine callK (p1) ?_ | refine callK (p2) ?_ | refine callK (p3) ?_ | refine callK (g1) ?_ | refine callK (g2) ?_ | refine callK (lies_ok a lo1 hi1) ?_); try simp -implicitDefEqProofs only [go_sem, bas, basL, Nat.reduceAdd, Nat.reduceSub, Nat.reduceMul, Nat.reduceLT, Nat.reduceLeDiff, Nat.reduceEqDiff, Nat.reduceBEq, Int.reduceLT, Int.reduceLE, Int.reduceToNat, Int.reduceAdd, Int.reduceSub, Int.reduceMul, Int.reduceNeg, Int.reduceEq, reduceCtorEq, eq_self, ne_eq, not_false_eq_true, if_true, reduceIte])
      | (show retQ _ _ _ _ _; simp -implicitDefEqProofs only [go_sem, bas, basL, Nat.reduceAdd, Nat.reduceSub, Nat.reduceMul, Nat.reduceLT, Nat.reduceLeDiff, Nat.reduceEqDiff, Nat.reduceBEq, Int.reduceLT, Int.reduceLE, Int.reduceToNat, Int.reduceAdd, Int.reduceSub, Int.reduceMul, Int.reduceNeg, Int.reduceEq, reduceCtorEq, eq_self, ne_eq, not_false_eq_true, if_true, reduceIte])
      | (intro hg; first | (exfalso; omega) | (exfalso; contradiction) | skip)
      | apply And.intro
      | (with_reducible rfl)
      | (clear hK; omega)
      | omega)
  all_goals
    refine abs_adopt 19 22 1 rfl ?_
    refine abs_loopN (ι := Nat) (fun d => [(3, intss t), (4, .box 0 0), (11, .box 2 0), (15, i64 a), (19, .own 0), (20, i64 d)]) (fun _ => [.mu [i64 c, ints W, intss S], .mu [i64 lo1, i64 hi1], .mu [i64 lo2, i64 hi2]]) (fun d => [⟨true, 22, 1, (clims c S d).map ints⟩])
      (fun d => d ≤ W.length) (fun d => W.length - d) (fun _ _ => ⟨rfl, rfl⟩) 0 (Nat.zero_le _) (le_of rfl (by try simp -implicitDefEqProofs only [go_sem, bas, basL, Nat.reduceAdd, Nat.reduceSub, Nat.reduceMul, Nat.reduceLT, Nat.reduceLeDiff, Nat.reduceEqDiff, Nat.reduceBEq, Int.reduceLT, Int.reduceLE, Int.reduceToNat, Int.reduceAdd, Int.reduceSub, Int.reduceMul, Int.reduceNeg, Int.reduceEq, reduceCtorEq, eq_self, ne_eq, not_false_eq_true, if_true, reduceIte]; try simp) ⟨_, rfl⟩ ⟨_, rfl⟩) (fun d hd => ?_)
    have hcll : (clims c S d).length = d := by simp [clims]
    have hcd := hcp d
    have hcd3 := hcd.2.2.2.1
    simp -implicitDefEqProofs only [go_sem, bas, basL, Nat.reduceAdd, Nat.reduceSub, Nat.reduceMul, Nat.reduceLT, Nat.reduceLeDiff, Nat.reduceEqDiff, Nat.reduceBEq, Int.reduceLT, Int.reduceLE, Int.reduceToNat, Int.reduceAdd, Int.reduceSub, Int.reduceMul, Int.reduceNeg, Int.reduceEq, reduceCtorEq, eq_self, ne_eq, not_false_eq_true, if_true, reduceIte]
    repeat' (first
        | refine abs_seq ?_
        | refine abs_block ?_
        | refine abs_skip ?_
        | refine abs_exit ?_
        | refine abs_ret ?_
        | ((first | refine abs_region fun K hK => ?_ | refine abs_draw Try.ty.mixed (by kernel_rfl) fun K hK => ?_ | refine abs_if ?_); simp -implicitDefEqProofs only [go_sem, bas, basL, Nat.reduceAdd, Nat.reduceSub, Nat.reduceMul, Nat.reduceLT, Nat.reduceLeDiff, Nat.reduceEqDiff, Nat.reduceBEq, Int.reduceLT, Int.reduceLE, Int.reduceToNat, Int.reduceAdd, Int.reduceSub, Int.reduceMul, Int.reduceNeg, Int.reduceEq, reduceCtorEq, eq_self, ne_eq, not_false_eq_true, if_true, reduceIte])
        | (refine hK _ ?_; clear hK K; simp only [thenQ, blockQ, if_true, Nat.reduceEqDiff, reduceIte])
        | (show thenQ _ _ _ _; simp only [thenQ, blockQ, if_true, Nat.reduceEqDiff, reduceIte])
        | (show blockQ _ _ _ _; simp only [thenQ, blockQ, if_true, Nat.reduceEqDiff, reduceIte])
        | ((first | refine callK (qc d (by omega)) ?_ | refine callK (qp d) ?_); try simp -implicitDefEqProofs only [go_sem, bas, basL, Nat.reduceAdd, Nat.reduceSub, Nat.reduceMul, Nat.reduceLT, Nat.reduceLeDiff, Nat.reduceEqDiff, Nat.reduceBEq, Int.reduceLT, Int.reduceLE, Int.reduceToNat, Int.reduceAdd, Int.reduceSub, Int.reduceMul, Int.reduceNeg, Int.reduceEq, reduceCtorEq, eq_self, ne_eq, not_false_eq_true, if_true, reduceIte])
        | (show retQ _ _ _ _ _; simp -implicitDefEqProofs only [go_sem, bas, basL, Nat.reduceAdd, Nat.reduceSub, Nat.reduceMul, Nat.reduceLT, Nat.reduceLeDiff, Nat.reduceEqDiff, Nat.reduceBEq, Int.reduceLT, Int.reduceLE, Int.reduceToNat, Int.reduceAdd, Int.reduceSub, Int.reduceMul, Int.reduceNeg, Int.reduceEq, reduceCtorEq, eq_self, ne_eq, not_false_eq_true, if_true, reduceIte])
        | (intro hg; first | (exfalso; omega) | (exfalso; contradiction) | skip)
        | apply And.intro
        | (with_reducible rfl)
        | (clear hK; omega)
        | omega)
    · exact ⟨d + 1, by omega, by omega, le_of rfl (by try simp -implicitDefEqProofs only [go_sem, bas, basL, Nat.reduceAdd, Nat.reduceSub, Nat.reduceMul, Nat.reduceLT, Nat.reduceLeDiff, Nat.reduceEqDiff, Nat.reduceBEq, Int.reduceLT, Int.reduceLE, Int.reduceToNat, Int.reduceAdd, Int.reduceSub, Int.reduceMul, Int.reduceNeg, Int.reduceEq, reduceCtorEq, eq_self, ne_eq, not_false_eq_true, if_true, reduceIte]; try simp) ⟨_, rfl⟩ ⟨_, by simp [clims_succ]; rfl⟩⟩
    obtain rfl : d = W.length := by omega
    refine abs_adopt 24 40 1 rfl ?_
    refine abs_loopN (ι := Nat) (fun i => [(3, intss t), (4, .box 0 0), (11, .box 2 0), (15, i64 a), (19, .own 0), (24, .own 1), (25, i64 i)]) (fun _ => [.mu [i64 c, ints W, intss S], .mu [i64 lo1, i64 hi1], .mu [i64 lo2, i64 hi2]]) (fun i => [⟨true, 22, 1, (clims c S W.length).map ints⟩, ⟨true, 40, 1, List.replicate i (intss (clims c S W.length))⟩])
      (fun i => i ≤ S.length) (fun i => S.length - i) (fun _ _ => ⟨rfl, rfl⟩) 0 (Nat.zero_le _) (le_of rfl (by try simp -implicitDefEqProofs only [go_sem, bas, basL, Nat.reduceAdd, Nat.reduceSub, Nat.reduceMul, Nat.reduceLT, Nat.reduceLeDiff, Nat.reduceEqDiff, Nat.reduceBEq, Int.reduceLT, Int.reduceLE, Int.reduceToNat, Int.reduceAdd, Int.reduceSub, Int.reduceMul, Int.reduceNeg, Int.reduceEq, reduceCtorEq, eq_self, ne_eq, not_false_eq_true, if_true, reduceIte]; try simp) ⟨_, rfl⟩ ⟨_, rfl⟩) (fun i hi => ?_)
    have hrl : (List.replicate i (intss (clims c S W.length))).length = i := by simp
    have g4 : i = S.length → CallsTo Try.prog 44 [.agg [i64 c, ints W, intss S], .list (List.replicate i (intss (clims c S W.length))), intss t] (.tup [i64 cc, .bool true]) := fun h => by subst h; exact g3
    simp -implicitDefEqProofs only [go_sem, bas, basL, Nat.reduceAdd, Nat.reduceSub, Nat.reduceMul, Nat.reduceLT, Nat.reduceLeDiff, Nat.reduceEqDiff, Nat.reduceBEq, Int.reduceLT, Int.reduceLE, Int.reduceToNat, Int.reduceAdd, Int.reduceSub, Int.reduceMul, Int.reduceNeg, Int.reduceEq, reduceCtorEq, eq_self, ne_eq, not_false_eq_true, if_true, reduceIte]
    repeat' (first
        | refine abs_seq ?_
        | refine abs_block ?_
        | refine abs_skip ?_
        | refine abs_exit ?_
        | refine abs_ret ?_
        | ((first | refine abs_region fun K hK => ?_ | refine abs_draw Try.ty.mixed (by kernel_rfl) fun K hK => ?_ | refine abs_if ?_); simp -implicitDefEqProofs only [go_sem, bas, basL, Nat.reduceAdd, Nat.reduceSub, Nat.reduceMul, Nat.reduceLT, Nat.reduceLeDiff, Nat.reduceEqDiff, Nat.reduceBEq, Int.reduceLT, Int.reduceLE, Int.reduceToNat, Int.reduceAdd, Int.reduceSub, Int.reduceMul, Int.reduceNeg, Int.reduceEq, reduceCtorEq, eq_self, ne_eq, not_false_eq_true, if_true, reduceIte])
        | (refine hK _ ?_; clear hK K; simp only [thenQ, blockQ, if_true, Nat.reduceEqDiff, reduceIte])
        | (show thenQ _ _ _ _; simp only [thenQ, blockQ, if_true, Nat.reduceEqDiff, reduceIte])
        | (show blockQ _ _ _ _; simp only [thenQ, blockQ, if_true, Nat.reduceEqDiff, reduceIte])
        | ((first | refine callK (known_ok) ?_ | refine callK (g4 (by omega)) ?_ | refine callK (lies_ok (a - cc) lo2 hi2) ?_); try simp -implicitDefEqProofs only [go_sem, bas, basL, Nat.reduceAdd, Nat.reduceSub, Nat.reduceMul, Nat.reduceLT, Nat.reduceLeDiff, Nat.reduceEqDiff, Nat.reduceBEq, Int.reduceLT, Int.reduceLE, Int.reduceToNat, Int.reduceAdd, Int.reduceSub, Int.reduceMul, Int.reduceNeg, Int.reduceEq, reduceCtorEq, eq_self, ne_eq, not_false_eq_true, if_true, reduceIte])
        | (show retQ _ _ _ _ _; simp -implicitDefEqProofs only [go_sem, bas, basL, Nat.reduceAdd, Nat.reduceSub, Nat.reduceMul, Nat.reduceLT, Nat.reduceLeDiff, Nat.reduceEqDiff, Nat.reduceBEq, Int.reduceLT, Int.reduceLE, Int.reduceToNat, Int.reduceAdd, Int.reduceSub, Int.reduceMul, Int.reduceNeg, Int.reduceEq, reduceCtorEq, eq_self, ne_eq, not_false_eq_true, if_true, reduceIte])
        | (intro hg; first | (exfalso; omega) | (exfalso; contradiction) | skip)
        | apply And.intro
        | (with_reducible rfl)
        | (clear hK; omega)
        | omega)
    · exact ⟨i + 1, by omega, by omega, le_of rfl (by try simp -implicitDefEqProofs only [go_sem, bas, basL, Nat.reduceAdd, Nat.reduceSub, Nat.reduceMul, Nat.reduceLT, Nat.reduceLeDiff, Nat.reduceEqDiff, Nat.reduceBEq, Int.reduceLT, Int.reduceLE, Int.reduceToNat, Int.reduceAdd, Int.reduceSub, Int.reduceMul, Int.reduceNeg, Int.reduceEq, reduceCtorEq, eq_self, ne_eq, not_false_eq_true, if_true, reduceIte]; try simp) ⟨_, rfl⟩ ⟨[], by simp [List.replicate_succ']⟩⟩
theorem true_law (c : Int) (W : List Int) (S : List (List Int)) (f g : List (List (List Int))) (t : List (List Int)) : CallsTo Try.prog 8 [.agg [i64 c, ints W, intss S], intsss f, intsss g, intss t] (.bool true) := by
  by_cases h : Shrt W S ∧ Brief f ∧ Brief g ∧ Suite c W S ∧ Fore c W S f ∧ Fore c W S g ∧ t.length ≤ 8 ∧ Tru c W S t
  · obtain ⟨h1, h2, h3, h4, h5, h6, h7, h8⟩ := h
    exact true_in c W S f g t h1 h2 h3 h4 h5 h6 h7 h8
  · exact true_out c W S f g t h
end Go.Proofs.Ythamljpomhjepaa
end
section
namespace Go.Proofs.Ythamljpomhjepaa
open Go.ChangeShapes Go.WideShapes Go.ChangeAt Go.RowKit Go.Ab
theorem own : ownKnob Try.prog.godebug = none := by kernel_rfl
theorem cells3 : Try.prog.cellsOf 3 = 1 := by kernel_rfl
theorem cells22 : Try.prog.cellsOf 22 = 1 := by kernel_rfl
theorem cells40 : Try.prog.cellsOf 40 = 1 := by kernel_rfl
theorem laid_ok : laidOutB Try.prog = true := by kernel_rfl
theorem maps_ok : mapsRowed Try.prog = true := by kernel_rfl
theorem full_ok : ∀ t e, t < Try.prog.types.size → Try.prog.underlying t = some (.slice e) → 0 < Try.prog.cellsOf e := slices_full_of Try.prog (by kernel_rfl)

set_option maxRecDepth 100000 in
theorem scoreTrue_lifted (os : Os) (started : os.Started) (H : Type) (enc : TypeId × Value → H) :
    ReturnsInHanded {} Try.checked os 8 .any (Rows.scoreTrueSpec.pre6 enc Try.prog Try.f8 Rows.scoreTrueRow.domain false) (Rows.scoreTrueSpec.post enc Try.prog Try.f8 false true false false) := by
  refine returnsInHanded_of_change (C := Try.checked) own started (by kernel_rfl) Try.func8
    (ChangeSpec.witness6 (enc := enc) (C := Try.checked) false ⟨#[], #[.agg #[.int .i64 0, .slice none 0 0, .slice none 0 0], .slice none 0 0, .slice none 0 0, .slice none 0 0], []⟩ 8 (by kernel_rfl) (by kernel_rfl) (by kernel_rfl) (by kernel_rfl)) ?_
  intro W base args ds gs before hval0 hW hcnd _
  have hval : ∀ (j : Nat) t v, Try.f8.params[j]? = some t → args[j]? = some v → Value.okWide Try.prog W .any base t v := hval0
  have hW' := hW
  obtain ⟨p, q, hA0, hV, hpq, hfz, hnd⟩ := hW'
  have hA : DataW.TrodAll enc Try.prog W 0 (fun _ => true) true Try.f8.params.toList args.toList ds p := hA0
  rw [Try.params8] at hA hval
  obtain ⟨v0, v1, v2, v3, d0, d1, d2, d3, p0, p1, p2, p3, rfl, rfl, hp, h0, h1, h2, h3⟩ := trodAll_four hA
  obtain ⟨_, _, _, ⟨a0x, rfl⟩, ⟨a0y, rfl, k0y⟩, ⟨a0z, rfl, k0z, j0z⟩, r0⟩ := rel_struct3 Try.underlying42 (by kernel_rfl) ⟨rfl, rfl, rfl⟩ cells3 cells22 cells40 (reads_int Try.underlying3) (reads_ints Try.underlying22 Try.underlying3 cells3) (reads_intss Try.underlying40 Try.underlying22 Try.underlying3 cells22 cells3) (hval 0 42 v0 rfl rfl) h0
  obtain ⟨_, ⟨a1, rfl, k1, j1⟩, r1⟩ := rel_read (reads_intsss Try.underlying43 Try.underlying40 Try.underlying22 Try.underlying3 cells40 cells22 cells3) (slice_cells Try.underlying43 (hval 1 43 v1 rfl rfl)) h1
  obtain ⟨_, ⟨a2, rfl, k2, j2⟩, r2⟩ := rel_read (reads_intsss Try.underlying43 Try.underlying40 Try.underlying22 Try.underlying3 cells40 cells22 cells3) (slice_cells Try.underlying43 (hval 2 43 v2 rfl rfl)) h2
  obtain ⟨_, ⟨a3, rfl, k3, j3⟩, r3⟩ := rel_read (reads_intss Try.underlying40 Try.underlying22 Try.underlying3 cells22 cells3) (slice_cells Try.underlying40 (hval 3 40 v3 rfl rfl)) h3
  exact calls_law (s := Rows.scoreTrueSpec) (Ds := [.agg [i64 a0x, ints a0y, intss a0z], .list (a1.map intss), .list (a2.map intss), intss a3]) rfl rfl Try.underlying4 ⟨rfl, rfl, rfl⟩ laid_ok maps_ok full_ok (by rw [Try.params8]; decide +kernel) hW (true_law a0x a0y a0z a1 a2 a3) rfl (fun q x hx => by
    match q, hx with
    | 0, hx => cases hx; exact r0
    | 1, hx => cases hx; exact r1
    | 2, hx => cases hx; exact r2
    | 3, hx => cases hx; exact r3)

theorem scoreTrue_holds : Rows.ScoreTrueSaid :=
  OpenClaim.holds_of_wide 8 Try.f8 rfl rfl rfl rfl rfl rfl rfl ⟨rfl, rfl, rfl, rfl, rfl⟩ rfl rfl rfl rfl rfl (by kernel_rfl) Try.func8 (by kernel_rfl)
    (of_decide_eq_true (by kernel_rfl)) (by unfold Func.isWrapper; first | (rw [if_pos (by decide +kernel)]; kernel_rfl) | (rw [if_neg (by decide +kernel)]; exact ⟨rfl, rfl⟩))
    (fun os started H enc _ => scoreTrue_lifted os started H enc)
#print axioms scoreTrue_holds
end Go.Proofs.Ythamljpomhjepaa
end
