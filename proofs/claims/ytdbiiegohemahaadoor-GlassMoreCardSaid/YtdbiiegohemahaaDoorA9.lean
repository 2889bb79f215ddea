import Derived.Test.YtdbiiegohemahaaDoorA7
set_option linter.unusedVariables false
set_option linter.unusedSimpArgs false
namespace Go.Proofs.YtdbiiegohemahaaDoor
open Go.Ab
attribute [local irreducible] Abs CallK CallR CallsTo

/-- What is known of a reading. -/
abbrev knD (s : Stn) (r : Rdg) : D := .agg [i64 (here r (endT s r 0)), i64 (here r (endT s r 1)), i64 (seaT r (endT s r 2)), i64 (seaT r (endT s r 3)), i64 (hum r (endT s r 4)), i64 (hum r (endT s r 5))]
/-- The weathers of the ends so far. -/
def wxK (s : Stn) (r : Rdg) (j e : Nat) : List D := if e < j then [i64 (here r (endT s r e)), i64 (seaT r (endT s r e)), i64 (hum r (endT s r e))] else [i64 0, i64 0, i64 0]
def wxL (s : Stn) (r : Rdg) (j : Nat) : List D := wxK s r j 0 ++ wxK s r j 1 ++ wxK s r j 2 ++ wxK s r j 3 ++ wxK s r j 4 ++ wxK s r j 5
theorem wxL_names (s : Stn) (r : Rdg) (j : Nat) : namesL 4 0 (wxL s r j) = true := by
  unfold wxL wxK
  split <;> split <;> split <;> split <;> split <;> split <;> rfl
set_option maxRecDepth 100000 in
set_option maxHeartbeats 4000000 in
theorem rknow_ok (s : Stn) (hs : StOk s) (hn : NoClash s) (r : Rdg) (hr : RdOk r) : CallsTo Tryd.prog 35 [stD s, rdD r] (knD s r) := by
  have b := fun e => trB_of hs hr (endT_ok hs hr hn e)
  refine calls_abs Tryd.func35 Tryd.ntmps35 Tryd.results35 Tryd.call35 rfl (by simp) fun w0 S0 M0 => ?_
  repeat' (first
      | refine abs_seq ?_
      | refine abs_block ?_
      | refine abs_skip ?_
      | refine abs_exit ?_
      | refine abs_ret ?_
      | ((first | refine abs_region fun K hK => ?_ | refine abs_draw Tryd.ty.mixed (by kernel_rfl) fun K hK => ?_ | refine abs_if ?_ | show retQ _ _ _ _ _); simp -implicitDefEqProofs only [go_sem, bas, basL, Nat.reduceAdd, Nat.reduceSub, Nat.reduceMul, Nat.reduceLT, Nat.reduceLeDiff, Nat.reduceEqDiff, Nat.reduceBEq, Int.reduceLT, Int.reduceLE, Int.reduceToNat, Int.reduceAdd, Int.reduceSub, Int.reduceMul, Int.reduceNeg, Int.reduceEq, reduceCtorEq, eq_self, ne_eq, not_false_eq_true, if_true, reduceIte, Int.natCast_zero, Int.natCast_one, Int.cast_ofNat_Int])
      | ((first | (refine hK _ ?_; clear hK K) | show thenQ _ _ _ _ | show blockQ _ _ _ _); simp only [thenQ, blockQ, if_true, Nat.reduceEqDiff, reduceIte])
      | (intro hg; first | (exfalso; omega) | (exfalso; contradiction) | skip)
      | apply And.intro
      | (with_reducible rfl)
      | (clear hK; omega)
      | omega)
  refine abs_loopN (ι := Nat) (fun j => [(2, .box 0 0), (3, .box 1 0), (4, .box 2 0), (5, .box 3 0), (6, i64 j)]) (fun j => [.mu (stC s), .mu [i64 r.day, i64 r.min, i64 r.clk, i64 r.mer, i64 r.al, i64 r.ah, i64 r.dl, i64 r.dh, i64 r.wl, i64 r.wh], .mu [i64 0, i64 0, i64 0, i64 0, i64 0, i64 0], .mu (wxL s r j)]) (fun _ => [])
    (fun j => j ≤ 6) (fun j => 6 - j) (fun j _ => ⟨rfl, by have e := wxL_names s r j; simp only [namesBx, List.length_cons, List.length_nil, Nat.zero_add, Nat.reduceAdd]; rw [e]; rfl⟩) 0 (Nat.zero_le _) (le_of rfl (by try simp -implicitDefEqProofs only [go_sem, bas, basL, Nat.reduceAdd, Nat.reduceSub, Nat.reduceMul, Nat.reduceLT, Nat.reduceLeDiff, Nat.reduceEqDiff, Nat.reduceBEq, Int.reduceLT, Int.reduceLE, Int.reduceToNat, Int.reduceAdd, Int.reduceSub, Int.reduceMul, Int.reduceNeg, Int.reduceEq, reduceCtorEq, eq_self, ne_eq, not_false_eq_true, if_true, reduceIte, Int.natCast_zero, Int.natCast_one, Int.cast_ofNat_Int]; try simp) ⟨_, rfl⟩ ⟨_, rfl⟩) (fun j hj => ?_)
  match j, hj with
  | 0, _ =>
    have e : wxL s r 0 = [i64 0, i64 0, i64 0, i64 0, i64 0, i64 0, i64 0, i64 0, i64 0, i64 0, i64 0, i64 0, i64 0, i64 0, i64 0, i64 0, i64 0, i64 0] := rfl
    have e1 : wxL s r 1 = [i64 (here r (endT s r 0)), i64 (seaT r (endT s r 0)), i64 (hum r (endT s r 0)), i64 0, i64 0, i64 0, i64 0, i64 0, i64 0, i64 0, i64 0, i64 0, i64 0, i64 0, i64 0, i64 0, i64 0, i64 0] := rfl
    rw [e]
    simp -implicitDefEqProofs only [go_sem, bas, basL, Nat.reduceAdd, Nat.reduceSub, Nat.reduceMul, Nat.reduceLT, Nat.reduceLeDiff, Nat.reduceEqDiff, Nat.reduceBEq, Int.reduceLT, Int.reduceLE, Int.reduceToNat, Int.reduceAdd, Int.reduceSub, Int.reduceMul, Int.reduceNeg, Int.reduceEq, reduceCtorEq, eq_self, ne_eq, not_false_eq_true, if_true, reduceIte, Int.natCast_zero, Int.natCast_one, Int.cast_ofNat_Int]
    repeat' (first
        | refine abs_seq ?_
        | refine abs_block ?_
        | refine abs_skip ?_
        | refine abs_exit ?_
        | refine abs_ret ?_
        | ((first | (show Abs _ (.region 5 _ true) _ _; refine abs_drawD [(3, 18), (2, 18)] Tryd.ty.mixed (by kernel_rfl) fun K hK => ?_) | show Sep _ _ | refine abs_region fun K hK => ?_ | refine abs_draw Tryd.ty.mixed (by kernel_rfl) fun K hK => ?_ | refine abs_if ?_ | show retQ _ _ _ _ _ | refine callK (rend_ok s hs r hr _ (by omega)) ?_ | refine callK (rplay_ok r _ hr (b _)) ?_); simp -implicitDefEqProofs only [go_sem, bas, basL, Nat.reduceAdd, Nat.reduceSub, Nat.reduceMul, Nat.reduceLT, Nat.reduceLeDiff, Nat.reduceEqDiff, Nat.reduceBEq, Int.reduceLT, Int.reduceLE, Int.reduceToNat, Int.reduceAdd, Int.reduceSub, Int.reduceMul, Int.reduceNeg, Int.reduceEq, reduceCtorEq, eq_self, ne_eq, not_false_eq_true, if_true, reduceIte, Int.natCast_zero, Int.natCast_one, Int.cast_ofNat_Int])
        | ((first | (refine hK _ ?_; clear hK K) | show thenQ _ _ _ _ | show blockQ _ _ _ _); simp only [thenQ, blockQ, if_true, Nat.reduceEqDiff, reduceIte])
        | (intro hg; first | (exfalso; omega) | (exfalso; contradiction) | skip)
        | apply And.intro
        | (with_reducible rfl)
        | (clear hK; omega)
        | omega)
    exact ⟨1, by omega, by omega, le_of rfl (by try simp -implicitDefEqProofs only [go_sem, bas, basL, Nat.reduceAdd, Nat.reduceSub, Nat.reduceMul, Nat.reduceLT, Nat.reduceLeDiff, Nat.reduceEqDiff, Nat.reduceBEq, Int.reduceLT, Int.reduceLE, Int.reduceToNat, Int.reduceAdd, Int.reduceSub, Int.reduceMul, Int.reduceNeg, Int.reduceEq, reduceCtorEq, eq_self, ne_eq, not_false_eq_true, if_true, reduceIte, Int.natCast_zero, Int.natCast_one, Int.cast_ofNat_Int]; try simp) ⟨[], by rw [e1]; rfl⟩ ⟨_, rfl⟩⟩
  | 1, _ =>
    have e : wxL s r 1 = [i64 (here r (endT s r 0)), i64 (seaT r (endT s r 0)), i64 (hum r (endT s r 0)), i64 0, i64 0, i64 0, i64 0, i64 0, i64 0, i64 0, i64 0, i64 0, i64 0, i64 0, i64 0, i64 0, i64 0, i64 0] := rfl
    have e1 : wxL s r 2 = [i64 (here r (endT s r 0)), i64 (seaT r (endT s r 0)), i64 (hum r (endT s r 0)), i64 (here r (endT s r 1)), i64 (seaT r (endT s r 1)), i64 (hum r (endT s r 1)), i64 0, i64 0, i64 0, i64 0, i64 0, i64 0, i64 0, i64 0, i64 0, i64 0, i64 0, i64 0] := rfl
    rw [e]
    simp -implicitDefEqProofs only [go_sem, bas, basL, Nat.reduceAdd, Nat.reduceSub, Nat.reduceMul, Nat.reduceLT, Nat.reduceLeDiff, Nat.reduceEqDiff, Nat.reduceBEq, Int.reduceLT, Int.reduceLE, Int.reduceToNat, Int.reduceAdd, Int.reduceSub, Int.reduceMul, Int.reduceNeg, Int.reduceEq, reduceCtorEq, eq_self, ne_eq, not_false_eq_true, if_true, reduceIte, Int.natCast_zero, Int.natCast_one, Int.cast_ofNat_Int]
    repeat' (first
        | refine abs_seq ?_
        | refine abs_block ?_
        | refine abs_skip ?_
        | refine abs_exit ?_
        | refine abs_ret ?_
        | ((first | (show Abs _ (.region 5 _ true) _ _; refine abs_drawD [(3, 18), (2, 18)] Tryd.ty.mixed (by kernel_rfl) fun K hK => ?_) | show Sep _ _ | refine abs_region fun K hK => ?_ | refine abs_draw Tryd.ty.mixed (by kernel_rfl) fun K hK => ?_ | refine abs_if ?_ | show retQ _ _ _ _ _ | refine callK (rend_ok s hs r hr _ (by omega)) ?_ | refine callK (rplay_ok r _ hr (b _)) ?_); simp -implicitDefEqProofs only [go_sem, bas, basL, Nat.reduceAdd, Nat.reduceSub, Nat.reduceMul, Nat.reduceLT, Nat.reduceLeDiff, Nat.reduceEqDiff, Nat.reduceBEq, Int.reduceLT, Int.reduceLE, Int.reduceToNat, Int.reduceAdd, Int.reduceSub, Int.reduceMul, Int.reduceNeg, Int.reduceEq, reduceCtorEq, eq_self, ne_eq, not_false_eq_true, if_true, reduceIte, Int.natCast_zero, Int.natCast_one, Int.cast_ofNat_Int])
        | ((first | (refine hK _ ?_; clear hK K) | show thenQ _ _ _ _ | show blockQ _ _ _ _); simp only [thenQ, blockQ, if_true, Nat.reduceEqDiff, reduceIte])
        | (intro hg; first | (exfalso; omega) | (exfalso; contradiction) | skip)
        | apply And.intro
        | (with_reducible rfl)
        | (clear hK; omega)
        | omega)
    exact ⟨2, by omega, by omega, le_of rfl (by try simp -implicitDefEqProofs only [go_sem, bas, basL, Nat.reduceAdd, Nat.reduceSub, Nat.reduceMul, Nat.reduceLT, Nat.reduceLeDiff, Nat.reduceEqDiff, Nat.reduceBEq, Int.reduceLT, Int.reduceLE, Int.reduceToNat, Int.reduceAdd, Int.reduceSub, Int.reduceMul, Int.reduceNeg, Int.reduceEq, reduceCtorEq, eq_self, ne_eq, not_false_eq_true, if_true, reduceIte, Int.natCast_zero, Int.natCast_one, Int.cast_ofNat_Int]; try simp) ⟨[], by rw [e1]; rfl⟩ ⟨_, rfl⟩⟩
  | 2, _ =>
    have e : wxL s r 2 = [i64 (here r (endT s r 0)), i64 (seaT r (endT s r 0)), i64 (hum r (endT s r 0)), i64 (here r (endT s r 1)), i64 (seaT r (endT s r 1)), i64 (hum r (endT s r 1)), i64 0, i64 0, i64 0, i64 0, i64 0, i64 0, i64 0, i64 0, i64 0, i64 0, i64 0, i64 0] := rfl
    have e1 : wxL s r 3 = [i64 (here r (endT s r 0)), i64 (seaT r (endT s r 0)), i64 (hum r (endT s r 0)), i64 (here r (endT s r 1)), i64 (seaT r (endT s r 1)), i64 (hum r (endT s r 1)), i64 (here r (endT s r 2)), i64 (seaT r (endT s r 2)), i64 (hum r (endT s r 2)), i64 0, i64 0, i64 0, i64 0, i64 0, i64 0, i64 0, i64 0, i64 0] := rfl
    rw [e]
    simp -implicitDefEqProofs only [go_sem, bas, basL, Nat.reduceAdd, Nat.reduceSub, Nat.reduceMul, Nat.reduceLT, Nat.reduceLeDiff, Nat.reduceEqDiff, Nat.reduceBEq, Int.reduceLT, Int.reduceLE, Int.reduceToNat, Int.reduceAdd, Int.reduceSub, Int.reduceMul, Int.reduceNeg, Int.reduceEq, reduceCtorEq, eq_self, ne_eq, not_false_eq_true, if_true, reduceIte, Int.natCast_zero, Int.natCast_one, Int.cast_ofNat_Int]
    repeat' (first
        | refine abs_seq ?_
        | refine abs_block ?_
        | refine abs_skip ?_
        | refine abs_exit ?_
        | refine abs_ret ?_
        | ((first | (show Abs _ (.region 5 _ true) _ _; refine abs_drawD [(3, 18), (2, 18)] Tryd.ty.mixed (by kernel_rfl) fun K hK => ?_) | show Sep _ _ | refine abs_region fun K hK => ?_ | refine abs_draw Tryd.ty.mixed (by kernel_rfl) fun K hK => ?_ | refine abs_if ?_ | show retQ _ _ _ _ _ | refine callK (rend_ok s hs r hr _ (by omega)) ?_ | refine callK (rplay_ok r _ hr (b _)) ?_); simp -implicitDefEqProofs only [go_sem, bas, basL, Nat.reduceAdd, Nat.reduceSub, Nat.reduceMul, Nat.reduceLT, Nat.reduceLeDiff, Nat.reduceEqDiff, Nat.reduceBEq, Int.reduceLT, Int.reduceLE, Int.reduceToNat, Int.reduceAdd, Int.reduceSub, Int.reduceMul, Int.reduceNeg, Int.reduceEq, reduceCtorEq, eq_self, ne_eq, not_false_eq_true, if_true, reduceIte, Int.natCast_zero, Int.natCast_one, Int.cast_ofNat_Int])
        | ((first | (refine hK _ ?_; clear hK K) | show thenQ _ _ _ _ | show blockQ _ _ _ _); simp only [thenQ, blockQ, if_true, Nat.reduceEqDiff, reduceIte])
        | (intro hg; first | (exfalso; omega) | (exfalso; contradiction) | skip)
        | apply And.intro
        | (with_reducible rfl)
        | (clear hK; omega)
        | omega)
    exact ⟨3, by omega, by omega, le_of rfl (by try simp -implicitDefEqProofs only [go_sem, bas, basL, Nat.reduceAdd, Nat.reduceSub, Nat.reduceMul, Nat.reduceLT, Nat.reduceLeDiff, Nat.reduceEqDiff, Nat.reduceBEq, Int.reduceLT, Int.reduceLE, Int.reduceToNat, Int.reduceAdd, Int.reduceSub, Int.reduceMul, Int.reduceNeg, Int.reduceEq, reduceCtorEq, eq_self, ne_eq, not_false_eq_true, if_true, reduceIte, Int.natCast_zero, Int.natCast_one, Int.cast_ofNat_Int]; try simp) ⟨[], by rw [e1]; rfl⟩ ⟨_, rfl⟩⟩
  | 3, _ =>
    have e : wxL s r 3 = [i64 (here r (endT s r 0)), i64 (seaT r (endT s r 0)), i64 (hum r (endT s r 0)), i64 (here r (endT s r 1)), i64 (seaT r (endT s r 1)), i64 (hum r (endT s r 1)), i64 (here r (endT s r 2)), i64 (seaT r (endT s r 2)), i64 (hum r (endT s r 2)), i64 0, i64 0, i64 0, i64 0, i64 0, i64 0, i64 0, i64 0, i64 0] := rfl
    have e1 : wxL s r 4 = [i64 (here r (endT s r 0)), i64 (seaT r (endT s r 0)), i64 (hum r (endT s r 0)), i64 (here r (endT s r 1)), i64 (seaT r (endT s r 1)), i64 (hum r (endT s r 1)), i64 (here r (endT s r 2)), i64 (seaT r (endT s r 2)), i64 (hum r (endT s r 2)), i64 (here r (endT s r 3)), i64 (seaT r (endT s r 3)), i64 (hum r (endT s r 3)), i64 0, i64 0, i64 0, i64 0, i64 0, i64 0] := rfl
    rw [e]
    simp -implicitDefEqProofs only [go_sem, bas, basL, Nat.reduceAdd, Nat.reduceSub, Nat.reduceMul, Nat.reduceLT, Nat.reduceLeDiff, Nat.reduceEqDiff, Nat.reduceBEq, Int.reduceLT, Int.reduceLE, Int.reduceToNat, Int.reduceAdd, Int.reduceSub, Int.reduceMul, Int.reduceNeg, Int.reduceEq, reduceCtorEq, eq_self, ne_eq, not_false_eq_true, if_true, reduceIte, Int.natCast_zero, Int.natCast_one, Int.cast_ofNat_Int]
    repeat' (first
        | refine abs_seq ?_
        | refine abs_block ?_
        | refine abs_skip ?_
        | refine abs_exit ?_
        | refine abs_ret ?_
        | ((first | (show Abs _ (.region 5 _ true) _ _; refine abs_drawD [(3, 18), (2, 18)] Tryd.ty.mixed (by kernel_rfl) fun K hK => ?_) | show Sep _ _ | refine abs_region fun K hK => ?_ | refine abs_draw Tryd.ty.mixed (by kernel_rfl) fun K hK => ?_ | refine abs_if ?_ | show retQ _ _ _ _ _ | refine callK (rend_ok s hs r hr _ (by omega)) ?_ | refine callK (rplay_ok r _ hr (b _)) ?_); simp -implicitDefEqProofs only [go_sem, bas, basL, Nat.reduceAdd, Nat.reduceSub, Nat.reduceMul, Nat.reduceLT, Nat.reduceLeDiff, Nat.reduceEqDiff, Nat.reduceBEq, Int.reduceLT, Int.reduceLE, Int.reduceToNat, Int.reduceAdd, Int.reduceSub, Int.reduceMul, Int.reduceNeg, Int.reduceEq, reduceCtorEq, eq_self, ne_eq, not_false_eq_true, if_true, reduceIte, Int.natCast_zero, Int.natCast_one, Int.cast_ofNat_Int])
        | ((first | (refine hK _ ?_; clear hK K) | show thenQ _ _ _ _ | show blockQ _ _ _ _); simp only [thenQ, blockQ, if_true, Nat.reduceEqDiff, reduceIte])
        | (intro hg; first | (exfalso; omega) | (exfalso; contradiction) | skip)
        | apply And.intro
        | (with_reducible rfl)
        | (clear hK; omega)
        | omega)
    exact ⟨4, by omega, by omega, le_of rfl (by try simp -implicitDefEqProofs only [go_sem, bas, basL, Nat.reduceAdd, Nat.reduceSub, Nat.reduceMul, Nat.reduceLT, Nat.reduceLeDiff, Nat.reduceEqDiff, Nat.reduceBEq, Int.reduceLT, Int.reduceLE, Int.reduceToNat, Int.reduceAdd, Int.reduceSub, Int.reduceMul, Int.reduceNeg, Int.reduceEq, reduceCtorEq, eq_self, ne_eq, not_false_eq_true, if_true, reduceIte, Int.natCast_zero, Int.natCast_one, Int.cast_ofNat_Int]; try simp) ⟨[], by rw [e1]; rfl⟩ ⟨_, rfl⟩⟩
  | 4, _ =>
    have e : wxL s r 4 = [i64 (here r (endT s r 0)), i64 (seaT r (endT s r 0)), i64 (hum r (endT s r 0)), i64 (here r (endT s r 1)), i64 (seaT r (endT s r 1)), i64 (hum r (endT s r 1)), i64 (here r (endT s r 2)), i64 (seaT r (endT s r 2)), i64 (hum r (endT s r 2)), i64 (here r (endT s r 3)), i64 (seaT r (endT s r 3)), i64 (hum r (endT s r 3)), i64 0, i64 0, i64 0, i64 0, i64 0, i64 0] := rfl
    have e1 : wxL s r 5 = [i64 (here r (endT s r 0)), i64 (seaT r (endT s r 0)), i64 (hum r (endT s r 0)), i64 (here r (endT s r 1)), i64 (seaT r (endT s r 1)), i64 (hum r (endT s r 1)), i64 (here r (endT s r 2)), i64 (seaT r (endT s r 2)), i64 (hum r (endT s r 2)), i64 (here r (endT s r 3)), i64 (seaT r (endT s r 3)), i64 (hum r (endT s r 3)), i64 (here r (endT s r 4)), i64 (seaT r (endT s r 4)), i64 (hum r (endT s r 4)), i64 0, i64 0, i64 0] := rfl
    rw [e]
    simp -implicitDefEqProofs only [go_sem, bas, basL, Nat.reduceAdd, Nat.reduceSub, Nat.reduceMul, Nat.reduceLT, Nat.reduceLeDiff, Nat.reduceEqDiff, Nat.reduceBEq, Int.reduceLT, Int.reduceLE, Int.reduceToNat, Int.reduceAdd, Int.reduceSub, Int.reduceMul, Int.reduceNeg, Int.reduceEq, reduceCtorEq, eq_self, ne_eq, not_false_eq_true, if_true, reduceIte, Int.natCast_zero, Int.natCast_one, Int.cast_ofNat_Int]
    repeat' (first
        | refine abs_seq ?_
        | refine abs_block ?_
        | refine abs_skip ?_
        | refine abs_exit ?_
        | refine abs_ret ?_
        | ((first | (show Abs _ (.region 5 _ true) _ _; refine abs_drawD [(3, 18), (2, 18)] Tryd.ty.mixed (by kernel_rfl) fun K hK => ?_) | show Sep _ _ | refine abs_region fun K hK => ?_ | refine abs_draw Tryd.ty.mixed (by kernel_rfl) fun K hK => ?_ | refine abs_if ?_ | show retQ _ _ _ _ _ | refine callK (rend_ok s hs r hr _ (by omega)) ?_ | refine callK (rplay_ok r _ hr (b _)) ?_); simp -implicitDefEqProofs only [go_sem, bas, basL, Nat.reduceAdd, Nat.reduceSub, Nat.reduceMul, Nat.reduceLT, Nat.reduceLeDiff, Nat.reduceEqDiff, Nat.reduceBEq, Int.reduceLT, Int.reduceLE, Int.reduceToNat, Int.reduceAdd, Int.reduceSub, Int.reduceMul, Int.reduceNeg, Int.reduceEq, reduceCtorEq, eq_self, ne_eq, not_false_eq_true, if_true, reduceIte, Int.natCast_zero, Int.natCast_one, Int.cast_ofNat_Int])
        | ((first | (refine hK _ ?_; clear hK K) | show thenQ _ _ _ _ | show blockQ _ _ _ _); simp only [thenQ, blockQ, if_true, Nat.reduceEqDiff, reduceIte])
        | (intro hg; first | (exfalso; omega) | (exfalso; contradiction) | skip)
        | apply And.intro
        | (with_reducible rfl)
        | (clear hK; omega)
        | omega)
    exact ⟨5, by omega, by omega, le_of rfl (by try simp -implicitDefEqProofs only [go_sem, bas, basL, Nat.reduceAdd, Nat.reduceSub, Nat.reduceMul, Nat.reduceLT, Nat.reduceLeDiff, Nat.reduceEqDiff, Nat.reduceBEq, Int.reduceLT, Int.reduceLE, Int.reduceToNat, Int.reduceAdd, Int.reduceSub, Int.reduceMul, Int.reduceNeg, Int.reduceEq, reduceCtorEq, eq_self, ne_eq, not_false_eq_true, if_true, reduceIte, Int.natCast_zero, Int.natCast_one, Int.cast_ofNat_Int]; try simp) ⟨[], by rw [e1]; rfl⟩ ⟨_, rfl⟩⟩
  | 5, _ =>
    have e : wxL s r 5 = [i64 (here r (endT s r 0)), i64 (seaT r (endT s r 0)), i64 (hum r (endT s r 0)), i64 (here r (endT s r 1)), i64 (seaT r (endT s r 1)), i64 (hum r (endT s r 1)), i64 (here r (endT s r 2)), i64 (seaT r (endT s r 2)), i64 (hum r (endT s r 2)), i64 (here r (endT s r 3)), i64 (seaT r (endT s r 3)), i64 (hum r (endT s r 3)), i64 (here r (endT s r 4)), i64 (seaT r (endT s r 4)), i64 (hum r (endT s r 4)), i64 0, i64 0, i64 0] := rfl
    have e1 : wxL s r 6 = [i64 (here r (endT s r 0)), i64 (seaT r (endT s r 0)), i64 (hum r (endT s r 0)), i64 (here r (endT s r 1)), i64 (seaT r (endT s r 1)), i64 (hum r (endT s r 1)), i64 (here r (endT s r 2)), i64 (seaT r (endT s r 2)), i64 (hum r (endT s r 2)), i64 (here r (endT s r 3)), i64 (seaT r (endT s r 3)), i64 (hum r (endT s r 3)), i64 (here r (endT s r 4)), i64 (seaT r (endT s r 4)), i64 (hum r (endT s r 4)), i64 (here r (endT s r 5)), i64 (seaT r (endT s r 5)), i64 (hum r (endT s r 5))] := rfl
    rw [e]
    simp -implicitDefEqProofs only [go_sem, bas, basL, Nat.reduceAdd, Nat.reduceSub, Nat.reduceMul, Nat.reduceLT, Nat.reduceLeDiff, Nat.reduceEqDiff, Nat.reduceBEq, Int.reduceLT, Int.reduceLE, Int.reduceToNat, Int.reduceAdd, Int.reduceSub, Int.reduceMul, Int.reduceNeg, Int.reduceEq, reduceCtorEq, eq_self, ne_eq, not_false_eq_true, if_true, reduceIte, Int.natCast_zero, Int.natCast_one, Int.cast_ofNat_Int]
    repeat' (first
        | refine abs_seq ?_
        | refine abs_block ?_
        | refine abs_skip ?_
        | refine abs_exit ?_
        | refine abs_ret ?_
        | ((first | (show Abs _ (.region 5 _ true) _ _; refine abs_drawD [(3, 18), (2, 18)] Tryd.ty.mixed (by kernel_rfl) fun K hK => ?_) | show Sep _ _ | refine abs_region fun K hK => ?_ | refine abs_draw Tryd.ty.mixed (by kernel_rfl) fun K hK => ?_ | refine abs_if ?_ | show retQ _ _ _ _ _ | refine callK (rend_ok s hs r hr _ (by omega)) ?_ | refine callK (rplay_ok r _ hr (b _)) ?_); simp -implicitDefEqProofs only [go_sem, bas, basL, Nat.reduceAdd, Nat.reduceSub, Nat.reduceMul, Nat.reduceLT, Nat.reduceLeDiff, Nat.reduceEqDiff, Nat.reduceBEq, Int.reduceLT, Int.reduceLE, Int.reduceToNat, Int.reduceAdd, Int.reduceSub, Int.reduceMul, Int.reduceNeg, Int.reduceEq, reduceCtorEq, eq_self, ne_eq, not_false_eq_true, if_true, reduceIte, Int.natCast_zero, Int.natCast_one, Int.cast_ofNat_Int])
        | ((first | (refine hK _ ?_; clear hK K) | show thenQ _ _ _ _ | show blockQ _ _ _ _); simp only [thenQ, blockQ, if_true, Nat.reduceEqDiff, reduceIte])
        | (intro hg; first | (exfalso; omega) | (exfalso; contradiction) | skip)
        | apply And.intro
        | (with_reducible rfl)
        | (clear hK; omega)
        | omega)
    exact ⟨6, by omega, by omega, le_of rfl (by try simp -implicitDefEqProofs only [go_sem, bas, basL, Nat.reduceAdd, Nat.reduceSub, Nat.reduceMul, Nat.reduceLT, Nat.reduceLeDiff, Nat.reduceEqDiff, Nat.reduceBEq, Int.reduceLT, Int.reduceLE, Int.reduceToNat, Int.reduceAdd, Int.reduceSub, Int.reduceMul, Int.reduceNeg, Int.reduceEq, reduceCtorEq, eq_self, ne_eq, not_false_eq_true, if_true, reduceIte, Int.natCast_zero, Int.natCast_one, Int.cast_ofNat_Int]; try simp) ⟨[], by rw [e1]; rfl⟩ ⟨_, rfl⟩⟩
  | 6, _ =>
    have e : wxL s r 6 = [i64 (here r (endT s r 0)), i64 (seaT r (endT s r 0)), i64 (hum r (endT s r 0)), i64 (here r (endT s r 1)), i64 (seaT r (endT s r 1)), i64 (hum r (endT s r 1)), i64 (here r (endT s r 2)), i64 (seaT r (endT s r 2)), i64 (hum r (endT s r 2)), i64 (here r (endT s r 3)), i64 (seaT r (endT s r 3)), i64 (hum r (endT s r 3)), i64 (here r (endT s r 4)), i64 (seaT r (endT s r 4)), i64 (hum r (endT s r 4)), i64 (here r (endT s r 5)), i64 (seaT r (endT s r 5)), i64 (hum r (endT s r 5))] := rfl
    rw [e]
    simp -implicitDefEqProofs only [go_sem, bas, basL, Nat.reduceAdd, Nat.reduceSub, Nat.reduceMul, Nat.reduceLT, Nat.reduceLeDiff, Nat.reduceEqDiff, Nat.reduceBEq, Int.reduceLT, Int.reduceLE, Int.reduceToNat, Int.reduceAdd, Int.reduceSub, Int.reduceMul, Int.reduceNeg, Int.reduceEq, reduceCtorEq, eq_self, ne_eq, not_false_eq_true, if_true, reduceIte, Int.natCast_zero, Int.natCast_one, Int.cast_ofNat_Int]
    repeat' (first
        | refine abs_seq ?_
        | refine abs_block ?_
        | refine abs_skip ?_
        | refine abs_exit ?_
        | refine abs_ret ?_
        | ((first | refine abs_region fun K hK => ?_ | refine abs_draw Tryd.ty.mixed (by kernel_rfl) fun K hK => ?_ | refine abs_if ?_ | show retQ _ _ _ _ _); simp -implicitDefEqProofs only [go_sem, bas, basL, Nat.reduceAdd, Nat.reduceSub, Nat.reduceMul, Nat.reduceLT, Nat.reduceLeDiff, Nat.reduceEqDiff, Nat.reduceBEq, Int.reduceLT, Int.reduceLE, Int.reduceToNat, Int.reduceAdd, Int.reduceSub, Int.reduceMul, Int.reduceNeg, Int.reduceEq, reduceCtorEq, eq_self, ne_eq, not_false_eq_true, if_true, reduceIte, Int.natCast_zero, Int.natCast_one, Int.cast_ofNat_Int])
        | ((first | (refine hK _ ?_; clear hK K) | show thenQ _ _ _ _ | show blockQ _ _ _ _); simp only [thenQ, blockQ, if_true, Nat.reduceEqDiff, reduceIte])
        | (intro hg; first | (exfalso; omega) | (exfalso; contradiction) | skip)
        | apply And.intro
        | (with_reducible rfl)
        | (clear hK; omega)
        | omega)
end Go.Proofs.YtdbiiegohemahaaDoor
