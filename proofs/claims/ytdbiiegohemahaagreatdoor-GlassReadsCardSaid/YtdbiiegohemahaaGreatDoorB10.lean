import Derived.Test.YtdbiiegohemahaaGreatDoorB5
import Derived.Test.YtdbiiegohemahaaGreatDoorA8
set_option linter.unusedVariables false
set_option linter.unusedSimpArgs false
namespace Go.Proofs.YtdbiiegohemahaaGreatDoor
open Go.Ab
attribute [local irreducible] Abs CallK CallR CallsTo IA

set_option maxRecDepth 100000 in
set_option maxHeartbeats 4000000 in
theorem around_ok (s : Stn) (hs : StOk s) (n : Int) (hn : -10000 ≤ n ∧ n ≤ 1000000) : CallsTo Tryz.prog 51 [i64 n, .ro (stC s)] (spD (n - s.sl) (n + s.sl)) := by
  have h3 := hs.sl
  refine calls_abs Tryz.func51 Tryz.ntmps51 Tryz.results51 Tryz.call51 rfl (by simp) fun w0 S0 M0 => ?_
  repeat' (first
      | refine abs_seq ?_
      | refine abs_block ?_
      | refine abs_skip ?_
      | refine abs_scope ?_
      | refine abs_label ?_
      | refine abs_exit ?_
      | refine abs_ret ?_
      | ((first | refine abs_region fun K hK => ?_ | refine abs_draw Tryz.ty.mixed (by kernel_rfl) fun K hK => ?_ | refine abs_if ?_ | show retQ _ _ _ _ _); simp -implicitDefEqProofs only [go_sem, bas, basL, Nat.reduceAdd, Nat.reduceSub, Nat.reduceMul, Nat.reduceLT, Nat.reduceLeDiff, Nat.reduceEqDiff, Nat.reduceBEq, Int.reduceLT, Int.reduceLE, Int.reduceToNat, Int.reduceAdd, Int.reduceSub, Int.reduceMul, Int.reduceNeg, Int.reduceEq, reduceCtorEq, eq_self, ne_eq, not_false_eq_true, if_true, reduceIte])
      | ((first | (refine hK _ ?_; clear hK K) | show thenQ _ _ _ _ | show blockQ _ _ _ _ | show noGoQ _ _ _); simp only [noGoQ, thenQ, blockQ, if_true, Nat.reduceEqDiff, reduceIte])
      | (intro hg; first | (exfalso; omega) | (exfalso; contradiction) | skip)
      | apply And.intro
      | (with_reducible rfl)
      | (clear hK; omega)
      | omega)
theorem least1 (a : Int) : CallsTo Tryz.prog 48 [.list [i64 a]] (i64 a) := by
  have h := leastL_ok [a] (by simp) (by simp)
  have e : leastK [a] [a].length = a := by show min a a = a; omega
  rw [e] at h; exact h
theorem greatest1 (a : Int) : CallsTo Tryz.prog 49 [.list [i64 a]] (i64 a) := by
  have h := greatestL_ok [a] (by simp) (by simp)
  have e : greatestK [a] [a].length = a := by show max a a = a; omega
  rw [e] at h; exact h
section
variable {s : Stn} {r : Rdg}
theorem whenL_1 (hc : r.clk = 1) : whenL s r = [(railM r - s.sl, railM r + s.sl)] := by unfold whenL; rw [if_pos hc]
theorem whenL_2 (hc : r.clk = 2) : whenL s r = [(railM r - s.ea - s.sl, railM r - s.ea + s.sl)] := by unfold whenL; rw [if_neg (by omega), if_pos hc]
theorem whenL_x (hc : r.clk = 3) (h : max (railM r) (railM r - s.ea) - s.sl ≤ min (railM r) (railM r - s.ea) + s.sl + 1) : whenL s r = [(min (railM r) (railM r - s.ea) - s.sl, max (railM r) (railM r - s.ea) + s.sl)] := by
  unfold whenL; rw [if_neg (by omega), if_neg (by omega), if_pos h]
theorem whenL_y (hc : r.clk = 3) (h : ¬ max (railM r) (railM r - s.ea) - s.sl ≤ min (railM r) (railM r - s.ea) + s.sl + 1) : whenL s r = [(min (railM r) (railM r - s.ea) - s.sl, min (railM r) (railM r - s.ea) + s.sl), (max (railM r) (railM r - s.ea) - s.sl, max (railM r) (railM r - s.ea) + s.sl)] := by
  unfold whenL; rw [if_neg (by omega), if_neg (by omega), if_neg h]
end
theorem f_rail {d mi c q al ah dl dh wl wh : Int} : 1440 * d + mi = railM ⟨d, mi, c, q, al, ah, dl, dh, wl, wh⟩ := rfl
set_option maxRecDepth 100000 in
set_option maxHeartbeats 4000000 in
theorem gWhen_ok (s : Stn) (hl : s.ck.length ≤ 9223372036854775807) (r : Rdg) : CallsTo Tryz.prog 21 [stD s, rdD r]
    (.tup [if StOk s ∧ RdOk r then spans (whenL s r) else .list [], i64 (if StOk s ∧ RdOk r then 0 else 2)]) := by
  by_cases hs : StOk s
  · have hv : CallsTo Tryz.prog 50 [stD s] (.bool true) := decide_eq_true hs ▸ gvalid_ok s hl
    by_cases hr : RdOk r
    · rw [if_pos ⟨hs, hr⟩, if_pos ⟨hs, hr⟩]
      have hv2 : CallsTo Tryz.prog 37 [rdD r] (.bool true) := decide_eq_true hr ▸ greading_ok r
      have h1 := hr.d; have h2 := hr.m; have h3 := hs.e; have h4 := hs.sl
      have hc : r.clk = 1 ∨ r.clk = 2 ∨ r.clk = 3 := by have := hr.c; omega
      obtain ⟨d, mi, c, q, al, ah, dl, dh, wl, wh⟩ := r
      simp only at hc h1 h2
      rcases hc with hc | hc | hc <;> subst hc
      · refine calls_abs Tryz.func21 Tryz.ntmps21 Tryz.results21 Tryz.call21 rfl (by simp) fun w0 S0 M0 => ?_
        repeat' (first
            | (refine abs_freeze 0 _ _ rfl rfl ?_; simp only [basL, Nat.reduceAdd])
            | refine abs_seq ?_
            | refine abs_block ?_
            | refine abs_skip ?_
            | refine abs_scope ?_
            | refine abs_label ?_
            | refine abs_exit ?_
            | refine abs_ret ?_
            | ((first | refine abs_region fun K hK => ?_ | refine abs_draw Tryz.ty.mixed (by kernel_rfl) fun K hK => ?_ | refine abs_if ?_ | show retQ _ _ _ _ _ | refine callK (hv) ?_ | refine callK (hv2) ?_ | refine callK (least1 _) ?_ | refine callK (greatest1 _) ?_ | refine callK (around_ok s hs _ (by omega)) ?_); simp -implicitDefEqProofs only [go_sem, bas, basL, Nat.reduceAdd, Nat.reduceSub, Nat.reduceMul, Nat.reduceLT, Nat.reduceLeDiff, Nat.reduceEqDiff, Nat.reduceBEq, Int.reduceLT, Int.reduceLE, Int.reduceToNat, Int.reduceAdd, Int.reduceSub, Int.reduceMul, Int.reduceNeg, Int.reduceEq, reduceCtorEq, eq_self, ne_eq, not_false_eq_true, if_true, reduceIte])
            | ((first | (refine hK _ ?_; clear hK K) | show thenQ _ _ _ _ | show blockQ _ _ _ _ | show noGoQ _ _ _); simp only [noGoQ, thenQ, blockQ, if_true, Nat.reduceEqDiff, reduceIte])
            | (intro hg; first | (exfalso; omega) | (exfalso; contradiction) | skip)
            | apply And.intro
            | (with_reducible rfl)
            | (clear hK; omega)
            | omega)
        exact congrArg (fun l => D.tup [spans l, i64 0]) (whenL_1 (s := s) (r := ⟨d, mi, 1, q, al, ah, dl, dh, wl, wh⟩) rfl).symm
      · refine calls_abs Tryz.func21 Tryz.ntmps21 Tryz.results21 Tryz.call21 rfl (by simp) fun w0 S0 M0 => ?_
        repeat' (first
            | (refine abs_freeze 0 _ _ rfl rfl ?_; simp only [basL, Nat.reduceAdd])
            | refine abs_seq ?_
            | refine abs_block ?_
            | refine abs_skip ?_
            | refine abs_scope ?_
            | refine abs_label ?_
            | refine abs_exit ?_
            | refine abs_ret ?_
            | ((first | refine abs_region fun K hK => ?_ | refine abs_draw Tryz.ty.mixed (by kernel_rfl) fun K hK => ?_ | refine abs_if ?_ | show retQ _ _ _ _ _ | refine callK (hv) ?_ | refine callK (hv2) ?_ | refine callK (least1 _) ?_ | refine callK (greatest1 _) ?_ | refine callK (around_ok s hs _ (by omega)) ?_); simp -implicitDefEqProofs only [go_sem, bas, basL, Nat.reduceAdd, Nat.reduceSub, Nat.reduceMul, Nat.reduceLT, Nat.reduceLeDiff, Nat.reduceEqDiff, Nat.reduceBEq, Int.reduceLT, Int.reduceLE, Int.reduceToNat, Int.reduceAdd, Int.reduceSub, Int.reduceMul, Int.reduceNeg, Int.reduceEq, reduceCtorEq, eq_self, ne_eq, not_false_eq_true, if_true, reduceIte])
            | ((first | (refine hK _ ?_; clear hK K) | show thenQ _ _ _ _ | show blockQ _ _ _ _ | show noGoQ _ _ _); simp only [noGoQ, thenQ, blockQ, if_true, Nat.reduceEqDiff, reduceIte])
            | (intro hg; first | (exfalso; omega) | (exfalso; contradiction) | skip)
            | apply And.intro
            | (with_reducible rfl)
            | (clear hK; omega)
            | omega)
        exact congrArg (fun l => D.tup [spans l, i64 0]) (whenL_2 (s := s) (r := ⟨d, mi, 2, q, al, ah, dl, dh, wl, wh⟩) rfl).symm
      · refine calls_abs Tryz.func21 Tryz.ntmps21 Tryz.results21 Tryz.call21 rfl (by simp) fun w0 S0 M0 => ?_
        repeat' (first
            | (refine abs_freeze 0 _ _ rfl rfl ?_; simp only [basL, Nat.reduceAdd])
            | refine abs_seq ?_
            | refine abs_block ?_
            | refine abs_skip ?_
            | refine abs_scope ?_
            | refine abs_label ?_
            | refine abs_exit ?_
            | refine abs_ret ?_
            | ((first | refine abs_region fun K hK => ?_ | refine abs_draw Tryz.ty.mixed (by kernel_rfl) fun K hK => ?_ | refine abs_if ?_ | show retQ _ _ _ _ _ | refine callK (hv) ?_ | refine callK (hv2) ?_ | refine callK (least_ok _ _) ?_ | refine callK (greatest_ok _ _) ?_ | refine callK (around_ok s hs _ (by omega)) ?_); simp -implicitDefEqProofs only [go_sem, bas, basL, Nat.reduceAdd, Nat.reduceSub, Nat.reduceMul, Nat.reduceLT, Nat.reduceLeDiff, Nat.reduceEqDiff, Nat.reduceBEq, Int.reduceLT, Int.reduceLE, Int.reduceToNat, Int.reduceAdd, Int.reduceSub, Int.reduceMul, Int.reduceNeg, Int.reduceEq, reduceCtorEq, eq_self, ne_eq, not_false_eq_true, if_true, reduceIte])
            | ((first | (refine hK _ ?_; clear hK K) | show thenQ _ _ _ _ | show blockQ _ _ _ _ | show noGoQ _ _ _); simp only [noGoQ, thenQ, blockQ, if_true, Nat.reduceEqDiff, reduceIte])
            | (intro hg; first | (exfalso; omega) | (exfalso; contradiction) | skip)
            | apply And.intro
            | (with_reducible rfl)
            | (clear hK; omega)
            | omega)
        · exact congrArg (fun l => D.tup [spans l, i64 0]) (whenL_x (s := s) (r := ⟨d, mi, 3, q, al, ah, dl, dh, wl, wh⟩) rfl hg).symm
        · exact congrArg (fun l => D.tup [spans l, i64 0]) (whenL_y (s := s) (r := ⟨d, mi, 3, q, al, ah, dl, dh, wl, wh⟩) rfl hg).symm
    · rw [if_neg (fun h => hr h.2), if_neg (fun h => hr h.2)]
      have hv2 : CallsTo Tryz.prog 37 [rdD r] (.bool false) := decide_eq_false hr ▸ greading_ok r
      refine calls_abs Tryz.func21 Tryz.ntmps21 Tryz.results21 Tryz.call21 rfl (by simp) fun w0 S0 M0 => ?_
      repeat' (first
          | refine abs_seq ?_
          | refine abs_block ?_
          | refine abs_skip ?_
          | refine abs_scope ?_
          | refine abs_label ?_
          | refine abs_exit ?_
          | refine abs_ret ?_
          | ((first | refine abs_region fun K hK => ?_ | refine abs_draw Tryz.ty.mixed (by kernel_rfl) fun K hK => ?_ | refine abs_if ?_ | show retQ _ _ _ _ _ | refine callK (hv) ?_ | refine callK (hv2) ?_); simp -implicitDefEqProofs only [go_sem, bas, basL, Nat.reduceAdd, Nat.reduceSub, Nat.reduceMul, Nat.reduceLT, Nat.reduceLeDiff, Nat.reduceEqDiff, Nat.reduceBEq, Int.reduceLT, Int.reduceLE, Int.reduceToNat, Int.reduceAdd, Int.reduceSub, Int.reduceMul, Int.reduceNeg, Int.reduceEq, reduceCtorEq, eq_self, ne_eq, not_false_eq_true, if_true, reduceIte])
          | ((first | (refine hK _ ?_; clear hK K) | show thenQ _ _ _ _ | show blockQ _ _ _ _ | show noGoQ _ _ _); simp only [noGoQ, thenQ, blockQ, if_true, Nat.reduceEqDiff, reduceIte])
          | (intro hg; first | (exfalso; omega) | (exfalso; contradiction) | skip)
          | apply And.intro
          | (with_reducible rfl)
          | (clear hK; omega)
          | omega)
  · rw [if_neg (fun h => hs h.1), if_neg (fun h => hs h.1)]
    have hv : CallsTo Tryz.prog 50 [stD s] (.bool false) := decide_eq_false hs ▸ gvalid_ok s hl
    refine calls_abs Tryz.func21 Tryz.ntmps21 Tryz.results21 Tryz.call21 rfl (by simp) fun w0 S0 M0 => ?_
    repeat' (first
        | refine abs_seq ?_
        | refine abs_block ?_
        | refine abs_skip ?_
        | refine abs_scope ?_
        | refine abs_label ?_
        | refine abs_exit ?_
        | refine abs_ret ?_
        | ((first | refine abs_region fun K hK => ?_ | refine abs_draw Tryz.ty.mixed (by kernel_rfl) fun K hK => ?_ | refine abs_if ?_ | show retQ _ _ _ _ _ | refine callK (hv) ?_); simp -implicitDefEqProofs only [go_sem, bas, basL, Nat.reduceAdd, Nat.reduceSub, Nat.reduceMul, Nat.reduceLT, Nat.reduceLeDiff, Nat.reduceEqDiff, Nat.reduceBEq, Int.reduceLT, Int.reduceLE, Int.reduceToNat, Int.reduceAdd, Int.reduceSub, Int.reduceMul, Int.reduceNeg, Int.reduceEq, reduceCtorEq, eq_self, ne_eq, not_false_eq_true, if_true, reduceIte])
        | ((first | (refine hK _ ?_; clear hK K) | show thenQ _ _ _ _ | show blockQ _ _ _ _ | show noGoQ _ _ _); simp only [noGoQ, thenQ, blockQ, if_true, Nat.reduceEqDiff, reduceIte])
        | (intro hg; first | (exfalso; omega) | (exfalso; contradiction) | skip)
        | apply And.intro
        | (with_reducible rfl)
        | (clear hK; omega)
        | omega)
end Go.Proofs.YtdbiiegohemahaaGreatDoor
