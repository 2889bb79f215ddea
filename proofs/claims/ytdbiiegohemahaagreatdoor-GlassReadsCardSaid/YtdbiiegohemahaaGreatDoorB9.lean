import Derived.Test.YtdbiiegohemahaaGreatDoorB5
import Derived.Test.YtdbiiegohemahaaGreatDoorA9
set_option linter.unusedVariables false
set_option linter.unusedSimpArgs false
namespace Go.Proofs.YtdbiiegohemahaaGreatDoor
open Go.Ab
attribute [local irreducible] Abs CallK CallR CallsTo IA

set_option maxRecDepth 100000 in
set_option maxHeartbeats 4000000 in
theorem at_ok (a b : Int) (h : Bool) : CallsTo Tryz.prog 70 [spD a b, .bool h] (i64 (if h = true then a else b)) := by
  cases h
  · refine calls_abs Tryz.func70 Tryz.ntmps70 Tryz.results70 Tryz.call70 rfl (by simp) fun w0 S0 M0 => ?_
    repeat' (first
        | refine abs_seq ?_
        | refine abs_block ?_
        | refine abs_skip ?_
        | refine abs_scope ?_
        | refine abs_label ?_
        | refine abs_exit ?_
        | refine abs_ret ?_
        | ((first | refine abs_region fun K hK => ?_ | refine abs_draw Tryz.ty.mixed (by kernel_rfl) fun K hK => ?_ | refine abs_if ?_ | show retQ _ _ _ _ _); simp -implicitDefEqProofs only [go_sem, bas, basL, Nat.reduceAdd, Nat.reduceSub, Nat.reduceMul, Nat.reduceLT, Nat.reduceLeDiff, Nat.reduceEqDiff, Nat.reduceBEq, Int.reduceLT, Int.reduceLE, Int.reduceToNat, Int.reduceAdd, Int.reduceSub, Int.reduceMul, Int.reduceNeg, Int.reduceEq, reduceCtorEq, eq_self, ne_eq, not_false_eq_true, if_true, reduceIte])
        | ((first | (refine hK _ ?_; clear hK K) | show thenQ _ _ _ _ | show blockQ _ _ _ _ | show noGoQ _ _ _); simp only [noGoQ, thenQ, blockQ, if_true, Nat.reduceEqDiff, reduceIte])
        | (intro hg; first | (exfalso; omega) | (exfalso; contradiction) | skip)
        | apply And.intro
        | (with_reducible rfl)
        | (clear hK; omega)
        | omega)
  · refine calls_abs Tryz.func70 Tryz.ntmps70 Tryz.results70 Tryz.call70 rfl (by simp) fun w0 S0 M0 => ?_
    repeat' (first
        | refine abs_seq ?_
        | refine abs_block ?_
        | refine abs_skip ?_
        | refine abs_scope ?_
        | refine abs_label ?_
        | refine abs_exit ?_
        | refine abs_ret ?_
        | ((first | refine abs_region fun K hK => ?_ | refine abs_draw Tryz.ty.mixed (by kernel_rfl) fun K hK => ?_ | refine abs_if ?_ | show retQ _ _ _ _ _); simp -implicitDefEqProofs only [go_sem, bas, basL, Nat.reduceAdd, Nat.reduceSub, Nat.reduceMul, Nat.reduceLT, Nat.reduceLeDiff, Nat.reduceEqDiff, Nat.reduceBEq, Int.reduceLT, Int.reduceLE, Int.reduceToNat, Int.reduceAdd, Int.reduceSub, Int.reduceMul, Int.reduceNeg, Int.reduceEq, reduceCtorEq, eq_self, ne_eq, not_false_eq_true, if_true, reduceIte])
        | ((first | (refine hK _ ?_; clear hK K) | show thenQ _ _ _ _ | show blockQ _ _ _ _ | show noGoQ _ _ _); simp only [noGoQ, thenQ, blockQ, if_true, Nat.reduceEqDiff, reduceIte])
        | (intro hg; first | (exfalso; omega) | (exfalso; contradiction) | skip)
        | apply And.intro
        | (with_reducible rfl)
        | (clear hK; omega)
        | omega)
def endG (s : Stn) (r : Rdg) (lo he dr we : Bool) : Tru :=
  ⟨if (!lo) = true then ixL s r.day else ixH s r.day, if (!lo) = true then -s.rd else s.rd, if lo = true then s.gl else s.gh, if he = true then s.hl else s.hh, if (!lo) = true then r.al else r.ah, if dr = true then r.dl else r.dh, if we = true then r.wl else r.wh⟩
theorem endG_ok {s : Stn} {r : Rdg} (hs : StOk s) (hr : RdOk r) (hn : NoClash s) (lo he dr we : Bool) : TrOk s r (endG s r lo he dr we) := by
  have h1 := ix_le hs hn r.day
  have h3 := hs.h; have h4 := hs.g; have h5 := hs.r; have h6 := hr.a; have h7 := hr.y; have h8 := hr.w
  unfold Spn at *
  unfold TrOk endG
  simp only
  refine ⟨?_, ?_, ?_, ?_, ?_, ?_, ?_⟩ <;> split <;> omega
set_option maxRecDepth 100000 in
set_option maxHeartbeats 4000000 in
theorem end_ok (s : Stn) (hs : StOk s) (r : Rdg) (hr : RdOk r) (lo he dr we : Bool) : CallsTo Tryz.prog 42 [stM s, rdD r, .bool lo, .bool he, .bool dr, .bool we] (trD (endG s r lo he dr we)) := by
  have h5 := hs.r
  refine calls_abs Tryz.func42 Tryz.ntmps42 Tryz.results42 Tryz.call42 rfl (by simp) fun w0 S0 M0 => ?_
  repeat' (first
      | refine abs_seq ?_
      | refine abs_block ?_
      | refine abs_skip ?_
      | refine abs_scope ?_
      | refine abs_label ?_
      | refine abs_exit ?_
      | refine abs_ret ?_
      | ((first | (show Abs _ (.region 3 _ true) _ _; refine abs_drawD [(13, 12), (26, 12), (30, 12), (38, 12), (44, 12), (49, 12), (55, 12), (60, 12)] Tryz.ty.mixed (by kernel_rfl) fun K hK => ?_) | show Sep _ _ | refine abs_region fun K hK => ?_ | refine abs_draw Tryz.ty.mixed (by kernel_rfl) fun K hK => ?_ | refine abs_if ?_ | show retQ _ _ _ _ _ | refine callK (index_ok s hs r.day hr.d) ?_ | refine callK (at_ok _ _ _) ?_); simp -implicitDefEqProofs only [go_sem, bas, basL, Nat.reduceAdd, Nat.reduceSub, Nat.reduceMul, Nat.reduceLT, Nat.reduceLeDiff, Nat.reduceEqDiff, Nat.reduceBEq, Int.reduceLT, Int.reduceLE, Int.reduceToNat, Int.reduceAdd, Int.reduceSub, Int.reduceMul, Int.reduceNeg, Int.reduceEq, reduceCtorEq, eq_self, ne_eq, not_false_eq_true, if_true, reduceIte])
      | ((first | (refine hK _ ?_; clear hK K) | show thenQ _ _ _ _ | show blockQ _ _ _ _ | show noGoQ _ _ _); simp only [noGoQ, thenQ, blockQ, if_true, Nat.reduceEqDiff, reduceIte])
      | (intro hg; first | (exfalso; omega) | (exfalso; contradiction) | skip)
      | apply And.intro
      | (with_reducible rfl)
      | (clear hK; omega)
      | omega)
  cases lo <;> rfl
abbrev rdC (r : Rdg) : List D := [i64 r.day, i64 r.min, i64 r.clk, i64 r.mer, i64 r.al, i64 r.ah, i64 r.dl, i64 r.dh, i64 r.wl, i64 r.wh]
set_option maxRecDepth 100000 in
set_option maxHeartbeats 4000000 in
theorem k2_ok (r : Rdg) (t : Tru) : CallsTo Tryz.prog 44 [wxD r t] (i64 (here r t)) := by
  refine calls_abs Tryz.func44 Tryz.ntmps44 Tryz.results44 Tryz.call44 rfl (by simp) fun w0 S0 M0 => ?_
  repeat' (first
      | refine abs_seq ?_
      | refine abs_block ?_
      | refine abs_skip ?_
      | refine abs_scope ?_
      | refine abs_label ?_
      | refine abs_exit ?_
      | refine abs_ret ?_
      | ((first | refine abs_region fun K hK => ?_ | refine abs_draw Tryz.ty.mixed (by kernel_rfl) fun K hK => ?_ | refine abs_if ?_ | show retQ _ _ _ _ _); simp -implicitDefEqProofs only [go_sem, bas, basL, Nat.reduceAdd, Nat.reduceSub, Nat.reduceMul, Nat.reduceLT, Nat.reduceLeDiff, Nat.reduceEqDiff, Nat.reduceBEq, Int.reduceLT, Int.reduceLE, Int.reduceToNat, Int.reduceAdd, Int.reduceSub, Int.reduceMul, Int.reduceNeg, Int.reduceEq, reduceCtorEq, eq_self, ne_eq, not_false_eq_true, if_true, reduceIte])
      | ((first | (refine hK _ ?_; clear hK K) | show thenQ _ _ _ _ | show blockQ _ _ _ _ | show noGoQ _ _ _); simp only [noGoQ, thenQ, blockQ, if_true, Nat.reduceEqDiff, reduceIte])
      | (intro hg; first | (exfalso; omega) | (exfalso; contradiction) | skip)
      | apply And.intro
      | (with_reducible rfl)
      | (clear hK; omega)
      | omega)
set_option maxRecDepth 100000 in
set_option maxHeartbeats 4000000 in
theorem k3_ok (r : Rdg) (t : Tru) : CallsTo Tryz.prog 45 [wxD r t] (i64 (seaT r t)) := by
  refine calls_abs Tryz.func45 Tryz.ntmps45 Tryz.results45 Tryz.call45 rfl (by simp) fun w0 S0 M0 => ?_
  repeat' (first
      | refine abs_seq ?_
      | refine abs_block ?_
      | refine abs_skip ?_
      | refine abs_scope ?_
      | refine abs_label ?_
      | refine abs_exit ?_
      | refine abs_ret ?_
      | ((first | refine abs_region fun K hK => ?_ | refine abs_draw Tryz.ty.mixed (by kernel_rfl) fun K hK => ?_ | refine abs_if ?_ | show retQ _ _ _ _ _); simp -implicitDefEqProofs only [go_sem, bas, basL, Nat.reduceAdd, Nat.reduceSub, Nat.reduceMul, Nat.reduceLT, Nat.reduceLeDiff, Nat.reduceEqDiff, Nat.reduceBEq, Int.reduceLT, Int.reduceLE, Int.reduceToNat, Int.reduceAdd, Int.reduceSub, Int.reduceMul, Int.reduceNeg, Int.reduceEq, reduceCtorEq, eq_self, ne_eq, not_false_eq_true, if_true, reduceIte])
      | ((first | (refine hK _ ?_; clear hK K) | show thenQ _ _ _ _ | show blockQ _ _ _ _ | show noGoQ _ _ _); simp only [noGoQ, thenQ, blockQ, if_true, Nat.reduceEqDiff, reduceIte])
      | (intro hg; first | (exfalso; omega) | (exfalso; contradiction) | skip)
      | apply And.intro
      | (with_reducible rfl)
      | (clear hK; omega)
      | omega)
set_option maxRecDepth 100000 in
set_option maxHeartbeats 4000000 in
theorem k4_ok (r : Rdg) (t : Tru) : CallsTo Tryz.prog 46 [wxD r t] (i64 (hum r t)) := by
  refine calls_abs Tryz.func46 Tryz.ntmps46 Tryz.results46 Tryz.call46 rfl (by simp) fun w0 S0 M0 => ?_
  repeat' (first
      | refine abs_seq ?_
      | refine abs_block ?_
      | refine abs_skip ?_
      | refine abs_scope ?_
      | refine abs_label ?_
      | refine abs_exit ?_
      | refine abs_ret ?_
      | ((first | refine abs_region fun K hK => ?_ | refine abs_draw Tryz.ty.mixed (by kernel_rfl) fun K hK => ?_ | refine abs_if ?_ | show retQ _ _ _ _ _); simp -implicitDefEqProofs only [go_sem, bas, basL, Nat.reduceAdd, Nat.reduceSub, Nat.reduceMul, Nat.reduceLT, Nat.reduceLeDiff, Nat.reduceEqDiff, Nat.reduceBEq, Int.reduceLT, Int.reduceLE, Int.reduceToNat, Int.reduceAdd, Int.reduceSub, Int.reduceMul, Int.reduceNeg, Int.reduceEq, reduceCtorEq, eq_self, ne_eq, not_false_eq_true, if_true, reduceIte])
      | ((first | (refine hK _ ?_; clear hK K) | show thenQ _ _ _ _ | show blockQ _ _ _ _ | show noGoQ _ _ _); simp only [noGoQ, thenQ, blockQ, if_true, Nat.reduceEqDiff, reduceIte])
      | (intro hg; first | (exfalso; omega) | (exfalso; contradiction) | skip)
      | apply And.intro
      | (with_reducible rfl)
      | (clear hK; omega)
      | omega)
set_option maxRecDepth 100000 in
set_option maxHeartbeats 4000000 in
theorem k1_ok (r : Rdg) (hr : RdOk r) (t : Tru) (ht : TrB t) (w : FuncId) (n : Int) (h : CallsTo Tryz.prog w [wxD r t] (i64 n)) : CallsTo Tryz.prog 41 [trD t, .ro [.clo w []], .ro (rdC r)] (i64 n) := by
  refine calls_abs Tryz.func41 Tryz.ntmps41 Tryz.results41 Tryz.call41 rfl (by simp) fun w0 S0 M0 => ?_
  repeat' (first
      | refine abs_seq ?_
      | refine abs_block ?_
      | refine abs_skip ?_
      | refine abs_scope ?_
      | refine abs_label ?_
      | refine abs_exit ?_
      | refine abs_ret ?_
      | ((first | refine abs_region fun K hK => ?_ | refine abs_draw Tryz.ty.mixed (by kernel_rfl) fun K hK => ?_ | refine abs_if ?_ | show retQ _ _ _ _ _ | refine callK (weather_ok r hr t ht) ?_ | refine callK (h) ?_); simp -implicitDefEqProofs only [go_sem, bas, basL, Nat.reduceAdd, Nat.reduceSub, Nat.reduceMul, Nat.reduceLT, Nat.reduceLeDiff, Nat.reduceEqDiff, Nat.reduceBEq, Int.reduceLT, Int.reduceLE, Int.reduceToNat, Int.reduceAdd, Int.reduceSub, Int.reduceMul, Int.reduceNeg, Int.reduceEq, reduceCtorEq, eq_self, ne_eq, not_false_eq_true, if_true, reduceIte])
      | ((first | (refine hK _ ?_; clear hK K) | show thenQ _ _ _ _ | show blockQ _ _ _ _ | show noGoQ _ _ _); simp only [noGoQ, thenQ, blockQ, if_true, Nat.reduceEqDiff, reduceIte])
      | (intro hg; first | (exfalso; omega) | (exfalso; contradiction) | skip)
      | apply And.intro
      | (with_reducible rfl)
      | (clear hK; omega)
      | omega)
set_option maxRecDepth 100000 in
set_option maxHeartbeats 4000000 in
theorem k0_ok (r : Rdg) (w : FuncId) : CallsTo Tryz.prog 40 [.clo w [], .ro (rdC r)] (.clo 41 [.ro [.clo w []], .ro (rdC r)]) := by
  refine calls_abs Tryz.func40 Tryz.ntmps40 Tryz.results40 Tryz.call40 rfl (by simp) fun w0 S0 M0 => ?_
  repeat' (first
      | (refine abs_freeze 0 _ _ rfl rfl ?_; simp only [basL, Nat.reduceAdd])
      | refine abs_seq ?_
      | refine abs_block ?_
      | refine abs_skip ?_
      | refine abs_scope ?_
      | refine abs_label ?_
      | refine abs_exit ?_
      | refine abs_ret ?_
      | ((first | refine abs_region fun K hK => ?_ | refine abs_draw Tryz.ty.mixed (by kernel_rfl) fun K hK => ?_ | refine abs_if ?_ | show retQ _ _ _ _ _); simp -implicitDefEqProofs only [go_sem, bas, basL, Nat.reduceAdd, Nat.reduceSub, Nat.reduceMul, Nat.reduceLT, Nat.reduceLeDiff, Nat.reduceEqDiff, Nat.reduceBEq, Int.reduceLT, Int.reduceLE, Int.reduceToNat, Int.reduceAdd, Int.reduceSub, Int.reduceMul, Int.reduceNeg, Int.reduceEq, reduceCtorEq, eq_self, ne_eq, not_false_eq_true, if_true, reduceIte])
      | ((first | (refine hK _ ?_; clear hK K) | show thenQ _ _ _ _ | show blockQ _ _ _ _ | show noGoQ _ _ _); simp only [noGoQ, thenQ, blockQ, if_true, Nat.reduceEqDiff, reduceIte])
      | (intro hg; first | (exfalso; omega) | (exfalso; contradiction) | skip)
      | apply And.intro
      | (with_reducible rfl)
      | (clear hK; omega)
      | omega)
set_option maxRecDepth 100000 in
set_option maxHeartbeats 4000000 in
theorem ends_ok (r : Rdg) (hr : RdOk r) (t u : Tru) (ht : TrB t) (hu : TrB u) (w : FuncId) (n m : Int) (h1 : CallsTo Tryz.prog w [wxD r t] (i64 n)) (h2 : CallsTo Tryz.prog w [wxD r u] (i64 m)) :
    CallsTo Tryz.prog 43 [trD t, trD u, .clo 41 [.ro [.clo w []], .ro (rdC r)]] (spD n m) := by
  refine calls_abs Tryz.func43 Tryz.ntmps43 Tryz.results43 Tryz.call43 rfl (by simp) fun w0 S0 M0 => ?_
  repeat' (first
      | refine abs_seq ?_
      | refine abs_block ?_
      | refine abs_skip ?_
      | refine abs_scope ?_
      | refine abs_label ?_
      | refine abs_exit ?_
      | refine abs_ret ?_
      | ((first | refine abs_region fun K hK => ?_ | refine abs_draw Tryz.ty.mixed (by kernel_rfl) fun K hK => ?_ | refine abs_if ?_ | show retQ _ _ _ _ _ | refine callK (k1_ok r hr t ht w n h1) ?_ | refine callK (k1_ok r hr u hu w m h2) ?_); simp -implicitDefEqProofs only [go_sem, bas, basL, Nat.reduceAdd, Nat.reduceSub, Nat.reduceMul, Nat.reduceLT, Nat.reduceLeDiff, Nat.reduceEqDiff, Nat.reduceBEq, Int.reduceLT, Int.reduceLE, Int.reduceToNat, Int.reduceAdd, Int.reduceSub, Int.reduceMul, Int.reduceNeg, Int.reduceEq, reduceCtorEq, eq_self, ne_eq, not_false_eq_true, if_true, reduceIte])
      | ((first | (refine hK _ ?_; clear hK K) | show thenQ _ _ _ _ | show blockQ _ _ _ _ | show noGoQ _ _ _); simp only [noGoQ, thenQ, blockQ, if_true, Nat.reduceEqDiff, reduceIte])
      | (intro hg; first | (exfalso; omega) | (exfalso; contradiction) | skip)
      | apply And.intro
      | (with_reducible rfl)
      | (clear hK; omega)
      | omega)
set_option maxRecDepth 100000 in
set_option maxHeartbeats 4000000 in
theorem gKnow_ok (s : Stn) (hl : s.ck.length ≤ 9223372036854775807) (r : Rdg) : CallsTo Tryz.prog 18 [stD s, rdD r]
    (.tup [if errN s (RdOk r) = 0 then knD s r else .agg [i64 0, i64 0, i64 0, i64 0, i64 0, i64 0], i64 (errN s (RdOk r))]) := by
  have ha := asked_ok (s := s) (fine := RdOk r) hl
  by_cases h : errN s (RdOk r) = 0
  · have h2 := errN_zero h
    have hs := h2.1.1
    have hr := h2.1.2
    have b := fun lo he dr we => trB_of hs hr (endG_ok hs hr h2.2 lo he dr we)
    rw [h] at ha ⊢
    rw [if_pos rfl] at ha ⊢
    refine calls_abs Tryz.func18 Tryz.ntmps18 Tryz.results18 Tryz.call18 rfl (by simp) fun w0 S0 M0 => ?_
    repeat' (first
        | (refine abs_freeze 1 _ _ rfl rfl ?_; simp only [basL, Nat.reduceAdd])
        | refine abs_seq ?_
        | refine abs_block ?_
        | refine abs_skip ?_
        | refine abs_scope ?_
        | refine abs_label ?_
        | refine abs_exit ?_
        | refine abs_ret ?_
        | ((first | (show Abs _ (.region 1 _ true) _ _; refine abs_drawD [(2, 6), (3, 6)] Tryz.ty.mixed (by kernel_rfl) fun K hK => ?_) | (show Abs _ (.region 5 _ true) _ _; refine abs_drawP [(6, 9), (6, 10), (3, 9), (3, 10), (10, 9), (9, 10)] [0, 1, 2, 3, 4, 5] 6 7 [8, 9] Tryz.ty.mixed (by kernel_rfl) fun K hK => ?_) | (show Abs _ (.region 6 _ true) _ _; refine abs_drawP [(6, 11), (6, 12), (3, 11), (3, 12), (12, 11), (11, 12)] [0, 1, 2, 3, 4, 5] 6 7 [8, 9] Tryz.ty.mixed (by kernel_rfl) fun K hK => ?_) | (show Abs _ (.region 7 _ true) _ _; refine abs_drawD [(9, 4), (10, 4), (11, 4), (12, 4)] Tryz.ty.mixed (by kernel_rfl) fun K hK => ?_) | show Sep _ _ | refine abs_region fun K hK => ?_ | refine abs_draw Tryz.ty.mixed (by kernel_rfl) fun K hK => ?_ | refine abs_if ?_ | show retQ _ _ _ _ _ | refine callK (greading_ok _) ?_ | refine callK (ha) ?_ | refine callK (end_ok s hs r hr _ _ _ _) ?_ | refine callK (k0_ok r _) ?_ | refine callK (ends_ok r hr _ _ (b _ _ _ _) (b _ _ _ _) 44 _ _ (k2_ok r _) (k2_ok r _)) ?_ | refine callK (ends_ok r hr _ _ (b _ _ _ _) (b _ _ _ _) 45 _ _ (k3_ok r _) (k3_ok r _)) ?_ | refine callK (ends_ok r hr _ _ (b _ _ _ _) (b _ _ _ _) 46 _ _ (k4_ok r _) (k4_ok r _)) ?_); simp -implicitDefEqProofs only [go_sem, bas, basL, Nat.reduceAdd, Nat.reduceSub, Nat.reduceMul, Nat.reduceLT, Nat.reduceLeDiff, Nat.reduceEqDiff, Nat.reduceBEq, Int.reduceLT, Int.reduceLE, Int.reduceToNat, Int.reduceAdd, Int.reduceSub, Int.reduceMul, Int.reduceNeg, Int.reduceEq, reduceCtorEq, eq_self, ne_eq, not_false_eq_true, if_true, reduceIte])
        | ((first | (refine hK _ ?_; clear hK K) | show thenQ _ _ _ _ | show blockQ _ _ _ _ | show noGoQ _ _ _); simp only [noGoQ, thenQ, blockQ, if_true, Nat.reduceEqDiff, reduceIte])
        | (show SLe _ _; refine sle_of rfl ?_ ?_ rfl)
        | (show SlLe _ _; first | refine slle_none | refine slle_put ?_ ?_)
        | (show @Eq D _ _; simp -implicitDefEqProofs only [go_sem, bas, basL, Nat.reduceAdd, Nat.reduceSub, Nat.reduceMul, Nat.reduceLT, Nat.reduceLeDiff, Nat.reduceEqDiff, Nat.reduceBEq, Int.reduceLT, Int.reduceLE, Int.reduceToNat, Int.reduceAdd, Int.reduceSub, Int.reduceMul, Int.reduceNeg, Int.reduceEq, reduceCtorEq, eq_self, ne_eq, not_false_eq_true, if_true, reduceIte]; done)
        | (show @Eq (List Bx) _ _; simp -implicitDefEqProofs only [go_sem, bas, basL, Nat.reduceAdd, Nat.reduceSub, Nat.reduceMul, Nat.reduceLT, Nat.reduceLeDiff, Nat.reduceEqDiff, Nat.reduceBEq, Int.reduceLT, Int.reduceLE, Int.reduceToNat, Int.reduceAdd, Int.reduceSub, Int.reduceMul, Int.reduceNeg, Int.reduceEq, reduceCtorEq, eq_self, ne_eq, not_false_eq_true, if_true, reduceIte]; done)
        | (intro hg; first | (exfalso; omega) | (exfalso; contradiction) | skip)
        | apply And.intro
        | (with_reducible rfl)
        | (clear hK; omega)
        | omega)
    all_goals rfl
  · generalize errN s (RdOk r) = e at *
    rw [if_neg h] at ha ⊢
    refine calls_abs Tryz.func18 Tryz.ntmps18 Tryz.results18 Tryz.call18 rfl (by simp) fun w0 S0 M0 => ?_
    repeat' (first
        | refine abs_seq ?_
        | refine abs_block ?_
        | refine abs_skip ?_
        | refine abs_scope ?_
        | refine abs_label ?_
        | refine abs_exit ?_
        | refine abs_ret ?_
        | ((first | (show Abs _ (.region 1 _ true) _ _; refine abs_drawD [(2, 6), (3, 6)] Tryz.ty.mixed (by kernel_rfl) fun K hK => ?_) | (show Abs _ (.region 5 _ true) _ _; refine abs_drawP [(6, 9), (6, 10), (3, 9), (3, 10), (10, 9), (9, 10)] [0, 1, 2, 3, 4, 5] 6 7 [8, 9] Tryz.ty.mixed (by kernel_rfl) fun K hK => ?_) | (show Abs _ (.region 6 _ true) _ _; refine abs_drawP [(6, 11), (6, 12), (3, 11), (3, 12), (12, 11), (11, 12)] [0, 1, 2, 3, 4, 5] 6 7 [8, 9] Tryz.ty.mixed (by kernel_rfl) fun K hK => ?_) | (show Abs _ (.region 7 _ true) _ _; refine abs_drawD [(9, 4), (10, 4), (11, 4), (12, 4)] Tryz.ty.mixed (by kernel_rfl) fun K hK => ?_) | show Sep _ _ | refine abs_region fun K hK => ?_ | refine abs_draw Tryz.ty.mixed (by kernel_rfl) fun K hK => ?_ | refine abs_if ?_ | show retQ _ _ _ _ _ | refine callK (greading_ok _) ?_ | refine callK (ha) ?_); simp -implicitDefEqProofs only [go_sem, bas, basL, Nat.reduceAdd, Nat.reduceSub, Nat.reduceMul, Nat.reduceLT, Nat.reduceLeDiff, Nat.reduceEqDiff, Nat.reduceBEq, Int.reduceLT, Int.reduceLE, Int.reduceToNat, Int.reduceAdd, Int.reduceSub, Int.reduceMul, Int.reduceNeg, Int.reduceEq, reduceCtorEq, eq_self, ne_eq, not_false_eq_true, if_true, reduceIte])
        | ((first | (refine hK _ ?_; clear hK K) | show thenQ _ _ _ _ | show blockQ _ _ _ _ | show noGoQ _ _ _); simp only [noGoQ, thenQ, blockQ, if_true, Nat.reduceEqDiff, reduceIte])
        | (show SLe _ _; refine sle_of rfl ?_ ?_ rfl)
        | (show SlLe _ _; first | refine slle_none | refine slle_put ?_ ?_)
        | (show @Eq D _ _; simp -implicitDefEqProofs only [go_sem, bas, basL, Nat.reduceAdd, Nat.reduceSub, Nat.reduceMul, Nat.reduceLT, Nat.reduceLeDiff, Nat.reduceEqDiff, Nat.reduceBEq, Int.reduceLT, Int.reduceLE, Int.reduceToNat, Int.reduceAdd, Int.reduceSub, Int.reduceMul, Int.reduceNeg, Int.reduceEq, reduceCtorEq, eq_self, ne_eq, not_false_eq_true, if_true, reduceIte]; done)
        | (show @Eq (List Bx) _ _; simp -implicitDefEqProofs only [go_sem, bas, basL, Nat.reduceAdd, Nat.reduceSub, Nat.reduceMul, Nat.reduceLT, Nat.reduceLeDiff, Nat.reduceEqDiff, Nat.reduceBEq, Int.reduceLT, Int.reduceLE, Int.reduceToNat, Int.reduceAdd, Int.reduceSub, Int.reduceMul, Int.reduceNeg, Int.reduceEq, reduceCtorEq, eq_self, ne_eq, not_false_eq_true, if_true, reduceIte]; done)
        | (exact (rfl : (Value.slice none 0 0).oneCell' = true))
        | (exact (rfl : (Value.map none).oneCell' = true))
        | (intro hg; first | (exfalso; omega) | (exfalso; contradiction) | skip)
        | apply And.intro
        | (with_reducible rfl)
        | (clear hK; omega)
        | omega)
end Go.Proofs.YtdbiiegohemahaaGreatDoor
