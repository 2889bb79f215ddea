import Derived.Test.YtdbiiegohemahaaDoorA4
import Derived.Test.YtdbiiegohemahaaDoorA5
set_option linter.unusedVariables false
set_option linter.unusedSimpArgs false
namespace Go.Proofs.YtdbiiegohemahaaDoor
open Go.Ab
attribute [local irreducible] Abs CallK CallR CallsTo

abbrev wxD (r : Rdg) (t : Tru) : D := .agg [i64 (here r t), i64 (seaT r t), i64 (hum r t)]
section
variable (r : Rdg) (t : Tru)
theorem f_mer : r.mer - t.ix - t.er = mer r t := rfl
theorem f_hA : mer r t - mer r t * t.at_ * 163 / 10000000 = hereA (mer r t) t.at_ := rfl
theorem f_hG : hereA (mer r t) t.at_ + hereA (mer r t) t.at_ * t.gr / 1000000 = here r t := rfl
theorem f_sea : here r t + here r t * t.ht * 10 / (79900 + 29 * t.dy) = seaT r t := rfl
theorem f_vap : max 0 (air (min t.wt t.dy) - here r t * (t.dy - min t.wt t.dy) * 8 / 100000) = vapOf (here r t) t.dy t.wt := rfl
theorem f_hum : 100 * vapOf (here r t) t.dy t.wt / air t.dy = hum r t := rfl
end
set_option maxRecDepth 100000 in
set_option maxHeartbeats 4000000 in
theorem rplay_ok (r : Rdg) (t : Tru) (hr : RdOk r) (ht : TrB t) : CallsTo Tryd.prog 33 [rdD r, trD t] (wxD r t) := by
  have b0 := mer_bd hr ht
  have b1 := hereA_bd b0 ht.a
  have b2 := hereG_bd b1.2 ht.g
  have b3 := here_bd hr ht
  have b4 := seaOf_bd b3 ht.h ht.d
  have b5 := vapOf_bd b3 ht.d ht.w
  have b6 := air_at ht.d
  have b7 := air_at (t := min t.wt t.dy) (by have := ht.d; have := ht.w; omega)
  have b8 : 36700 ≤ seaT r t ∧ seaT r t ≤ 3000000000 := by unfold seaT; omega
  have hq := hr.q; have h1 := ht.i; have h2 := ht.e; have h3 := ht.g; have h4 := ht.h; have h5 := ht.a; have h6 := ht.d; have h7 := ht.w
  refine calls_abs Tryd.func33 Tryd.ntmps33 Tryd.results33 Tryd.call33 rfl (by simp) fun w0 S0 M0 => ?_
  repeat' (first
      | refine abs_seq ?_
      | refine abs_block ?_
      | refine abs_skip ?_
      | refine abs_exit ?_
      | refine abs_ret ?_
      | ((first | refine abs_region fun K hK => ?_ | refine abs_draw Tryd.ty.mixed (by kernel_rfl) fun K hK => ?_ | refine abs_if ?_ | show retQ _ _ _ _ _ | refine callK (down_ok _ _ (by omega) (by omega)) ?_ | refine callK (rair_ok _ (by omega)) ?_); simp -implicitDefEqProofs only [go_sem, bas, basL, Nat.reduceAdd, Nat.reduceSub, Nat.reduceMul, Nat.reduceLT, Nat.reduceLeDiff, Nat.reduceEqDiff, Nat.reduceBEq, Int.reduceLT, Int.reduceLE, Int.reduceToNat, Int.reduceAdd, Int.reduceSub, Int.reduceMul, Int.reduceNeg, Int.reduceEq, reduceCtorEq, eq_self, ne_eq, not_false_eq_true, if_true, reduceIte, f_mer, f_hA, f_hG, f_sea, f_vap, f_hum])
      | ((first | (refine hK _ ?_; clear hK K) | show thenQ _ _ _ _ | show blockQ _ _ _ _); simp only [thenQ, blockQ, if_true, Nat.reduceEqDiff, reduceIte])
      | (intro hg; first | (exfalso; omega) | (exfalso; contradiction) | skip)
      | apply And.intro
      | (with_reducible rfl)
      | (clear hK; omega)
      | omega)
set_option maxRecDepth 100000 in
set_option maxHeartbeats 4000000 in
theorem pick_ok (a b : Int) (h : Bool) : CallsTo Tryd.prog 77 [spD a b, .bool h] (i64 (if h then b else a)) := by
  cases h
  · refine calls_abs Tryd.func77 Tryd.ntmps77 Tryd.results77 Tryd.call77 rfl (by simp) fun w0 S0 M0 => ?_
    repeat' (first
        | refine abs_seq ?_
        | refine abs_block ?_
        | refine abs_skip ?_
        | refine abs_exit ?_
        | refine abs_ret ?_
        | ((first | refine abs_region fun K hK => ?_ | refine abs_draw Tryd.ty.mixed (by kernel_rfl) fun K hK => ?_ | refine abs_if ?_ | show retQ _ _ _ _ _); simp -implicitDefEqProofs only [go_sem, bas, basL, Nat.reduceAdd, Nat.reduceSub, Nat.reduceMul, Nat.reduceLT, Nat.reduceLeDiff, Nat.reduceEqDiff, Nat.reduceBEq, Int.reduceLT, Int.reduceLE, Int.reduceToNat, Int.reduceAdd, Int.reduceSub, Int.reduceMul, Int.reduceNeg, Int.reduceEq, reduceCtorEq, eq_self, ne_eq, not_false_eq_true, if_true, reduceIte])
        | ((first | (refine hK _ ?_; clear hK K) | show thenQ _ _ _ _ | show blockQ _ _ _ _); simp only [thenQ, blockQ, if_true, Nat.reduceEqDiff, reduceIte])
        | (intro hg; first | (exfalso; omega) | (exfalso; contradiction) | skip)
        | apply And.intro
        | (with_reducible rfl)
        | (clear hK; omega)
        | omega)
  · refine calls_abs Tryd.func77 Tryd.ntmps77 Tryd.results77 Tryd.call77 rfl (by simp) fun w0 S0 M0 => ?_
    repeat' (first
        | refine abs_seq ?_
        | refine abs_block ?_
        | refine abs_skip ?_
        | refine abs_exit ?_
        | refine abs_ret ?_
        | ((first | refine abs_region fun K hK => ?_ | refine abs_draw Tryd.ty.mixed (by kernel_rfl) fun K hK => ?_ | refine abs_if ?_ | show retQ _ _ _ _ _); simp -implicitDefEqProofs only [go_sem, bas, basL, Nat.reduceAdd, Nat.reduceSub, Nat.reduceMul, Nat.reduceLT, Nat.reduceLeDiff, Nat.reduceEqDiff, Nat.reduceBEq, Int.reduceLT, Int.reduceLE, Int.reduceToNat, Int.reduceAdd, Int.reduceSub, Int.reduceMul, Int.reduceNeg, Int.reduceEq, reduceCtorEq, eq_self, ne_eq, not_false_eq_true, if_true, reduceIte])
        | ((first | (refine hK _ ?_; clear hK K) | show thenQ _ _ _ _ | show blockQ _ _ _ _); simp only [thenQ, blockQ, if_true, Nat.reduceEqDiff, reduceIte])
        | (intro hg; first | (exfalso; omega) | (exfalso; contradiction) | skip)
        | apply And.intro
        | (with_reducible rfl)
        | (clear hK; omega)
        | omega)
set_option maxRecDepth 100000 in
set_option maxHeartbeats 4000000 in
theorem rfall_ok (s : Stn) (hs : StOk s) (a b : Int) (ha : 0 ≤ a ∧ a ≤ 400) (hb : 0 ≤ b ∧ b ≤ 400) : CallsTo Tryd.prog 81 [stD s, i64 a, i64 b] (i64 (min (ixH s a - ixL s b) (s.dr * far a b))) := by
  have b1 := ixH_bd hs ha
  have b2 := ixL_bd hs hb
  have b3 := mul_bd hs.d.1 hs.d.2 (far_bd ha hb).1 (far_bd ha hb).2
  refine calls_abs Tryd.func81 Tryd.ntmps81 Tryd.results81 Tryd.call81 rfl (by simp) fun w0 S0 M0 => ?_
  repeat' (first
      | refine abs_seq ?_
      | refine abs_block ?_
      | refine abs_skip ?_
      | refine abs_exit ?_
      | refine abs_ret ?_
      | ((first | refine abs_region fun K hK => ?_ | refine abs_draw Tryd.ty.mixed (by kernel_rfl) fun K hK => ?_ | refine abs_if ?_ | show retQ _ _ _ _ _ | refine callK (rindex_ok s hs _ ha) ?_ | refine callK (rindex_ok s hs _ hb) ?_ | refine callK (rfar_ok _ _ ha hb) ?_); simp -implicitDefEqProofs only [go_sem, bas, basL, Nat.reduceAdd, Nat.reduceSub, Nat.reduceMul, Nat.reduceLT, Nat.reduceLeDiff, Nat.reduceEqDiff, Nat.reduceBEq, Int.reduceLT, Int.reduceLE, Int.reduceToNat, Int.reduceAdd, Int.reduceSub, Int.reduceMul, Int.reduceNeg, Int.reduceEq, reduceCtorEq, eq_self, ne_eq, not_false_eq_true, if_true, reduceIte])
      | ((first | (refine hK _ ?_; clear hK K) | show thenQ _ _ _ _ | show blockQ _ _ _ _); simp only [thenQ, blockQ, if_true, Nat.reduceEqDiff, reduceIte])
      | (intro hg; first | (exfalso; omega) | (exfalso; contradiction) | skip)
      | apply And.intro
      | (with_reducible rfl)
      | (clear hK; omega)
      | omega)
def riseL (s : Stn) (a b : Rdg) : Int := b.mer - a.mer - min (ixH s b.day - ixL s a.day) (s.dr * far b.day a.day) - 2 * s.rd
def riseH (s : Stn) (a b : Rdg) : Int := b.mer - a.mer + min (ixH s a.day - ixL s b.day) (s.dr * far a.day b.day) + 2 * s.rd
set_option maxRecDepth 100000 in
set_option maxHeartbeats 4000000 in
theorem rrise_ok (s : Stn) (hs : StOk s) (a b : Rdg) (ha : RdOk a) (hb : RdOk b) : CallsTo Tryd.prog 39 [stD s, rdD a, rdD b] (spD (riseL s a b) (riseH s a b)) := by
  have b1 := ixH_bd hs ha.d; have b2 := ixL_bd hs hb.d; have b3 := ixH_bd hs hb.d; have b4 := ixL_bd hs ha.d
  have b5 := mul_bd hs.d.1 hs.d.2 (far_bd ha.d hb.d).1 (far_bd ha.d hb.d).2
  have b6 := mul_bd hs.d.1 hs.d.2 (far_bd hb.d ha.d).1 (far_bd hb.d ha.d).2
  have q1 := ha.q; have q2 := hb.q; have q3 := hs.r
  refine calls_abs Tryd.func39 Tryd.ntmps39 Tryd.results39 Tryd.call39 rfl (by simp) fun w0 S0 M0 => ?_
  repeat' (first
      | refine abs_seq ?_
      | refine abs_block ?_
      | refine abs_skip ?_
      | refine abs_exit ?_
      | refine abs_ret ?_
      | ((first | refine abs_region fun K hK => ?_ | refine abs_draw Tryd.ty.mixed (by kernel_rfl) fun K hK => ?_ | refine abs_if ?_ | show retQ _ _ _ _ _ | refine callK (rfall_ok s hs _ _ hb.d ha.d) ?_ | refine callK (rfall_ok s hs _ _ ha.d hb.d) ?_); simp -implicitDefEqProofs only [go_sem, bas, basL, Nat.reduceAdd, Nat.reduceSub, Nat.reduceMul, Nat.reduceLT, Nat.reduceLeDiff, Nat.reduceEqDiff, Nat.reduceBEq, Int.reduceLT, Int.reduceLE, Int.reduceToNat, Int.reduceAdd, Int.reduceSub, Int.reduceMul, Int.reduceNeg, Int.reduceEq, reduceCtorEq, eq_self, ne_eq, not_false_eq_true, if_true, reduceIte])
      | ((first | (refine hK _ ?_; clear hK K) | show thenQ _ _ _ _ | show blockQ _ _ _ _); simp only [thenQ, blockQ, if_true, Nat.reduceEqDiff, reduceIte])
      | (intro hg; first | (exfalso; omega) | (exfalso; contradiction) | skip)
      | apply And.intro
      | (with_reducible rfl)
      | (clear hK; omega)
      | omega)
  rfl
def railM (r : Rdg) : Int := 1440 * r.day + r.min
set_option maxRecDepth 100000 in
set_option maxHeartbeats 4000000 in
theorem rrail_ok (r : Rdg) (hr : RdOk r) : CallsTo Tryd.prog 45 [rdD r] (i64 (railM r)) := by
  have h1 := hr.d; have h2 := hr.m
  refine calls_abs Tryd.func45 Tryd.ntmps45 Tryd.results45 Tryd.call45 rfl (by simp) fun w0 S0 M0 => ?_
  repeat' (first
      | refine abs_seq ?_
      | refine abs_block ?_
      | refine abs_skip ?_
      | refine abs_exit ?_
      | refine abs_ret ?_
      | ((first | refine abs_region fun K hK => ?_ | refine abs_draw Tryd.ty.mixed (by kernel_rfl) fun K hK => ?_ | refine abs_if ?_ | show retQ _ _ _ _ _); simp -implicitDefEqProofs only [go_sem, bas, basL, Nat.reduceAdd, Nat.reduceSub, Nat.reduceMul, Nat.reduceLT, Nat.reduceLeDiff, Nat.reduceEqDiff, Nat.reduceBEq, Int.reduceLT, Int.reduceLE, Int.reduceToNat, Int.reduceAdd, Int.reduceSub, Int.reduceMul, Int.reduceNeg, Int.reduceEq, reduceCtorEq, eq_self, ne_eq, not_false_eq_true, if_true, reduceIte])
      | ((first | (refine hK _ ?_; clear hK K) | show thenQ _ _ _ _ | show blockQ _ _ _ _); simp only [thenQ, blockQ, if_true, Nat.reduceEqDiff, reduceIte])
      | (intro hg; first | (exfalso; omega) | (exfalso; contradiction) | skip)
      | apply And.intro
      | (with_reducible rfl)
      | (clear hK; omega)
      | omega)
  rfl
set_option maxRecDepth 100000 in
set_option maxHeartbeats 4000000 in
theorem rsun_ok (s : Stn) (hs : StOk s) (r : Rdg) (hr : RdOk r) : CallsTo Tryd.prog 46 [stD s, rdD r] (i64 (railM r - s.ea)) := by
  have h1 := hr.d; have h2 := hr.m; have h3 := hs.e
  have h4 : 0 ≤ railM r ∧ railM r ≤ 600000 := by unfold railM; omega
  refine calls_abs Tryd.func46 Tryd.ntmps46 Tryd.results46 Tryd.call46 rfl (by simp) fun w0 S0 M0 => ?_
  repeat' (first
      | refine abs_seq ?_
      | refine abs_block ?_
      | refine abs_skip ?_
      | refine abs_exit ?_
      | refine abs_ret ?_
      | ((first | refine abs_region fun K hK => ?_ | refine abs_draw Tryd.ty.mixed (by kernel_rfl) fun K hK => ?_ | refine abs_if ?_ | show retQ _ _ _ _ _ | refine callK (rrail_ok r hr) ?_); simp -implicitDefEqProofs only [go_sem, bas, basL, Nat.reduceAdd, Nat.reduceSub, Nat.reduceMul, Nat.reduceLT, Nat.reduceLeDiff, Nat.reduceEqDiff, Nat.reduceBEq, Int.reduceLT, Int.reduceLE, Int.reduceToNat, Int.reduceAdd, Int.reduceSub, Int.reduceMul, Int.reduceNeg, Int.reduceEq, reduceCtorEq, eq_self, ne_eq, not_false_eq_true, if_true, reduceIte])
      | ((first | (refine hK _ ?_; clear hK K) | show thenQ _ _ _ _ | show blockQ _ _ _ _); simp only [thenQ, blockQ, if_true, Nat.reduceEqDiff, reduceIte])
      | (intro hg; first | (exfalso; omega) | (exfalso; contradiction) | skip)
      | apply And.intro
      | (with_reducible rfl)
      | (clear hK; omega)
      | omega)
set_option maxRecDepth 100000 in
set_option maxHeartbeats 4000000 in
theorem raround_ok (s : Stn) (hs : StOk s) (n : Int) (hn : -10000 ≤ n ∧ n ≤ 1000000) : CallsTo Tryd.prog 84 [stD s, i64 n] (spD (n - s.sl) (n + s.sl)) := by
  have h3 := hs.sl
  refine calls_abs Tryd.func84 Tryd.ntmps84 Tryd.results84 Tryd.call84 rfl (by simp) fun w0 S0 M0 => ?_
  repeat' (first
      | refine abs_seq ?_
      | refine abs_block ?_
      | refine abs_skip ?_
      | refine abs_exit ?_
      | refine abs_ret ?_
      | ((first | refine abs_region fun K hK => ?_ | refine abs_draw Tryd.ty.mixed (by kernel_rfl) fun K hK => ?_ | refine abs_if ?_ | show retQ _ _ _ _ _); simp -implicitDefEqProofs only [go_sem, bas, basL, Nat.reduceAdd, Nat.reduceSub, Nat.reduceMul, Nat.reduceLT, Nat.reduceLeDiff, Nat.reduceEqDiff, Nat.reduceBEq, Int.reduceLT, Int.reduceLE, Int.reduceToNat, Int.reduceAdd, Int.reduceSub, Int.reduceMul, Int.reduceNeg, Int.reduceEq, reduceCtorEq, eq_self, ne_eq, not_false_eq_true, if_true, reduceIte])
      | ((first | (refine hK _ ?_; clear hK K) | show thenQ _ _ _ _ | show blockQ _ _ _ _); simp only [thenQ, blockQ, if_true, Nat.reduceEqDiff, reduceIte])
      | (intro hg; first | (exfalso; omega) | (exfalso; contradiction) | skip)
      | apply And.intro
      | (with_reducible rfl)
      | (clear hK; omega)
      | omega)
end Go.Proofs.YtdbiiegohemahaaDoor
