import Derived.Test.YtdbiiegohemahaaGreatDoorS4
import Derived.Test.YtdbiiegohemahaaGreatDoorB6
import Derived.Test.YtdbiiegohemahaaGreatDoorB7
import Derived.Test.YtdbiiegohemahaaGreatDoorB8
import Derived.Test.YtdbiiegohemahaaGreatDoorB9
import Derived.Test.YtdbiiegohemahaaGreatDoorB10
set_option linter.unusedVariables false
set_option linter.unusedSimpArgs false
namespace Go.Proofs.YtdbiiegohemahaaGreatDoor
open Go.Ab
attribute [local irreducible] Abs CallK CallR CallsTo IA
/-- The station and the readings of the document's examples. -/
def st0 : Stn := ⟨100, 110, -100, 100, 1, 5, 30, 2, [⟨10, 20, 30⟩, ⟨30, 25, 50⟩]⟩
def r0 : Rdg := ⟨20, 480, 2, 75050, 200, 210, 150, 152, 120, 121⟩
def q0 : Rdg := ⟨25, 480, 3, 74950, 200, 210, 150, 152, 120, 121⟩
def t0 : Tru := ⟨20, 1, 0, 105, 205, 151, 120⟩
theorem st0_ok : StOk st0 := by decide
theorem r0_ok : RdOk r0 := by decide
theorem q0_ok : RdOk q0 := by decide
theorem st0_no : NoClash st0 := by
  intro a b h1 h2
  have h2 : b < 2 := h2
  obtain rfl : a = 0 := by omega
  obtain rfl : b = 1 := by omega
  decide
theorem t0_ok : TrOk st0 r0 t0 := by decide
theorem e0 (p : Prop) [Decidable p] (h : p) : errN st0 p = 0 := errN_ok ⟨st0_ok, h⟩ st0_no
theorem k1 : CallsTo Tryz.prog 13 [stD st0, i64 20] (.tup [spD 15 40, i64 0]) := by
  have h := gIndex_ok st0 (by decide) 20
  rw [e0 _ (by decide), if_pos rfl] at h
  exact h
theorem k2 : CallsTo Tryz.prog 15 [stD st0, i64 0, i64 30] (.tup [i64 33, i64 0]) := by
  have h := gDue_ok st0 (by decide) 0 30
  unfold dueD at h
  rw [e0 _ (by decide), if_pos rfl, show dueI st0 0 30 = 33 by decide +kernel, if_neg (by decide)] at h
  exact h
theorem k3 : CallsTo Tryz.prog 16 [stD st0, rdD r0, trD t0] (.tup [.agg [i64 74779, i64 75710, i64 68], i64 0]) := by
  have h := gPlay_ok st0 (by decide) r0 t0
  have e : plE st0 r0 t0 = 0 := by unfold plE; rw [if_pos (e0 _ r0_ok), if_pos t0_ok]
  rw [e, if_pos rfl] at h
  have e2 : wxD r0 t0 = .agg [i64 74779, i64 75710, i64 68] := by
    show D.agg [i64 (here r0 t0), i64 (seaT r0 t0), i64 (hum r0 t0)] = _
    rw [show here r0 t0 = 74779 by decide +kernel, show seaT r0 t0 = 75710 by decide +kernel, show hum r0 t0 = 68 by decide +kernel]
  rw [e2] at h
  exact h
theorem k4 : CallsTo Tryz.prog 18 [stD st0, rdD r0] (.tup [.agg [i64 74741, i64 74803, i64 75627, i64 75779, i64 67, i64 70], i64 0]) := by
  have h := gKnow_ok st0 (by decide) r0
  rw [e0 _ r0_ok, if_pos rfl] at h
  have e2 : knD st0 r0 = .agg [i64 74741, i64 74803, i64 75627, i64 75779, i64 67, i64 70] := by
    show D.agg [i64 (here r0 (endT st0 r0 0)), i64 (here r0 (endT st0 r0 1)), i64 (seaT r0 (endT st0 r0 2)), i64 (seaT r0 (endT st0 r0 3)), i64 (hum r0 (endT st0 r0 4)), i64 (hum r0 (endT st0 r0 5))] = _
    rw [show here r0 (endT st0 r0 0) = 74741 by decide +kernel, show here r0 (endT st0 r0 1) = 74803 by decide +kernel, show seaT r0 (endT st0 r0 2) = 75627 by decide +kernel, show seaT r0 (endT st0 r0 3) = 75779 by decide +kernel,
      show hum r0 (endT st0 r0 4) = 67 by decide +kernel, show hum r0 (endT st0 r0 5) = 70 by decide +kernel]
  rw [e2] at h
  exact h
theorem k5 : CallsTo Tryz.prog 19 [stD st0, rdD r0, rdD q0] (.tup [spD (-115) (-85), i64 0]) := by
  have h := gRise_ok st0 (by decide) r0 q0
  rw [e0 _ ⟨r0_ok, q0_ok⟩, if_pos rfl] at h
  rw [show riseL st0 r0 q0 = -115 by decide +kernel, show riseH st0 r0 q0 = -85 by decide +kernel] at h
  exact h
theorem k6 : CallsTo Tryz.prog 21 [stD st0, rdD q0] (.tup [spans [(36448, 36452), (36478, 36482)], i64 0]) := by
  have h := gWhen_ok st0 (by decide) q0
  rw [if_pos ⟨st0_ok, q0_ok⟩, if_pos ⟨st0_ok, q0_ok⟩] at h
  rw [show whenL st0 q0 = [(36448, 36452), (36478, 36482)] by decide +kernel] at h
  exact h
def line0 : ByteArray := ⟨#[50, 48, 32, 52, 56, 48, 32, 115, 32, 55, 53, 48, 53, 48, 32, 50, 48, 48, 32, 50, 49, 48, 32, 49, 53, 48, 32, 49, 53, 50, 32, 49, 50, 48, 32, 49, 50, 49, 10]⟩
def last0 : ByteArray := ⟨#[101, 110, 100, 32, 52, 54, 10]⟩
theorem l0 : lineB r0 = line0 := by decide +kernel
theorem l1 : outB [r0] 1 = line0 := by decide +kernel
theorem l2 : lastB line0 = last0 := by decide +kernel
theorem l3 : Ascii line0 := by
  intro k h
  have : ((List.range 39).all fun k => decide ((line0.get! k).toNat < 128)) = true := by decide +kernel
  have h2 := List.all_eq_true.1 this k (List.mem_range.2 h)
  simp only [decide_eq_true_eq] at h2
  have e : line0.get! k = line0[k]'h := by
    show line0.data[k]! = line0.data[k]
    exact getElem!_pos line0.data k h
  rw [e] at h2; exact h2
theorem k7 : CallsTo Tryz.prog 7 [.list [rdD r0]] (.tup [.str (line0 ++ last0), i64 0]) := by
  have hw : CallsTo Tryz.prog 25 [rdD r0] (.str (lineB r0)) := written_ok r0 r0_ok (by decide +kernel)
  have hl : CallsTo Tryz.prog 26 [.str (outB [r0] 1)] (.str last0) := by
    rw [l1, ← l2]
    exact last_ok line0 (by decide +kernel) l3 (by decide +kernel) (by decide +kernel)
  have h := print_ok [r0] (by decide) (fun i hi => by obtain rfl : i = 0 := (by simpa using hi); exact r0_ok) (fun i hi => by obtain rfl : i = 0 := (by simpa using hi); exact hw)
    (fun j hj => by
      have hj : j ≤ 1 := hj
      match j, hj with
      | 0, _ => decide
      | 1, _ => rw [l1]; decide) (fun j hj => by obtain rfl : j = 0 := (by simpa using hj); show (lineB r0).size ≤ _; rw [l0]; decide) last0 hl (by decide)
  rw [show [r0].length = 1 from rfl, l1] at h
  exact h
set_option maxRecDepth 100000 in
set_option maxHeartbeats 4000000 in
theorem sp_ok (a b : Int) : CallsTo Tryz.prog 22 [i64 a, i64 b] (spD a b) := by
  refine calls_abs Tryz.func22 Tryz.ntmps22 Tryz.results22 Tryz.call22 rfl (by simp) fun w0 S0 M0 => ?_
  repeat' (first
      | refine abs_seq ?_
      | refine abs_block ?_
      | refine abs_skip ?_
      | refine abs_scope ?_
      | refine abs_label ?_
      | refine abs_exit ?_
      | refine abs_ret ?_
      | ((first | refine abs_region fun K hK => ?_ | refine abs_draw Tryz.ty.mixed (by kernel_rfl) fun K hK => ?_ | refine abs_if ?_ | show retQ _ _ _ _ _); simp -implicitDefEqProofs only [go_sem, bas, basL, Nat.reduceAdd, Nat.reduceSub, Nat.reduceMul, Nat.reduceLT, Nat.reduceLeDiff, Nat.reduceEqDiff, Nat.reduceBEq, Int.reduceLT, Int.reduceLE, Int.reduceToNat, Int.reduceAdd, Int.reduceSub, Int.reduceMul, Int.reduceNeg, Int.reduceEq, reduceCtorEq, eq_self, ne_eq, not_false_eq_true, if_true, reduceIte])
      | ((first | (refine hK _ ?_; clear hK K) | show thenQ _ _ _ _ | show blockQ _ _ _ _ | show noGoQ _ _ _); simp only [noGoQ, thenQ, blockQ, if_true, Nat.reduceEqDiff, reduceIte])
      | (intro hg; first | (exfalso; omega) | (exfalso; contradiction) | skip)
      | apply And.intro
      | (with_reducible rfl)
      | (clear hK; omega)
      | omega)
set_option maxRecDepth 100000 in
set_option maxHeartbeats 4000000 in
theorem stat_ok : CallsTo Tryz.prog 14 [] (stD st0) := by
  refine calls_abs Tryz.func14 Tryz.ntmps14 Tryz.results14 Tryz.call14 rfl (by simp) fun w0 S0 M0 => ?_
  repeat' (first
      | refine abs_seq ?_
      | refine abs_block ?_
      | refine abs_skip ?_
      | refine abs_scope ?_
      | refine abs_label ?_
      | refine abs_exit ?_
      | refine abs_ret ?_
      | ((first | refine abs_region fun K hK => ?_ | refine abs_draw Tryz.ty.mixed (by kernel_rfl) fun K hK => ?_ | refine abs_if ?_ | show retQ _ _ _ _ _ | refine callK (sp_ok _ _) ?_); simp -implicitDefEqProofs only [go_sem, bas, basL, Nat.reduceAdd, Nat.reduceSub, Nat.reduceMul, Nat.reduceLT, Nat.reduceLeDiff, Nat.reduceEqDiff, Nat.reduceBEq, Int.reduceLT, Int.reduceLE, Int.reduceToNat, Int.reduceAdd, Int.reduceSub, Int.reduceMul, Int.reduceNeg, Int.reduceEq, reduceCtorEq, eq_self, ne_eq, not_false_eq_true, if_true, reduceIte])
      | ((first | (refine hK _ ?_; clear hK K) | show thenQ _ _ _ _ | show blockQ _ _ _ _ | show noGoQ _ _ _); simp only [noGoQ, thenQ, blockQ, if_true, Nat.reduceEqDiff, reduceIte])
      | (intro hg; first | (exfalso; omega) | (exfalso; contradiction) | skip)
      | apply And.intro
      | (with_reducible rfl)
      | (clear hK; omega)
      | omega)
  all_goals try rfl
  all_goals skip
set_option maxRecDepth 100000 in
set_option maxHeartbeats 4000000 in
theorem read_ok : CallsTo Tryz.prog 17 [] (rdD r0) := by
  refine calls_abs Tryz.func17 Tryz.ntmps17 Tryz.results17 Tryz.call17 rfl (by simp) fun w0 S0 M0 => ?_
  repeat' (first
      | refine abs_seq ?_
      | refine abs_block ?_
      | refine abs_skip ?_
      | refine abs_scope ?_
      | refine abs_label ?_
      | refine abs_exit ?_
      | refine abs_ret ?_
      | ((first | refine abs_region fun K hK => ?_ | refine abs_draw Tryz.ty.mixed (by kernel_rfl) fun K hK => ?_ | refine abs_if ?_ | show retQ _ _ _ _ _ | refine callK (sp_ok _ _) ?_); simp -implicitDefEqProofs only [go_sem, bas, basL, Nat.reduceAdd, Nat.reduceSub, Nat.reduceMul, Nat.reduceLT, Nat.reduceLeDiff, Nat.reduceEqDiff, Nat.reduceBEq, Int.reduceLT, Int.reduceLE, Int.reduceToNat, Int.reduceAdd, Int.reduceSub, Int.reduceMul, Int.reduceNeg, Int.reduceEq, reduceCtorEq, eq_self, ne_eq, not_false_eq_true, if_true, reduceIte])
      | ((first | (refine hK _ ?_; clear hK K) | show thenQ _ _ _ _ | show blockQ _ _ _ _ | show noGoQ _ _ _); simp only [noGoQ, thenQ, blockQ, if_true, Nat.reduceEqDiff, reduceIte])
      | (intro hg; first | (exfalso; omega) | (exfalso; contradiction) | skip)
      | apply And.intro
      | (with_reducible rfl)
      | (clear hK; omega)
      | omega)
  all_goals try rfl
set_option maxRecDepth 100000 in
set_option maxHeartbeats 4000000 in
theorem later_ok : CallsTo Tryz.prog 20 [] (rdD q0) := by
  refine calls_abs Tryz.func20 Tryz.ntmps20 Tryz.results20 Tryz.call20 rfl (by simp) fun w0 S0 M0 => ?_
  repeat' (first
      | refine abs_seq ?_
      | refine abs_block ?_
      | refine abs_skip ?_
      | refine abs_scope ?_
      | refine abs_label ?_
      | refine abs_exit ?_
      | refine abs_ret ?_
      | ((first | refine abs_region fun K hK => ?_ | refine abs_draw Tryz.ty.mixed (by kernel_rfl) fun K hK => ?_ | refine abs_if ?_ | show retQ _ _ _ _ _ | refine callK (read_ok) ?_); simp -implicitDefEqProofs only [go_sem, bas, basL, Nat.reduceAdd, Nat.reduceSub, Nat.reduceMul, Nat.reduceLT, Nat.reduceLeDiff, Nat.reduceEqDiff, Nat.reduceBEq, Int.reduceLT, Int.reduceLE, Int.reduceToNat, Int.reduceAdd, Int.reduceSub, Int.reduceMul, Int.reduceNeg, Int.reduceEq, reduceCtorEq, eq_self, ne_eq, not_false_eq_true, if_true, reduceIte])
      | ((first | (refine hK _ ?_; clear hK K) | show thenQ _ _ _ _ | show blockQ _ _ _ _ | show noGoQ _ _ _); simp only [noGoQ, thenQ, blockQ, if_true, Nat.reduceEqDiff, reduceIte])
      | (intro hg; first | (exfalso; omega) | (exfalso; contradiction) | skip)
      | apply And.intro
      | (with_reducible rfl)
      | (clear hK; omega)
      | omega)
  all_goals try rfl
end Go.Proofs.YtdbiiegohemahaaGreatDoor
