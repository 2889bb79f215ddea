import Derived.Test.YtdbiiegohemahaaDoorA3
import Derived.Test.YtdbiiegohemahaaDoorSq
import Derived.Test.YtdbiiegohemahaaDoorAbX
set_option linter.unusedVariables false
set_option linter.unusedSimpArgs false
namespace Go.Proofs.YtdbiiegohemahaaDoor
open Go.Ab
attribute [local irreducible] Abs CallK CallR CallsTo

theorem tdiv_floor {a b : Int} (hb : 0 < b) : (Int.tmod a b < 0 → Int.tdiv a b - 1 = a / b) ∧ (¬ Int.tmod a b < 0 → Int.tdiv a b = a / b) := by
  have h1 := Int.mul_tdiv_add_tmod a b
  have h2 : Int.tmod a b < b := Int.tmod_lt_of_pos a hb
  have h3 : -b < Int.tmod a b := Int.lt_tmod_of_pos a hb
  generalize Int.tdiv a b = q at *
  generalize Int.tmod a b = r at *
  subst h1
  constructor
  · intro hr
    rw [show b * q + r = (r + b) + (q - 1) * b by rw [Int.sub_mul, Int.mul_comm b q]; omega, Int.add_mul_ediv_right _ _ (by omega), Int.ediv_eq_zero_of_lt (by omega) (by omega)]; omega
  · intro hr
    rw [show b * q + r = r + q * b by rw [Int.mul_comm b q]; omega, Int.add_mul_ediv_right _ _ (by omega), Int.ediv_eq_zero_of_lt (by omega) (by omega)]; omega
theorem tdiv_bd {a b : Int} (ha : -4000000000000000000 ≤ a ∧ a ≤ 4000000000000000000) (hb : 0 < b) : -4000000000000000000 ≤ Int.tdiv a b ∧ Int.tdiv a b ≤ 4000000000000000000 := by
  have h := Int.natAbs_tdiv a b
  have h2 : a.natAbs / b.natAbs ≤ a.natAbs := Nat.div_le_self _ _
  have h3 : a.natAbs.div b.natAbs = a.natAbs / b.natAbs := rfl
  generalize a.natAbs / b.natAbs = q at *
  omega
set_option maxRecDepth 100000 in
set_option maxHeartbeats 4000000 in
theorem down_ok (a b : Int) (ha : -4000000000000000000 ≤ a ∧ a ≤ 4000000000000000000) (hb : 0 < b ∧ b ≤ 4000000000000000000) : CallsTo Tryd.prog 68 [i64 a, i64 b] (i64 (a / b)) := by
  have h1 := tdiv_floor (a := a) hb.1
  have h2 := tdiv_bd ha hb.1
  have h3 : Int.tmod a b < b := Int.tmod_lt_of_pos a hb.1
  have h4 : -b < Int.tmod a b := Int.lt_tmod_of_pos a hb.1
  refine calls_abs Tryd.func68 Tryd.ntmps68 Tryd.results68 Tryd.call68 rfl (by simp) fun w0 S0 M0 => ?_
  repeat' (first
      | refine abs_seq ?_
      | refine abs_block ?_
      | refine abs_skip ?_
      | refine abs_exit ?_
      | refine abs_ret ?_
      | ((first | refine abs_region fun K hK => ?_ | refine abs_draw Tryd.ty.mixed (by kernel_rfl) fun K hK => ?_ | refine abs_if ?_ | show retQ _ _ _ _ _); simp -implicitDefEqProofs only [go_sem, bas, basL, Nat.reduceAdd, Nat.reduceSub, Nat.reduceMul, Nat.reduceLT, Nat.reduceLeDiff, Nat.reduceEqDiff, Nat.reduceBEq, Int.reduceLT, Int.reduceLE, Int.reduceToNat, Int.reduceAdd, Int.reduceSub, Int.reduceMul, Int.reduceNeg, Int.reduceEq, reduceCtorEq, eq_self, ne_eq, not_false_eq_true, if_true, reduceIte])
      | ((first | (refine hK _ ?_; clear hK K) | show thenQ _ _ _ _ | show blockQ _ _ _ _); simp only [thenQ, blockQ, if_true, Nat.reduceEqDiff, reduceIte])
      | (intro hg; first | (exfalso; omega) | (exfalso; contradiction) | skip)
      | apply And.intro
      | (with_reducible rfl)
      | (clear hK; omega)
      | omega)
  · rw [h1.1 hg]
  · rw [h1.2 hg]
set_option maxRecDepth 100000 in
set_option maxHeartbeats 4000000 in
theorem floor_ok (a b : Int) (ha : -4000000000000000000 ≤ a ∧ a ≤ 4000000000000000000) (hb : 0 < b ∧ b ≤ 4000000000000000000) : CallsTo Tryd.prog 106 [i64 a, i64 b] (i64 (a / b)) := by
  have h1 := tdiv_floor (a := a) hb.1
  have h2 := tdiv_bd ha hb.1
  have h3 : Int.tmod a b < b := Int.tmod_lt_of_pos a hb.1
  have h4 : -b < Int.tmod a b := Int.lt_tmod_of_pos a hb.1
  refine calls_abs Tryd.func106 Tryd.ntmps106 Tryd.results106 Tryd.call106 rfl (by simp) fun w0 S0 M0 => ?_
  repeat' (first
      | refine abs_seq ?_
      | refine abs_block ?_
      | refine abs_skip ?_
      | refine abs_exit ?_
      | refine abs_ret ?_
      | ((first | refine abs_region fun K hK => ?_ | refine abs_draw Tryd.ty.mixed (by kernel_rfl) fun K hK => ?_ | refine abs_if ?_ | show retQ _ _ _ _ _); simp -implicitDefEqProofs only [go_sem, bas, basL, Nat.reduceAdd, Nat.reduceSub, Nat.reduceMul, Nat.reduceLT, Nat.reduceLeDiff, Nat.reduceEqDiff, Nat.reduceBEq, Int.reduceLT, Int.reduceLE, Int.reduceToNat, Int.reduceAdd, Int.reduceSub, Int.reduceMul, Int.reduceNeg, Int.reduceEq, reduceCtorEq, eq_self, ne_eq, not_false_eq_true, if_true, reduceIte])
      | ((first | (refine hK _ ?_; clear hK K) | show thenQ _ _ _ _ | show blockQ _ _ _ _); simp only [thenQ, blockQ, if_true, Nat.reduceEqDiff, reduceIte])
      | (intro hg; first | (exfalso; omega) | (exfalso; contradiction) | skip)
      | apply And.intro
      | (with_reducible rfl)
      | (clear hK; omega)
      | omega)
  · rw [h1.1 hg]
  · rw [h1.2 hg]
theorem airL : [D.int .i64 38, .int .i64 61, .int .i64 96, .int .i64 144, .int .i64 216, .int .i64 316, .int .i64 458, .int .i64 654, .int .i64 921, .int .i64 1279, .int .i64 1753, .int .i64 2376, .int .i64 3182, .int .i64 4218, .int .i64 5532, .int .i64 7188, .int .i64 9251] = airT.map (D.int .i64) := rfl
theorem airN {n : Int} {k : D → Prop} : wNth [D.int .i64 38, .int .i64 61, .int .i64 96, .int .i64 144, .int .i64 216, .int .i64 316, .int .i64 458, .int .i64 654, .int .i64 921, .int .i64 1279, .int .i64 1753, .int .i64 2376, .int .i64 3182, .int .i64 4218, .int .i64 5532, .int .i64 7188, .int .i64 9251] n k =
    ((0 ≤ n ∧ n < 17) ∧ k (.int .i64 (nth airT n.toNat))) := by rw [airL]; exact e_nth_map
theorem airT_len : airT.length = 17 := rfl
theorem airT_bd {i : Nat} (h : i < 17) : 38 ≤ nth airT i ∧ nth airT i ≤ 9251 := by
  have : ((List.range 17).all fun i => decide (38 ≤ nth airT i ∧ nth airT i ≤ 9251)) = true := by decide
  simpa using List.all_eq_true.1 this i (List.mem_range.2 h)
theorem airT_up {i : Nat} (h : i < 16) : nth airT i ≤ nth airT (i + 1) := by
  have : ((List.range 16).all fun i => decide (nth airT i ≤ nth airT (i + 1))) = true := by decide
  simpa using List.all_eq_true.1 this i (List.mem_range.2 h)
set_option maxRecDepth 100000 in
set_option maxHeartbeats 4000000 in
theorem rair_ok (t : Int) (ht : -300 ≤ t ∧ t ≤ 500) : CallsTo Tryd.prog 69 [i64 t] (i64 (air t)) := by
  have e1 : Int.tdiv (t + 300) 50 = (t + 300) / 50 := Int.tdiv_eq_ediv_of_nonneg (by omega)
  have e2 : Int.tmod (t + 300) 50 = (t + 300) % 50 := Int.tmod_eq_emod_of_nonneg (by omega)
  have e3 : ((t + 300) / 50 + 1).toNat = ((t + 300) / 50).toNat + 1 := by omega
  have b1 := airT_bd (i := ((t + 300) / 50).toNat) (by omega)
  by_cases h0 : (t + 300) % 50 = 0
  · have e4 : air t = nth airT ((t + 300) / 50).toNat := by unfold air; rw [if_pos h0]
    rw [e4]
    refine calls_abs Tryd.func69 Tryd.ntmps69 Tryd.results69 Tryd.call69 rfl (by simp) fun w0 S0 M0 => ?_
    repeat' (first
        | refine abs_seq ?_
        | refine abs_block ?_
        | refine abs_skip ?_
        | refine abs_exit ?_
        | refine abs_ret ?_
        | ((first | refine abs_region fun K hK => ?_ | refine abs_draw Tryd.ty.mixed (by kernel_rfl) fun K hK => ?_ | refine abs_if ?_ | show retQ _ _ _ _ _); simp -implicitDefEqProofs only [go_sem, bas, basL, Nat.reduceAdd, Nat.reduceSub, Nat.reduceMul, Nat.reduceLT, Nat.reduceLeDiff, Nat.reduceEqDiff, Nat.reduceBEq, Int.reduceLT, Int.reduceLE, Int.reduceToNat, Int.reduceAdd, Int.reduceSub, Int.reduceMul, Int.reduceNeg, Int.reduceEq, reduceCtorEq, eq_self, ne_eq, not_false_eq_true, if_true, reduceIte, ↓airN, e1, e2])
        | ((first | (refine hK _ ?_; clear hK K) | show thenQ _ _ _ _ | show blockQ _ _ _ _); simp only [thenQ, blockQ, if_true, Nat.reduceEqDiff, reduceIte])
        | (intro hg; first | (exfalso; omega) | (exfalso; contradiction) | skip)
        | apply And.intro
        | (with_reducible rfl)
        | (clear hK; omega)
        | omega)
  · have b2 := airT_bd (i := ((t + 300) / 50).toNat + 1) (by omega)
    have b3 := airT_up (i := ((t + 300) / 50).toNat) (by omega)
    have b4 := mul_bd (A := 9251) (B := 50) (a := nth airT (((t + 300) / 50).toNat + 1) - nth airT ((t + 300) / 50).toNat) (b := (t + 300) % 50) (by omega) (by omega) (by omega) (by omega)
    have e5 := Int.tdiv_eq_ediv_of_nonneg (b := 50) b4.1
    have e4 : air t = nth airT ((t + 300) / 50).toNat + (nth airT (((t + 300) / 50).toNat + 1) - nth airT ((t + 300) / 50).toNat) * ((t + 300) % 50) / 50 := by unfold air; rw [if_neg h0]
    rw [e4]
    refine calls_abs Tryd.func69 Tryd.ntmps69 Tryd.results69 Tryd.call69 rfl (by simp) fun w0 S0 M0 => ?_
    repeat' (first
        | refine abs_seq ?_
        | refine abs_block ?_
        | refine abs_skip ?_
        | refine abs_exit ?_
        | refine abs_ret ?_
        | ((first | refine abs_region fun K hK => ?_ | refine abs_draw Tryd.ty.mixed (by kernel_rfl) fun K hK => ?_ | refine abs_if ?_ | show retQ _ _ _ _ _); simp -implicitDefEqProofs only [go_sem, bas, basL, Nat.reduceAdd, Nat.reduceSub, Nat.reduceMul, Nat.reduceLT, Nat.reduceLeDiff, Nat.reduceEqDiff, Nat.reduceBEq, Int.reduceLT, Int.reduceLE, Int.reduceToNat, Int.reduceAdd, Int.reduceSub, Int.reduceMul, Int.reduceNeg, Int.reduceEq, reduceCtorEq, eq_self, ne_eq, not_false_eq_true, if_true, reduceIte, ↓airN, e1, e2, e3, e5])
        | ((first | (refine hK _ ?_; clear hK K) | show thenQ _ _ _ _ | show blockQ _ _ _ _); simp only [thenQ, blockQ, if_true, Nat.reduceEqDiff, reduceIte])
        | (intro hg; first | (exfalso; omega) | (exfalso; contradiction) | skip)
        | apply And.intro
        | (with_reducible rfl)
        | (clear hK; omega)
        | omega)
end Go.Proofs.YtdbiiegohemahaaDoor
