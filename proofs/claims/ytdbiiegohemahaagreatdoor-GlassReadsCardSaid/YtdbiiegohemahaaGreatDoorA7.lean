import Derived.Test.YtdbiiegohemahaaGreatDoorA3
import Derived.Test.YtdbiiegohemahaaGreatDoorSp
import Derived.Test.YtdbiiegohemahaaGreatDoorAbX
import Derived.Test.YtdbiiegohemahaaGreatDoorSq
set_option linter.unusedVariables false
set_option linter.unusedSimpArgs false
namespace Go.Proofs.YtdbiiegohemahaaGreatDoor
open Go.Ab
attribute [local irreducible] Abs CallK CallR CallsTo

theorem gofar_ok (a b : Int) (h1 : 0 ≤ a ∧ a ≤ 400) (h2 : 0 ≤ b ∧ b ≤ 400) : CallsTo Tryz.prog 47 [i64 a, i64 b] (i64 (far a b)) := gfar_ok a b h1 h2
/-- The first two comparisons that contradict each other. -/
noncomputable def clashD (s : Stn) : D := match clashP s with
  | some p => .tup [i64 p.1, i64 p.2, .bool true]
  | none => .tup [i64 0, i64 0, .bool false]
theorem clashD_none {s : Stn} (h : NoClash s) : clashD s = .tup [i64 0, i64 0, .bool false] := by unfold clashD; rw [clashP_none h]
theorem clashD_some {s : Stn} {i k : Nat} (h : Clashes s i k) : clashD s = .tup [i64 i, i64 k, .bool true] := by unfold clashD; rw [clashP_some h]
end Go.Proofs.YtdbiiegohemahaaGreatDoor
set_option linter.unusedVariables false
set_option linter.unusedSimpArgs false
namespace Go.Proofs.YtdbiiegohemahaaGreatDoor
open Go.Ab
attribute [local irreducible] Abs CallK CallR CallsTo

theorem tdiv_floor {a b : Int} (hb : 0 < b) : (Int.tmod a b < 0 → Int.tdiv a b - 1 = a / b) ∧ (¬ Int.tmod a b < 0 → Int.tdiv a b = a / b) := by
  have h1 := Int.mul_tdiv_add_tmod a b
  have h2 : Int.tmod a b < b := Int.tmod_lt_of_pos a hb
  have h3 : -b < Int.tmod a b := Int.lt_tmod_of_pos a hb
  generalize Int.tdiv a b = q at *
  generalize Int.tmod a b = r at *
  subst h1
  constructor
  · intro hr
    rw [show b * q + r = (r + b) + (q - 1) * b by rw [Int.sub_mul, Int.mul_comm b q]; omega, Int.add_mul_ediv_right _ _ (by omega), Int.ediv_eq_zero_of_lt (by omega) (by omega)]; omega
  · intro hr
    rw [show b * q + r = r + q * b by rw [Int.mul_comm b q]; omega, Int.add_mul_ediv_right _ _ (by omega), Int.ediv_eq_zero_of_lt (by omega) (by omega)]; omega
theorem tdiv_bd {a b : Int} (ha : -4000000000000000000 ≤ a ∧ a ≤ 4000000000000000000) (hb : 0 < b) : -4000000000000000000 ≤ Int.tdiv a b ∧ Int.tdiv a b ≤ 4000000000000000000 := by
  have h := Int.natAbs_tdiv a b
  have h2 : a.natAbs / b.natAbs ≤ a.natAbs := Nat.div_le_self _ _
  have h3 : a.natAbs.div b.natAbs = a.natAbs / b.natAbs := rfl
  generalize a.natAbs / b.natAbs = q at *
  omega
set_option maxRecDepth 100000 in
set_option maxHeartbeats 4000000 in
theorem floor_ok (a b : Int) (ha : -4000000000000000000 ≤ a ∧ a ≤ 4000000000000000000) (hb : 0 < b ∧ b ≤ 4000000000000000000) : CallsTo Tryz.prog 85 [i64 a, i64 b] (i64 (a / b)) := by
  have h1 := tdiv_floor (a := a) hb.1
  have h2 := tdiv_bd ha hb.1
  have h3 : Int.tmod a b < b := Int.tmod_lt_of_pos a hb.1
  have h4 : -b < Int.tmod a b := Int.lt_tmod_of_pos a hb.1
  refine calls_abs Tryz.func85 Tryz.ntmps85 Tryz.results85 Tryz.call85 rfl (by simp) fun w0 S0 M0 => ?_
  repeat' (first
      | refine abs_seq ?_
      | refine abs_block ?_
      | refine abs_skip ?_
      | refine abs_exit ?_
      | refine abs_ret ?_
      | ((first | refine abs_region fun K hK => ?_ | refine abs_draw Tryz.ty.mixed (by kernel_rfl) fun K hK => ?_ | refine abs_if ?_ | show retQ _ _ _ _ _); simp -implicitDefEqProofs only [go_sem, bas, basL, Nat.reduceAdd, Nat.reduceSub, Nat.reduceMul, Nat.reduceLT, Nat.reduceLeDiff, Nat.reduceEqDiff, Nat.reduceBEq, Int.reduceLT, Int.reduceLE, Int.reduceToNat, Int.reduceAdd, Int.reduceSub, Int.reduceMul, Int.reduceNeg, Int.reduceEq, reduceCtorEq, eq_self, ne_eq, not_false_eq_true, if_true, reduceIte])
      | ((first | (refine hK _ ?_; clear hK K) | show thenQ _ _ _ _ | show blockQ _ _ _ _); simp only [thenQ, blockQ, if_true, Nat.reduceEqDiff, reduceIte])
      | (intro hg; first | (exfalso; omega) | (exfalso; contradiction) | skip)
      | apply And.intro
      | (with_reducible rfl)
      | (clear hK; omega)
      | omega)
  · rw [h1.1 hg]
  · rw [h1.2 hg]
theorem airL : [D.int .i64 38, .int .i64 61, .int .i64 96, .int .i64 144, .int .i64 216, .int .i64 316, .int .i64 458, .int .i64 654, .int .i64 921, .int .i64 1279, .int .i64 1753, .int .i64 2376, .int .i64 3182, .int .i64 4218, .int .i64 5532, .int .i64 7188, .int .i64 9251] = airT.map (D.int .i64) := rfl
theorem airN {n : Int} {k : D → Prop} : wNth [D.int .i64 38, .int .i64 61, .int .i64 96, .int .i64 144, .int .i64 216, .int .i64 316, .int .i64 458, .int .i64 654, .int .i64 921, .int .i64 1279, .int .i64 1753, .int .i64 2376, .int .i64 3182, .int .i64 4218, .int .i64 5532, .int .i64 7188, .int .i64 9251] n k =
    ((0 ≤ n ∧ n < 17) ∧ k (.int .i64 (nth airT n.toNat))) := by rw [airL]; exact e_nth_map
theorem airT_len : airT.length = 17 := rfl
theorem airT_bd {i : Nat} (h : i < 17) : 38 ≤ nth airT i ∧ nth airT i ≤ 9251 := by
  have : ((List.range 17).all fun i => decide (38 ≤ nth airT i ∧ nth airT i ≤ 9251)) = true := by decide
  simpa using List.all_eq_true.1 this i (List.mem_range.2 h)
theorem airT_up {i : Nat} (h : i < 16) : nth airT i ≤ nth airT (i + 1) := by
  have : ((List.range 16).all fun i => decide (nth airT i ≤ nth airT (i + 1))) = true := by decide
  simpa using List.all_eq_true.1 this i (List.mem_range.2 h)
end Go.Proofs.YtdbiiegohemahaaGreatDoor
set_option linter.unusedVariables false
set_option linter.unusedSimpArgs false
namespace Go.Proofs.YtdbiiegohemahaaGreatDoor
open Go.Ab
attribute [local irreducible] Abs CallK CallR CallsTo

abbrev wxD (r : Rdg) (t : Tru) : D := .agg [i64 (here r t), i64 (seaT r t), i64 (hum r t)]
section
variable (r : Rdg) (t : Tru)
theorem f_mer : r.mer - t.ix - t.er = mer r t := rfl
theorem f_hA : mer r t - mer r t * t.at_ * 163 / 10000000 = hereA (mer r t) t.at_ := rfl
theorem f_hG : hereA (mer r t) t.at_ + hereA (mer r t) t.at_ * t.gr / 1000000 = here r t := rfl
theorem f_sea : here r t + here r t * t.ht * 10 / (79900 + 29 * t.dy) = seaT r t := rfl
theorem f_vap : max 0 (air (min t.wt t.dy) - here r t * (t.dy - min t.wt t.dy) * 8 / 100000) = vapOf (here r t) t.dy t.wt := rfl
theorem f_hum : 100 * vapOf (here r t) t.dy t.wt / air t.dy = hum r t := rfl
end
def riseL (s : Stn) (a b : Rdg) : Int := b.mer - a.mer - min (ixH s b.day - ixL s a.day) (s.dr * far b.day a.day) - 2 * s.rd
def riseH (s : Stn) (a b : Rdg) : Int := b.mer - a.mer + min (ixH s a.day - ixL s b.day) (s.dr * far a.day b.day) + 2 * s.rd
def railM (r : Rdg) : Int := 1440 * r.day + r.min
end Go.Proofs.YtdbiiegohemahaaGreatDoor
set_option linter.unusedVariables false
set_option linter.unusedSimpArgs false
namespace Go.Proofs.YtdbiiegohemahaaGreatDoor
open Go.Ab
attribute [local irreducible] Abs CallK CallR CallsTo

end Go.Proofs.YtdbiiegohemahaaGreatDoor
