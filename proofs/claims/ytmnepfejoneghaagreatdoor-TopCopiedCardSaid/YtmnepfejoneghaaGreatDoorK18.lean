import Derived.Test.YtmnepfejoneghaaGreatDoorK17
import Derived.Test.YtmnepfejoneghaaGreatDoorK16
import Derived.Test.YtmnepfejoneghaaGreatDoorK09
set_option linter.unusedVariables false
set_option linter.unusedSimpArgs false
namespace Go.Proofs.YtmnepfejoneghaaGreatDoor
open Go.Ab
attribute [local irreducible] Abs CallK CallR CallsTo
theorem stOk_no {s : Stn} {j : Nat} (hj : j < s.ck.length) (h : ¬ CkOk (nth s.ck j)) : ¬ StOk s := fun hs => h (hs.c j hj)
set_option maxRecDepth 100000 in
set_option maxHeartbeats 4000000 in
theorem gvalid_ok (s : Stn) (hl : s.ck.length ≤ 9223372036854775807) : CallsTo Tryz.prog 83 [stD s] (.bool (decide (StOk s))) := by
  refine calls_abs Tryz.func83 Tryz.ntmps83 Tryz.results83 Tryz.call83 rfl (by simp) fun w0 S0 M0 => ?_
  repeat' (first | refine st1 ?_ | ((first | refine abs_region fun K hK => ?_ | refine abs_draw Tryz.ty.mixed (by kernel_rfl) fun K hK => ?_ | refine abs_if ?_ | show retQ _ _ _ _ _); (refine sim ?_; try exact trivial)) | ((first | (refine hK _ ?_; clear hK K) | show thenQ _ _ _ _ | show blockQ _ _ _ _); refine qst0 ?_) | (intro hg; try exact fin2) | apply And.intro | exact fin | fail)
  refine abs_loopN (ι := Nat) (fun j => [(1, .box 0 0), (6, .list (s.ck.map ckD)), (7, i64 s.ck.length), (8, i64 j)]) (fun _ => [.mu (stC s)]) (fun _ => [])
    (fun j => j ≤ s.ck.length ∧ ∀ i, i < j → CkOk (nth s.ck i)) (fun j => s.ck.length - j) (fun _ _ => ⟨rfl, rfl⟩) 0 ⟨Nat.zero_le _, fun i h => absurd h (Nat.not_lt_zero i)⟩ (le_of rfl (by try (refine sim ?_; try exact trivial); try simp) ⟨_, rfl⟩ ⟨_, rfl⟩) (fun j ⟨hj, hi⟩ => ?_)
  (refine sim ?_; try exact trivial)
  repeat' (first | refine st1 ?_ | ((first | refine abs_region fun K hK => ?_ | refine abs_draw Tryz.ty.mixed (by kernel_rfl) fun K hK => ?_ | refine abs_if ?_ | show retQ _ _ _ _ _ | refine callK (gcheck_ok _) ?_ | refine callK (gin_ok _ _ _) ?_ | refine callK (gspan_ok _ _ _ _) ?_); (refine sim ?_; try exact trivial)) | ((first | (refine hK _ ?_; clear hK K) | show thenQ _ _ _ _ | show blockQ _ _ _ _); refine qst0 ?_) | (intro hg; try exact fin2) | apply And.intro | exact fin | fail)
  · rw [decide_eq_false (stOk_no (j := j) (by omega) hg)]
  · refine ⟨j + 1, ⟨by omega, fun i h => ?_⟩, by omega, le_of rfl (by try (refine sim ?_; try exact trivial); try simp) ⟨_, rfl⟩ ⟨_, rfl⟩⟩
    by_cases h9 : i = j
    · rw [h9]; exact hg
    · exact hi i (by omega)
  all_goals (
    have h9 : (∀ i, i < s.ck.length → CkOk (nth s.ck i)) = True := eq_true fun i h => hi i (by omega)
    refine boolD ?_
    simp only [decide_eq_true_eq, Bool.false_eq_true, false_iff, iff_false, true_iff, iff_true, stOk_iff, h9, and_true]
    simp only [Spn] at *
    omega)
end Go.Proofs.YtmnepfejoneghaaGreatDoor
namespace Go.Proofs.YtmnepfejoneghaaGreatDoor
open Go.Ab
attribute [local irreducible] Abs CallK CallR CallsTo
theorem gofar_ok (a b : Int) (h1 : 0 ≤ a ∧ a ≤ 400) (h2 : 0 ≤ b ∧ b ≤ 400) : CallsTo Tryz.prog 136 [i64 a, i64 b] (i64 (far a b)) := gfar_ok a b h1 h2
/-- The first two comparisons that contradict each other. -/
noncomputable def clashD (s : Stn) : D := match clashP s with
  | some p => .tup [i64 p.1, i64 p.2, .bool true]
  | none => .tup [i64 0, i64 0, .bool false]
theorem clashD_none {s : Stn} (h : NoClash s) : clashD s = .tup [i64 0, i64 0, .bool false] := by unfold clashD; rw [clashP_none h]
theorem clashD_some {s : Stn} {i k : Nat} (h : Clashes s i k) : clashD s = .tup [i64 i, i64 k, .bool true] := by unfold clashD; rw [clashP_some h]
end Go.Proofs.YtmnepfejoneghaaGreatDoor
namespace Go.Proofs.YtmnepfejoneghaaGreatDoor
open Go.Ab
attribute [local irreducible] Abs CallK CallR CallsTo
theorem tdiv_floor {a b : Int} (hb : 0 < b) : (Int.tmod a b < 0 → Int.tdiv a b - 1 = a / b) ∧ (¬ Int.tmod a b < 0 → Int.tdiv a b = a / b) := by
  have h1 := Int.mul_tdiv_add_tmod a b
  have h2 : Int.tmod a b < b := Int.tmod_lt_of_pos a hb
  have h3 : -b < Int.tmod a b := Int.lt_tmod_of_pos a hb
  generalize Int.tdiv a b = q at *
  generalize Int.tmod a b = r at *
  subst h1
  constructor
  · intro hr
    rw [show b * q + r = (r + b) + (q - 1) * b by rw [Int.sub_mul, Int.mul_comm b q]; omega, Int.add_mul_ediv_right _ _ (by omega), Int.ediv_eq_zero_of_lt (by omega) (by omega)]; omega
  · intro hr
    rw [show b * q + r = r + q * b by rw [Int.mul_comm b q]; omega, Int.add_mul_ediv_right _ _ (by omega), Int.ediv_eq_zero_of_lt (by omega) (by omega)]; omega
theorem tdiv_bd {a b : Int} (ha : -4000000000000000000 ≤ a ∧ a ≤ 4000000000000000000) (hb : 0 < b) : -4000000000000000000 ≤ Int.tdiv a b ∧ Int.tdiv a b ≤ 4000000000000000000 := by
  have h := Int.natAbs_tdiv a b
  have h2 : a.natAbs / b.natAbs ≤ a.natAbs := Nat.div_le_self _ _
  have h3 : a.natAbs.div b.natAbs = a.natAbs / b.natAbs := rfl
  generalize a.natAbs / b.natAbs = q at *
  omega
set_option maxRecDepth 100000 in
set_option maxHeartbeats 4000000 in
theorem floor_ok (a b : Int) (ha : -4000000000000000000 ≤ a ∧ a ≤ 4000000000000000000) (hb : 0 < b ∧ b ≤ 4000000000000000000) : CallsTo Tryz.prog 133 [i64 a, i64 b] (i64 (a / b)) := by
  have h1 := tdiv_floor (a := a) hb.1
  have h2 := tdiv_bd ha hb.1
  have h3 : Int.tmod a b < b := Int.tmod_lt_of_pos a hb.1
  have h4 : -b < Int.tmod a b := Int.lt_tmod_of_pos a hb.1
  refine calls_abs Tryz.func133 Tryz.ntmps133 Tryz.results133 Tryz.call133 rfl (by simp) fun w0 S0 M0 => ?_
  repeat' (first | refine st1 ?_ | ((first | refine abs_region fun K hK => ?_ | refine abs_draw Tryz.ty.mixed (by kernel_rfl) fun K hK => ?_ | refine abs_if ?_ | show retQ _ _ _ _ _); (refine sim ?_; try exact trivial)) | ((first | (refine hK _ ?_; clear hK K) | show thenQ _ _ _ _ | show blockQ _ _ _ _); refine qst0 ?_) | (intro hg; try exact fin2) | apply And.intro | exact fin | fail)
  · rw [h1.1 hg]
  · rw [h1.2 hg]
theorem airT_bd {i : Nat} (h : i < 17) : 38 ≤ nth airT i ∧ nth airT i ≤ 9251 := by
  have : ((List.range 17).all fun i => decide (38 ≤ nth airT i ∧ nth airT i ≤ 9251)) = true := by decide
  simpa using List.all_eq_true.1 this i (List.mem_range.2 h)
theorem airT_up {i : Nat} (h : i < 16) : nth airT i ≤ nth airT (i + 1) := by
  have : ((List.range 16).all fun i => decide (nth airT i ≤ nth airT (i + 1))) = true := by decide
  simpa using List.all_eq_true.1 this i (List.mem_range.2 h)
end Go.Proofs.YtmnepfejoneghaaGreatDoor
namespace Go.Proofs.YtmnepfejoneghaaGreatDoor
open Go.Ab
attribute [local irreducible] Abs CallK CallR CallsTo
abbrev wxD (r : Rdg) (t : Tru) : D := .agg [i64 (here r t), i64 (seaT r t), i64 (hum r t)]
section
variable (r : Rdg) (t : Tru)
theorem f_mer : r.mer - t.ix - t.er = mer r t := rfl
theorem f_hA : mer r t - mer r t * t.at_ * 163 / 10000000 = hereA (mer r t) t.at_ := rfl
theorem f_hG : hereA (mer r t) t.at_ + hereA (mer r t) t.at_ * t.gr / 1000000 = here r t := rfl
theorem f_sea : here r t + here r t * t.ht * 10 / (79900 + 29 * t.dy) = seaT r t := rfl
theorem f_vap : max 0 (air (min t.wt t.dy) - here r t * (t.dy - min t.wt t.dy) * 8 / 100000) = vapOf (here r t) t.dy t.wt := rfl
theorem f_hum : 100 * vapOf (here r t) t.dy t.wt / air t.dy = hum r t := rfl
end
end Go.Proofs.YtmnepfejoneghaaGreatDoor
namespace Go.Proofs.YtmnepfejoneghaaGreatDoor
open Go.Ab
attribute [local irreducible] Abs CallK CallR CallsTo
end Go.Proofs.YtmnepfejoneghaaGreatDoor
namespace Go.Proofs.YtmnepfejoneghaaGreatDoor
open Go.Ab
attribute [local irreducible] Abs CallK CallR CallsTo
section
variable {s : Stn} {r : Rdg}
end
end Go.Proofs.YtmnepfejoneghaaGreatDoor
namespace Go.Proofs.YtmnepfejoneghaaGreatDoor
open Go.Ab
attribute [local irreducible] Abs CallK CallR CallsTo
/-- What is known of a reading. -/
abbrev knD (s : Stn) (r : Rdg) : D := .agg [i64 (here r (endT s r 0)), i64 (here r (endT s r 1)), i64 (seaT r (endT s r 2)), i64 (seaT r (endT s r 3)), i64 (hum r (endT s r 4)), i64 (hum r (endT s r 5))]
end Go.Proofs.YtmnepfejoneghaaGreatDoor
namespace Go.Proofs.YtmnepfejoneghaaGreatDoor
open Go.Ab
attribute [local irreducible] Abs CallK CallR CallsTo
abbrev airD : D := .agg [i64 38, i64 61, i64 96, i64 144, i64 216, i64 316, i64 458, i64 654, i64 921, i64 1279, i64 1753, i64 2376, i64 3182, i64 4218, i64 5532, i64 7188, i64 9251]
set_option maxRecDepth 100000 in
set_option maxHeartbeats 4000000 in
theorem held_ok : CallsTo Tryz.prog 164 [] airD := by
  refine calls_abs Tryz.func164 Tryz.ntmps164 Tryz.results164 Tryz.call164 rfl (by simp) fun w0 S0 M0 => ?_
  repeat' (first | refine st1 ?_ | ((first | refine abs_region fun K hK => ?_ | refine abs_draw Tryz.ty.mixed (by kernel_rfl) fun K hK => ?_ | refine abs_if ?_ | show retQ _ _ _ _ _); (refine sim ?_; try exact trivial)) | ((first | (refine hK _ ?_; clear hK K) | show thenQ _ _ _ _ | show blockQ _ _ _ _); refine qst0 ?_) | (intro hg; try exact fin2) | apply And.intro | exact fin | fail)
theorem airHd {n : Nat} {k : D → Prop} : wHead ([D.int .i64 38, .int .i64 61, .int .i64 96, .int .i64 144, .int .i64 216, .int .i64 316, .int .i64 458, .int .i64 654, .int .i64 921, .int .i64 1279, .int .i64 1753, .int .i64 2376, .int .i64 3182, .int .i64 4218, .int .i64 5532, .int .i64 7188, .int .i64 9251].drop n) k =
    (n < 17 ∧ k (.int .i64 (nth airT n))) := by
  have hd : ∀ (l : List Int) (n : Nat), (wHead ((l.map (D.int .i64)).drop n) k) = (n < l.length ∧ k (.int .i64 (nth l n))) := by
    intro l
    induction l with
    | nil => intro n; simp [wHead]
    | cons a l ih =>
      intro n
      cases n with
      | zero => simp [wHead, nth]
      | succ n =>
        have := ih n
        simp only [List.map_cons, List.drop_succ_cons, List.length_cons, Nat.add_lt_add_iff_right]
        rw [this]; rfl
  exact hd airT n
set_option maxRecDepth 100000 in
set_option maxHeartbeats 4000000 in
theorem hold_ok (t : Int) (ht : -300 ≤ t ∧ t ≤ 500) : CallsTo Tryz.prog 134 [i64 t] (i64 (air t)) := by
  have e1 : Int.tdiv (t + 300) 50 = (t + 300) / 50 := Int.tdiv_eq_ediv_of_nonneg (by omega)
  have e2 : Int.tmod (t + 300) 50 = (t + 300) % 50 := Int.tmod_eq_emod_of_nonneg (by omega)
  have e3 : ((t + 300) / 50 + 1).toNat = ((t + 300) / 50).toNat + 1 := by omega
  have b1 := airT_bd (i := ((t + 300) / 50).toNat) (by omega)
  by_cases h0 : (t + 300) % 50 = 0
  · have e4 : air t = nth airT ((t + 300) / 50).toNat := by unfold air; rw [if_pos h0]
    rw [e4]
    refine calls_abs Tryz.func134 Tryz.ntmps134 Tryz.results134 Tryz.call134 rfl (by simp) fun w0 S0 M0 => ?_
    repeat' (first | refine st1 ?_ | ((first | refine abs_region fun K hK => ?_ | refine abs_draw Tryz.ty.mixed (by kernel_rfl) fun K hK => ?_ | refine abs_if ?_ | show retQ _ _ _ _ _ | refine callK (held_ok) ?_); simp -implicitDefEqProofs only [go_sem, bas, basL, Nat.reduceAdd, Nat.reduceSub, Nat.reduceMul, Nat.reduceLT, Nat.reduceLeDiff, Nat.reduceEqDiff, Nat.reduceBEq, Int.reduceLT, Int.reduceLE, Int.reduceToNat, Int.reduceAdd, Int.reduceSub, Int.reduceMul, Int.reduceNeg, Int.reduceEq, reduceCtorEq, eq_self, ne_eq, not_false_eq_true, if_true, reduceIte, ↓airHd, e1, e2, Nat.zero_add, Nat.mul_one]) | ((first | (refine hK _ ?_; clear hK K) | show thenQ _ _ _ _ | show blockQ _ _ _ _); refine qst0 ?_) | (intro hg; try exact fin2) | apply And.intro | exact fin | fail)
  · have b2 := airT_bd (i := ((t + 300) / 50).toNat + 1) (by omega)
    have b3 := airT_up (i := ((t + 300) / 50).toNat) (by omega)
    have b4 := mul_bd (A := 9251) (B := 50) (a := nth airT (((t + 300) / 50).toNat + 1) - nth airT ((t + 300) / 50).toNat) (b := (t + 300) % 50) (by omega) (by omega) (by omega) (by omega)
    have e5 := Int.tdiv_eq_ediv_of_nonneg (b := 50) b4.1
    have e4 : air t = nth airT ((t + 300) / 50).toNat + (nth airT (((t + 300) / 50).toNat + 1) - nth airT ((t + 300) / 50).toNat) * ((t + 300) % 50) / 50 := by unfold air; rw [if_neg h0]
    rw [e4]
    refine calls_abs Tryz.func134 Tryz.ntmps134 Tryz.results134 Tryz.call134 rfl (by simp) fun w0 S0 M0 => ?_
    repeat' (first | refine st1 ?_ | ((first | refine abs_region fun K hK => ?_ | refine abs_draw Tryz.ty.mixed (by kernel_rfl) fun K hK => ?_ | refine abs_if ?_ | show retQ _ _ _ _ _ | refine callK (held_ok) ?_); simp -implicitDefEqProofs only [go_sem, bas, basL, Nat.reduceAdd, Nat.reduceSub, Nat.reduceMul, Nat.reduceLT, Nat.reduceLeDiff, Nat.reduceEqDiff, Nat.reduceBEq, Int.reduceLT, Int.reduceLE, Int.reduceToNat, Int.reduceAdd, Int.reduceSub, Int.reduceMul, Int.reduceNeg, Int.reduceEq, reduceCtorEq, eq_self, ne_eq, not_false_eq_true, if_true, reduceIte, ↓airHd, e1, e2, e3, e5, Nat.zero_add, Nat.mul_one]) | ((first | (refine hK _ ?_; clear hK K) | show thenQ _ _ _ _ | show blockQ _ _ _ _); refine qst0 ?_) | (intro hg; try exact fin2) | apply And.intro | exact fin | fail)
abbrev coD (r : Rdg) (t : Tru) : D := .agg [i64 t.ix, i64 t.er, i64 t.gr, i64 t.ht, i64 t.at_, i64 t.dy, i64 t.wt, i64 r.mer]
set_option maxRecDepth 100000 in
set_option maxHeartbeats 4000000 in
theorem coix_ok (r : Rdg) (hr : RdOk r) (t : Tru) (ht : TrB t) (n : Int) : CallsTo Tryz.prog 130 [coD r t, i64 n] (i64 (mer r t)) := by
  have b0 := mer_bd hr ht
  have hq := hr.q; have h1 := ht.i; have h2 := ht.e
  refine calls_abs Tryz.func130 Tryz.ntmps130 Tryz.results130 Tryz.call130 rfl (by simp) fun w0 S0 M0 => ?_
  repeat' (first | refine st1 ?_ | ((first | refine abs_region fun K hK => ?_ | refine abs_draw Tryz.ty.mixed (by kernel_rfl) fun K hK => ?_ | refine abs_if ?_ | show retQ _ _ _ _ _); (refine sim ?_; try exact trivial)) | ((first | (refine hK _ ?_; clear hK K) | show thenQ _ _ _ _ | show blockQ _ _ _ _); refine qst0 ?_) | (intro hg; try exact fin2) | apply And.intro | exact fin | fail)
  rfl
set_option maxRecDepth 100000 in
set_option maxHeartbeats 4000000 in
theorem heat_ok (r : Rdg) (hr : RdOk r) (t : Tru) (ht : TrB t) : CallsTo Tryz.prog 131 [coD r t, i64 (mer r t)] (i64 (hereA (mer r t) t.at_)) := by
  have b0 := mer_bd hr ht
  have b1 := hereA_bd b0 ht.a
  unfold hereA at *
  refine calls_abs Tryz.func131 Tryz.ntmps131 Tryz.results131 Tryz.call131 rfl (by simp) fun w0 S0 M0 => ?_
  repeat' (first | refine st1 ?_ | ((first | refine abs_region fun K hK => ?_ | refine abs_draw Tryz.ty.mixed (by kernel_rfl) fun K hK => ?_ | refine abs_if ?_ | show retQ _ _ _ _ _ | refine callK (floor_ok _ _ (by omega) (by omega)) ?_); (refine sim ?_; try exact trivial)) | ((first | (refine hK _ ?_; clear hK K) | show thenQ _ _ _ _ | show blockQ _ _ _ _); refine qst0 ?_) | (intro hg; try exact fin2) | apply And.intro | exact fin | fail)
set_option maxRecDepth 100000 in
set_option maxHeartbeats 4000000 in
theorem weight_ok (r : Rdg) (hr : RdOk r) (t : Tru) (ht : TrB t) : CallsTo Tryz.prog 132 [coD r t, i64 (hereA (mer r t) t.at_)] (i64 (here r t)) := by
  have b0 := mer_bd hr ht
  have b1 := hereA_bd b0 ht.a
  have b2 := hereG_bd b1.2 ht.g
  unfold here hereOf hereG at *
  refine calls_abs Tryz.func132 Tryz.ntmps132 Tryz.results132 Tryz.call132 rfl (by simp) fun w0 S0 M0 => ?_
  repeat' (first | refine st1 ?_ | ((first | refine abs_region fun K hK => ?_ | refine abs_draw Tryz.ty.mixed (by kernel_rfl) fun K hK => ?_ | refine abs_if ?_ | show retQ _ _ _ _ _ | refine callK (floor_ok _ _ (by omega) (by omega)) ?_); (refine sim ?_; try exact trivial)) | ((first | (refine hK _ ?_; clear hK K) | show thenQ _ _ _ _ | show blockQ _ _ _ _); refine qst0 ?_) | (intro hg; try exact fin2) | apply And.intro | exact fin | fail)
def hereK (r : Rdg) (t : Tru) : Nat → Int
  | 0 => 0
  | 1 => mer r t
  | 2 => hereA (mer r t) t.at_
  | _ => here r t
set_option maxRecDepth 100000 in
set_option maxHeartbeats 4000000 in
theorem ghere_ok (r : Rdg) (hr : RdOk r) (t : Tru) (ht : TrB t) : CallsTo Tryz.prog 87 [coD r t] (i64 (here r t)) := by
  refine calls_abs Tryz.func87 Tryz.ntmps87 Tryz.results87 Tryz.call87 rfl (by simp) fun w0 S0 M0 => ?_
  repeat' (first | refine st1 ?_ | ((first | refine abs_region fun K hK => ?_ | refine abs_draw Tryz.ty.mixed (by kernel_rfl) fun K hK => ?_ | refine abs_if ?_ | show retQ _ _ _ _ _); (refine withX (And.intro @Int.natCast_zero (And.intro @Int.natCast_one (@Int.cast_ofNat_Int))) fun hX => ?_; refine simh ?_; clear hX; try exact trivial)) | ((first | (refine hK _ ?_; clear hK K) | show thenQ _ _ _ _ | show blockQ _ _ _ _); refine qst0 ?_) | (intro hg; try exact fin2) | apply And.intro | exact fin | fail)
  refine abs_loopN (ι := Nat) (fun j => [(3, i64 (hereK r t j)), (12, .agg [.mth 130 [coD r t], .mth 131 [coD r t], .mth 132 [coD r t]]), (13, i64 j)]) (fun _ => []) (fun _ => [])
    (fun j => j ≤ 3) (fun j => 3 - j) (fun j _ => ⟨rfl, rfl⟩) 0 (Nat.zero_le _) (le_of rfl (by try (refine withX (And.intro @Int.natCast_zero (And.intro @Int.natCast_one (@Int.cast_ofNat_Int))) fun hX => ?_; refine simh ?_; clear hX; try exact trivial); try simp [hereK]) ⟨_, rfl⟩ ⟨_, rfl⟩) (fun j hj => ?_)
  match j, hj with
  | 0, _ =>
    (refine withX (And.intro @Int.natCast_zero (And.intro @Int.natCast_one (@Int.cast_ofNat_Int))) fun hX => ?_; refine simh ?_; clear hX; try exact trivial)
    repeat' (first | refine st1 ?_ | ((first | refine abs_region fun K hK => ?_ | refine abs_draw Tryz.ty.mixed (by kernel_rfl) fun K hK => ?_ | refine abs_if ?_ | show retQ _ _ _ _ _ | refine callK (coix_ok r hr t ht _) ?_); (refine withX (And.intro @Int.natCast_zero (And.intro @Int.natCast_one (@Int.cast_ofNat_Int))) fun hX => ?_; refine simh ?_; clear hX; try exact trivial)) | ((first | (refine hK _ ?_; clear hK K) | show thenQ _ _ _ _ | show blockQ _ _ _ _); refine qst0 ?_) | (intro hg; try exact fin2) | apply And.intro | exact fin | fail)
    exact ⟨1, by omega, by omega, le_of rfl (by try (refine withX (And.intro @Int.natCast_zero (And.intro @Int.natCast_one (@Int.cast_ofNat_Int))) fun hX => ?_; refine simh ?_; clear hX; try exact trivial); try simp [hereK]) ⟨_, rfl⟩ ⟨_, rfl⟩⟩
  | 1, _ =>
    simp only [hereK]
    (refine withX (And.intro @Int.natCast_zero (And.intro @Int.natCast_one (@Int.cast_ofNat_Int))) fun hX => ?_; refine simh ?_; clear hX; try exact trivial)
    repeat' (first | refine st1 ?_ | ((first | refine abs_region fun K hK => ?_ | refine abs_draw Tryz.ty.mixed (by kernel_rfl) fun K hK => ?_ | refine abs_if ?_ | show retQ _ _ _ _ _ | refine callK (heat_ok r hr t ht) ?_); (refine withX (And.intro @Int.natCast_zero (And.intro @Int.natCast_one (@Int.cast_ofNat_Int))) fun hX => ?_; refine simh ?_; clear hX; try exact trivial)) | ((first | (refine hK _ ?_; clear hK K) | show thenQ _ _ _ _ | show blockQ _ _ _ _); refine qst0 ?_) | (intro hg; try exact fin2) | apply And.intro | exact fin | fail)
    exact ⟨2, by omega, by omega, le_of rfl (by try (refine withX (And.intro @Int.natCast_zero (And.intro @Int.natCast_one (@Int.cast_ofNat_Int))) fun hX => ?_; refine simh ?_; clear hX; try exact trivial); try simp [hereK]) ⟨_, rfl⟩ ⟨_, rfl⟩⟩
  | 2, _ =>
    simp only [hereK]
    (refine withX (And.intro @Int.natCast_zero (And.intro @Int.natCast_one (@Int.cast_ofNat_Int))) fun hX => ?_; refine simh ?_; clear hX; try exact trivial)
    repeat' (first | refine st1 ?_ | ((first | refine abs_region fun K hK => ?_ | refine abs_draw Tryz.ty.mixed (by kernel_rfl) fun K hK => ?_ | refine abs_if ?_ | show retQ _ _ _ _ _ | refine callK (weight_ok r hr t ht) ?_); (refine withX (And.intro @Int.natCast_zero (And.intro @Int.natCast_one (@Int.cast_ofNat_Int))) fun hX => ?_; refine simh ?_; clear hX; try exact trivial)) | ((first | (refine hK _ ?_; clear hK K) | show thenQ _ _ _ _ | show blockQ _ _ _ _); refine qst0 ?_) | (intro hg; try exact fin2) | apply And.intro | exact fin | fail)
    exact ⟨3, by omega, by omega, le_of rfl (by try (refine withX (And.intro @Int.natCast_zero (And.intro @Int.natCast_one (@Int.cast_ofNat_Int))) fun hX => ?_; refine simh ?_; clear hX; try exact trivial); try simp [hereK]) ⟨_, rfl⟩ ⟨_, rfl⟩⟩
  | 3, _ =>
    simp only [hereK]
    (refine withX (And.intro @Int.natCast_zero (And.intro @Int.natCast_one (@Int.cast_ofNat_Int))) fun hX => ?_; refine simh ?_; clear hX; try exact trivial)
    repeat' (first | refine st1 ?_ | ((first | refine abs_region fun K hK => ?_ | refine abs_draw Tryz.ty.mixed (by kernel_rfl) fun K hK => ?_ | refine abs_if ?_ | show retQ _ _ _ _ _); (refine withX (And.intro @Int.natCast_zero (And.intro @Int.natCast_one (@Int.cast_ofNat_Int))) fun hX => ?_; refine simh ?_; clear hX; try exact trivial)) | ((first | (refine hK _ ?_; clear hK K) | show thenQ _ _ _ _ | show blockQ _ _ _ _); refine qst0 ?_) | (intro hg; try exact fin2) | apply And.intro | exact fin | fail)
end Go.Proofs.YtmnepfejoneghaaGreatDoor
namespace Go.Proofs.YtmnepfejoneghaaGreatDoor
open Go.Ab
attribute [local irreducible] Abs CallK CallR CallsTo
set_option maxRecDepth 100000 in
set_option maxHeartbeats 4000000 in
theorem gsea_ok (r : Rdg) (hr : RdOk r) (t : Tru) (ht : TrB t) : CallsTo Tryz.prog 88 [coD r t, i64 (here r t)] (i64 (seaT r t)) := by
  have b3 := here_bd hr ht
  have b4 := seaOf_bd b3 ht.h ht.d
  have b8 : 36700 ≤ seaT r t ∧ seaT r t ≤ 3000000000 := by unfold seaT; omega
  have h4 := ht.h; have h6 := ht.d
  refine calls_abs Tryz.func88 Tryz.ntmps88 Tryz.results88 Tryz.call88 rfl (by simp) fun w0 S0 M0 => ?_
  repeat' (first | refine st1 ?_ | ((first | refine abs_region fun K hK => ?_ | refine abs_draw Tryz.ty.mixed (by kernel_rfl) fun K hK => ?_ | refine abs_if ?_ | show retQ _ _ _ _ _ | refine callK (floor_ok _ _ (by omega) (by omega)) ?_); (refine withX (And.intro @f_mer (And.intro @f_hA (And.intro @f_hG (And.intro @f_sea (And.intro @f_vap (@f_hum)))))) fun hX => ?_; refine simh ?_; clear hX; try exact trivial)) | ((first | (refine hK _ ?_; clear hK K) | show thenQ _ _ _ _ | show blockQ _ _ _ _); refine qst0 ?_) | (intro hg; try exact fin2) | apply And.intro | exact fin | fail)
set_option maxRecDepth 100000 in
set_option maxHeartbeats 4000000 in
theorem ghum_ok (r : Rdg) (hr : RdOk r) (t : Tru) (ht : TrB t) : CallsTo Tryz.prog 89 [coD r t, i64 (here r t)] (i64 (hum r t)) := by
  have b3 := here_bd hr ht
  have b5 := vapOf_bd b3 ht.d ht.w
  have b6 := air_at ht.d
  have b7 := air_at (t := min t.wt t.dy) (by have := ht.d; have := ht.w; omega)
  have h6 := ht.d; have h7 := ht.w
  refine calls_abs Tryz.func89 Tryz.ntmps89 Tryz.results89 Tryz.call89 rfl (by simp) fun w0 S0 M0 => ?_
  repeat' (first | refine st1 ?_ | ((first | refine abs_region fun K hK => ?_ | refine abs_draw Tryz.ty.mixed (by kernel_rfl) fun K hK => ?_ | refine abs_if ?_ | show retQ _ _ _ _ _ | refine callK (least_ok _ _) ?_ | refine callK (greatest_ok _ _) ?_ | refine callK (floor_ok _ _ (by omega) (by omega)) ?_ | refine callK (hold_ok _ (by omega)) ?_); (refine withX (And.intro @f_mer (And.intro @f_hA (And.intro @f_hG (And.intro @f_sea (And.intro @f_vap (@f_hum)))))) fun hX => ?_; refine simh ?_; clear hX; try exact trivial)) | ((first | (refine hK _ ?_; clear hK K) | show thenQ _ _ _ _ | show blockQ _ _ _ _); refine qst0 ?_) | (intro hg; try exact fin2) | apply And.intro | exact fin | fail)
set_option maxRecDepth 100000 in
set_option maxHeartbeats 4000000 in
theorem weather_ok (r : Rdg) (hr : RdOk r) (t : Tru) (ht : TrB t) : CallsTo Tryz.prog 47 [rdD r, trD t] (wxD r t) := by
  refine calls_abs Tryz.func47 Tryz.ntmps47 Tryz.results47 Tryz.call47 rfl (by simp) fun w0 S0 M0 => ?_
  repeat' (first | refine st1 ?_ | ((first | refine abs_region fun K hK => ?_ | refine abs_draw Tryz.ty.mixed (by kernel_rfl) fun K hK => ?_ | refine abs_if ?_ | show retQ _ _ _ _ _ | refine callK (ghere_ok r hr t ht) ?_ | refine callK (gsea_ok r hr t ht) ?_ | refine callK (ghum_ok r hr t ht) ?_); (refine sim ?_; try exact trivial)) | ((first | (refine hK _ ?_; clear hK K) | show thenQ _ _ _ _ | show blockQ _ _ _ _); refine qst0 ?_) | (intro hg; try exact fin2) | apply And.intro | exact fin | fail)
end Go.Proofs.YtmnepfejoneghaaGreatDoor
namespace Go.Proofs.YtmnepfejoneghaaGreatDoor
open Go.Ab
attribute [local irreducible] Abs CallK CallR CallsTo
/-- The bounds of the index, as they are kept. -/
abbrev ixM (s : Stn) : Memo := ⟨false, .arr, 1, fun l => [ixL s (l.headD 0), ixH s (l.headD 0)], []⟩
/-- A station that is looked at. -/
abbrev stM (s : Stn) : D := .agg [i64 s.hl, i64 s.hh, i64 s.gl, i64 s.gh, i64 s.dr, i64 s.rd, i64 s.ea, i64 s.sl, .list (s.ck.map ckD), .memo (ixM s)]
abbrev stMC (s : Stn) : List D := [i64 s.hl, i64 s.hh, i64 s.gl, i64 s.gh, i64 s.dr, i64 s.rd, i64 s.ea, i64 s.sl, .list (s.ck.map ckD), .memo (ixM s)]
abbrev noM : D := .agg [i64 0, i64 0, i64 0, i64 0, i64 0, i64 0, i64 0, i64 0, .val (.slice none 0 0), .val (.map none)]
set_option maxRecDepth 100000 in
set_option maxHeartbeats 4000000 in
theorem look_ok (s : Stn) : CallsTo Tryz.prog 84 [stD s] (stM s) := by
  refine calls_abs Tryz.func84 Tryz.ntmps84 Tryz.results84 Tryz.call84 rfl (by simp) fun w0 S0 M0 => ?_
  repeat' (first | refine st1 ?_ | ((first | refine abs_region fun K hK => ?_ | refine abs_draw Tryz.ty.mixed (by kernel_rfl) fun K hK => ?_ | refine abs_if ?_ | show retQ _ _ _ _ _); (refine sim ?_; try exact trivial)) | ((first | (refine hK _ ?_; clear hK K) | show thenQ _ _ _ _ | show blockQ _ _ _ _ | show noGoQ _ _ _); refine qst ?_) | (refine ⟨(ixM s : Memo), rfl, ?_⟩) | (intro hg; try exact fin2) | apply And.intro | exact fin | fail)
  all_goals skip
theorem con_iff {s : Stn} {i k : Nat} : Con s i k ↔ (s.dr * far (nth s.ck i).day (nth s.ck k).day < (nth s.ck i).lo - (nth s.ck k).hi ∨ s.dr * far (nth s.ck i).day (nth s.ck k).day < (nth s.ck k).lo - (nth s.ck i).hi) := by
  unfold Con
  generalize s.dr * far (nth s.ck i).day (nth s.ck k).day = d
  omega
set_option maxRecDepth 100000 in
set_option maxHeartbeats 4000000 in
theorem apart_ok (s : Stn) (hs : StOk s) (i k : Nat) (hi : i < s.ck.length) (hk : k < s.ck.length) : CallsTo Tryz.prog 129 [stM s, ckD (nth s.ck i), ckD (nth s.ck k)] (.bool (decide (Con s i k))) := by
  have hdr := hs.d
  have c1 := hs.c i hi
  have c2 := hs.c k hk
  have b1 := mul_bd hdr.1 hdr.2 (far_bd c1.1 c2.1).1 (far_bd c1.1 c2.1).2
  have b5 : -2000 ≤ (nth s.ck i).lo ∧ (nth s.ck i).lo ≤ (nth s.ck i).hi ∧ (nth s.ck i).hi ≤ 2000 := c1.2
  have b6 : -2000 ≤ (nth s.ck k).lo ∧ (nth s.ck k).lo ≤ (nth s.ck k).hi ∧ (nth s.ck k).hi ≤ 2000 := c2.2
  refine calls_abs Tryz.func129 Tryz.ntmps129 Tryz.results129 Tryz.call129 rfl (by simp) fun w0 S0 M0 => ?_
  repeat' (first | refine st1 ?_ | ((first | refine abs_region fun K hK => ?_ | refine abs_draw Tryz.ty.mixed (by kernel_rfl) fun K hK => ?_ | refine abs_if ?_ | show retQ _ _ _ _ _ | refine callK (gofar_ok _ _ c1.1 c2.1) ?_); (refine sim ?_; try exact trivial)) | ((first | (refine hK _ ?_; clear hK K) | show thenQ _ _ _ _ | show blockQ _ _ _ _ | show noGoQ _ _ _); refine qst ?_) | (intro hg; try exact fin2) | apply And.intro | exact fin | fail)
  · refine boolD ?_
    rw [decide_eq_true_iff, decide_eq_true_iff, con_iff]; omega
  · rw [decide_eq_true (con_iff.2 (by omega))]
set_option maxRecDepth 100000 in
set_option maxHeartbeats 4000000 in
theorem gclash_ok (s : Stn) (hs : StOk s) : CallsTo Tryz.prog 85 [stM s] (clashD s) := by
  have hl := hs.n
  refine calls_abs Tryz.func85 Tryz.ntmps85 Tryz.results85 Tryz.call85 rfl (by simp) fun w0 S0 M0 => ?_
  repeat' (first | refine st1 ?_ | ((first | refine abs_region fun K hK => ?_ | refine abs_draw Tryz.ty.mixed (by kernel_rfl) fun K hK => ?_ | refine abs_if ?_ | show retQ _ _ _ _ _); (refine sim ?_; try exact trivial)) | ((first | (refine hK _ ?_; clear hK K) | show thenQ _ _ _ _ | show blockQ _ _ _ _ | show noGoQ _ _ _); refine qst ?_) | (intro hg; try exact fin2) | apply And.intro | exact fin | fail)
  refine abs_loopN (ι := Nat) (fun j => [(1, .box 0 0), (5, i64 0), (6, i64 0), (7, .bool false), (13, .list (s.ck.map ckD)), (14, i64 s.ck.length), (15, i64 j)]) (fun _ => [.mu (stMC s)]) (fun _ => [])
    (fun j => j ≤ s.ck.length ∧ ∀ a b, a < b → b < s.ck.length → a < j → ¬ Con s a b) (fun j => s.ck.length - j) (fun _ _ => ⟨rfl, rfl⟩) 0 ⟨Nat.zero_le _, fun a b _ _ h => absurd h (Nat.not_lt_zero a)⟩ (le_of rfl (by try (refine sim ?_; try exact trivial); try simp) ⟨_, rfl⟩ ⟨_, rfl⟩) (fun j ⟨hj, hi⟩ => ?_)
  (refine sim ?_; try exact trivial)
  repeat' (first | refine st1 ?_ | ((first | refine abs_region fun K hK => ?_ | refine abs_draw Tryz.ty.mixed (by kernel_rfl) fun K hK => ?_ | refine abs_if ?_ | show retQ _ _ _ _ _); (refine sim ?_; try exact trivial)) | ((first | (refine hK _ ?_; clear hK K) | show thenQ _ _ _ _ | show blockQ _ _ _ _ | show noGoQ _ _ _); refine qst ?_) | (intro hg; try exact fin2) | apply And.intro | exact fin | fail)
  · refine abs_loopN (ι := Nat) (fun k => [(1, .box 0 0), (5, i64 0), (6, i64 0), (7, .bool false), (8, i64 j), (9, .box 1 0), (10, i64 k), (13, .list (s.ck.map ckD)), (14, i64 s.ck.length), (15, i64 j)]) (fun _ => [.mu (stMC s), .mu [i64 (nth s.ck j).day, i64 (nth s.ck j).lo, i64 (nth s.ck j).hi]]) (fun _ => [])
      (fun k => j < k ∧ k ≤ s.ck.length ∧ ∀ b, j < b → b < k → ¬ Con s j b) (fun k => s.ck.length - k) (fun _ _ => ⟨rfl, rfl⟩) (j + 1) ⟨by omega, by omega, fun b h1 h2 => by omega⟩ (le_of rfl (by try (refine sim ?_; try exact trivial); try simp) ⟨_, rfl⟩ ⟨_, rfl⟩) (fun k ⟨hk0, hk, hb⟩ => ?_)
    (refine sim ?_; try exact trivial)
    repeat' (first | refine st1 ?_ | ((first | refine abs_region fun K hK => ?_ | refine abs_draw Tryz.ty.mixed (by kernel_rfl) fun K hK => ?_ | refine abs_if ?_ | show retQ _ _ _ _ _ | refine callK (apart_ok s hs j k (by omega) (by omega)) ?_); (refine sim ?_; try exact trivial)) | ((first | (refine hK _ ?_; clear hK K) | show thenQ _ _ _ _ | show blockQ _ _ _ _ | show noGoQ _ _ _); refine qst ?_) | (intro hg; try exact fin2) | apply And.intro | exact fin | fail)
    · refine (clashD_some ⟨hk0, by omega, hg, fun a b h1 h2 h3 => ?_⟩).symm
      rcases h3 with h3 | ⟨rfl, h3⟩
      · exact hi a b h1 h2 h3
      · exact hb b h1 h3
    · refine ⟨k + 1, ⟨by omega, by omega, fun b h1 h2 => ?_⟩, by omega, le_of rfl (by try (refine sim ?_; try exact trivial); try simp) ⟨_, rfl⟩ ⟨_, rfl⟩⟩
      by_cases h9 : b = k
      · rw [h9]; exact hg
      · exact hb b h1 (by omega)
    · refine ⟨j + 1, ⟨by omega, fun a b h1 h2 h3 => ?_⟩, by omega, le_of rfl (by try (refine sim ?_; try exact trivial); try simp) ⟨_, rfl⟩ ⟨_, rfl⟩⟩
      rcases Nat.lt_or_eq_of_le (Nat.le_of_lt_succ h3) with h4 | h4
      · exact hi a b h1 h2 h4
      · subst h4; exact hb b h1 (by omega)
  · exact (clashD_none fun a b h1 h2 => hi a b h1 h2 (by omega)).symm
set_option maxRecDepth 100000 in
set_option maxHeartbeats 4000000 in
theorem agreed_arg (s : Stn) (hl : s.ck.length ≤ 9223372036854775807) (f : Bool) (h : ¬ (StOk s ∧ f = true)) : CallsTo Tryz.prog 43 [stD s, .bool f] (.tup [noM, i64 2]) := by
  by_cases hs : StOk s
  · obtain rfl : f = false := by cases f <;> simp_all
    have hv : CallsTo Tryz.prog 83 [stD s] (.bool true) := decide_eq_true hs ▸ gvalid_ok s hl
    refine calls_abs Tryz.func43 Tryz.ntmps43 Tryz.results43 Tryz.call43 rfl (by simp) fun w0 S0 M0 => ?_
    repeat' (first | refine st1 ?_ | ((first | refine abs_region fun K hK => ?_ | refine abs_draw Tryz.ty.mixed (by kernel_rfl) fun K hK => ?_ | refine abs_if ?_ | show retQ _ _ _ _ _ | refine callK (hv) ?_); (refine sim ?_; try exact trivial)) | ((first | (refine hK _ ?_; clear hK K) | show thenQ _ _ _ _ | show blockQ _ _ _ _ | show noGoQ _ _ _); refine qst ?_) | (exact (rfl : (Value.slice none 0 0).oneCell' = true)) | (exact (rfl : (Value.map none).oneCell' = true)) | (intro hg; try exact fin2) | apply And.intro | exact fin | fail)
  · have hv : CallsTo Tryz.prog 83 [stD s] (.bool false) := decide_eq_false hs ▸ gvalid_ok s hl
    refine calls_abs Tryz.func43 Tryz.ntmps43 Tryz.results43 Tryz.call43 rfl (by simp) fun w0 S0 M0 => ?_
    repeat' (first | refine st1 ?_ | ((first | refine abs_region fun K hK => ?_ | refine abs_draw Tryz.ty.mixed (by kernel_rfl) fun K hK => ?_ | refine abs_if ?_ | show retQ _ _ _ _ _ | refine callK (hv) ?_); (refine sim ?_; try exact trivial)) | ((first | (refine hK _ ?_; clear hK K) | show thenQ _ _ _ _ | show blockQ _ _ _ _ | show noGoQ _ _ _); refine qst ?_) | (exact (rfl : (Value.slice none 0 0).oneCell' = true)) | (exact (rfl : (Value.map none).oneCell' = true)) | (intro hg; try exact fin2) | apply And.intro | exact fin | fail)
set_option maxRecDepth 100000 in
set_option maxHeartbeats 4000000 in
theorem agreed_rule (s : Stn) (hs : StOk s) (hc : ¬ NoClash s) : CallsTo Tryz.prog 43 [stD s, .bool true] (.tup [noM, i64 7]) := by
  have hl := hs.n
  have hv : CallsTo Tryz.prog 83 [stD s] (.bool true) := decide_eq_true hs ▸ gvalid_ok s (by omega)
  obtain ⟨i, k, h⟩ := (clash_or s).resolve_left hc
  have hk : CallsTo Tryz.prog 85 [stM s] (.tup [i64 i, i64 k, .bool true]) := clashD_some h ▸ gclash_ok s hs
  refine calls_abs Tryz.func43 Tryz.ntmps43 Tryz.results43 Tryz.call43 rfl (by simp) fun w0 S0 M0 => ?_
  repeat' (first | refine st1 ?_ | ((first | refine abs_region fun K hK => ?_ | refine abs_draw Tryz.ty.mixed (by kernel_rfl) fun K hK => ?_ | refine abs_if ?_ | show retQ _ _ _ _ _ | refine callK (hv) ?_ | refine callK (look_ok s) ?_ | refine callK (hk) ?_); (refine sim ?_; try exact trivial)) | ((first | (refine hK _ ?_; clear hK K) | show thenQ _ _ _ _ | show blockQ _ _ _ _ | show noGoQ _ _ _); refine qst ?_) | (exact (rfl : (Value.slice none 0 0).oneCell' = true)) | (exact (rfl : (Value.map none).oneCell' = true)) | (intro hg; try exact fin2) | apply And.intro | exact fin | fail)
set_option maxRecDepth 100000 in
set_option maxHeartbeats 4000000 in
theorem agreed_ok (s : Stn) (hs : StOk s) (hc : NoClash s) : CallsTo Tryz.prog 43 [stD s, .bool true] (.tup [stM s, i64 0]) := by
  have hl := hs.n
  have hv : CallsTo Tryz.prog 83 [stD s] (.bool true) := decide_eq_true hs ▸ gvalid_ok s (by omega)
  have hk : CallsTo Tryz.prog 85 [stM s] (.tup [i64 0, i64 0, .bool false]) := clashD_none hc ▸ gclash_ok s hs
  refine calls_abs Tryz.func43 Tryz.ntmps43 Tryz.results43 Tryz.call43 rfl (by simp) fun w0 S0 M0 => ?_
  repeat' (first | refine st1 ?_ | ((first | refine abs_region fun K hK => ?_ | refine abs_draw Tryz.ty.mixed (by kernel_rfl) fun K hK => ?_ | refine abs_if ?_ | show retQ _ _ _ _ _ | refine callK (hv) ?_ | refine callK (look_ok s) ?_ | refine callK (hk) ?_); (refine sim ?_; try exact trivial)) | ((first | (refine hK _ ?_; clear hK K) | show thenQ _ _ _ _ | show blockQ _ _ _ _ | show noGoQ _ _ _); refine qst ?_) | (exact (rfl : (Value.slice none 0 0).oneCell' = true)) | (exact (rfl : (Value.map none).oneCell' = true)) | (intro hg; try exact fin2) | apply And.intro | exact fin | fail)
end Go.Proofs.YtmnepfejoneghaaGreatDoor
namespace Go.Proofs.YtmnepfejoneghaaGreatDoor
open Go.Ab
attribute [local irreducible] Abs CallK CallR CallsTo IA
/-- The bounds that each comparison leaves. -/
def bndK (s : Stn) (day : Int) (k : Nat) : D := spD ((nth s.ck k).lo - s.dr * far day (nth s.ck k).day) ((nth s.ck k).hi + s.dr * far day (nth s.ck k).day)
set_option maxRecDepth 100000 in
set_option maxHeartbeats 4000000 in
theorem bounds_iter (s : Stn) (hs : StOk s) (day : Int) (hd : 0 ≤ day ∧ day ≤ 400) : Iter Tryz.prog 135 [.ro (stMC s), .ro [i64 day]] ((List.range s.ck.length).map fun k => [bndK s day k]) := by
  have hl := hs.n
  have hdr := hs.d
  refine iter_of_ia Tryz.func135 Tryz.ntmps135 Tryz.results135 Tryz.call135 rfl (by simp) fun l J Jx => ?_
  repeat' (first
      | refine ia_seq ?_
      | refine ia_block ?_
      | refine ia_scope ?_
      | refine ia_label ?_
      | refine ia_skip ?_
      | refine ia_exit ?_
      | refine ia_ret ?_
      | (refine ia_if ?_; (refine sim ?_; try exact trivial))
      | (refine ia_abs fun w0 S0 M0 oq => abs_region fun K hK => ?_; (refine sim ?_; try exact trivial))
      | (refine ia_abs fun w0 S0 M0 oq => abs_draw Tryz.ty.mixed (by kernel_rfl) fun K hK => ?_; (refine sim ?_; try exact trivial))
      | (refine hK _ ?_; clear hK K; simp only [thenI, blockI, if_true, Nat.reduceEqDiff, reduceIte])
      | (show thenI _ _ _ _ _; simp only [thenI, blockI, if_true, Nat.reduceEqDiff, reduceIte])
      | (show noGoI _ _ _ _; simp only [noGoI, thenI, blockI, if_true, Nat.reduceEqDiff, reduceIte])
      | (show blockI _ _ _ _ _; simp only [thenI, blockI, if_true, Nat.reduceEqDiff, reduceIte])
      | (intro hg; first | (exfalso; omega) | (exfalso; contradiction) | skip)
      | apply And.intro
      | (with_reducible rfl)
      | (clear hK; omega)
      | omega)
  refine ia_loop (ι := Nat) (fun j => [(0, .val (.func (.yield l) #[] #[])), (1, .ro (stMC s)), (2, .ro [i64 day]), (9, .list (s.ck.map ckD)), (10, i64 s.ck.length), (11, i64 j)]) (fun j => (true, j)) (fun j => j ≤ s.ck.length) (fun j => s.ck.length - j) (fun _ _ => rfl) 0 (Nat.zero_le _) rfl (le_of rfl (by try (refine sim ?_; try exact trivial); try simp) ⟨_, rfl⟩ ⟨_, rfl⟩) (fun j hj => ?_)
  have b1 := fun h => hs.far hd (k := j) h
  have b2 := fun h => hs.c j h
  have b5 : j < s.ck.length → -2000 ≤ (nth s.ck j).lo ∧ (nth s.ck j).lo ≤ (nth s.ck j).hi ∧ (nth s.ck j).hi ≤ 2000 := fun h => (hs.c j h).2
  (refine sim ?_; try exact trivial)
  repeat' (first
      | refine ia_seq ?_
      | refine ia_block ?_
      | refine ia_scope ?_
      | refine ia_label ?_
      | refine ia_skip ?_
      | refine ia_exit ?_
      | refine ia_ret ?_
      | (refine ia_if ?_; (refine sim ?_; try exact trivial))
      | ((refine callK (gofar_ok day _ hd (b2 (by omega)).1) ?_; try (refine sim ?_; try exact trivial)))
      | ((refine ia_yieldAt 12 rfl fun K1 hK1 => ?_; (refine sim ?_; try exact trivial)))
      | (refine hK1 _ _ rfl rfl ?_ ?_ (fun b => ?_); rotate_left; ((refine sim ?_; try exact trivial)); ((refine sim ?_; try exact trivial)))
      | (refine ia_abs fun w0 S0 M0 oq => abs_region fun K hK => ?_; (refine sim ?_; try exact trivial))
      | (refine ia_abs fun w0 S0 M0 oq => abs_draw Tryz.ty.mixed (by kernel_rfl) fun K hK => ?_; (refine sim ?_; try exact trivial))
      | (refine hK _ ?_; clear hK K; simp only [thenI, blockI, if_true, Nat.reduceEqDiff, reduceIte])
      | (show thenI _ _ _ _ _; simp only [thenI, blockI, if_true, Nat.reduceEqDiff, reduceIte])
      | (show noGoI _ _ _ _; simp only [noGoI, thenI, blockI, if_true, Nat.reduceEqDiff, reduceIte])
      | (show blockI _ _ _ _ _; simp only [thenI, blockI, if_true, Nat.reduceEqDiff, reduceIte])
      | (intro hg; first | (exfalso; omega) | (exfalso; contradiction) | skip)
      | apply And.intro
      | (with_reducible rfl)
      | (clear hK; omega)
      | omega)
  · simp_all
  · have hb : b = true := by simp_all
    subst hb
    exact ⟨j + 1, by omega, by omega, rfl, le_of rfl (by try (refine sim ?_; try exact trivial); try simp) ⟨_, rfl⟩ ⟨_, rfl⟩⟩
  · have hj' : j < s.ck.length := by omega
    show ((List.range s.ck.length).map fun k => [bndK s day k])[j]? = _
    simp [hj', bndK]
  · show j = (List.range s.ck.length).length
    simp
    omega
set_option maxRecDepth 100000 in
set_option maxHeartbeats 4000000 in
theorem bounds_ok (s : Stn) (day : Int) : CallsTo Tryz.prog 91 [stM s, i64 day] (.clo 135 [.ro (stMC s), .ro [i64 day]]) := by
  refine calls_abs Tryz.func91 Tryz.ntmps91 Tryz.results91 Tryz.call91 rfl (by simp) fun w0 S0 M0 => ?_
  repeat' (first | (refine abs_freeze 0 _ _ rfl rfl ?_; simp only [basL, Nat.reduceAdd]) | (refine abs_freeze 1 _ _ rfl rfl ?_; simp only [basL, Nat.reduceAdd]) | refine st1 ?_ | ((first | refine abs_region fun K hK => ?_ | refine abs_draw Tryz.ty.mixed (by kernel_rfl) fun K hK => ?_ | refine abs_if ?_ | show retQ _ _ _ _ _); (refine sim ?_; try exact trivial)) | ((first | (refine hK _ ?_; clear hK K) | show thenQ _ _ _ _ | show blockQ _ _ _ _ | show noGoQ _ _ _); refine qst ?_) | (intro hg; try exact fin2) | apply And.intro | exact fin | fail)
set_option maxRecDepth 100000 in
set_option maxHeartbeats 4000000 in
theorem index_ok (s : Stn) (hs : StOk s) (day : Int) (hd : 0 ≤ day ∧ day ≤ 400) : CallsTo Tryz.prog 55 [stM s, i64 day] (spD (ixL s day) (ixH s day)) := by
  refine calls_abs Tryz.func55 Tryz.ntmps55 Tryz.results55 Tryz.call55 rfl (by simp) fun w0 S0 M0 => ?_
  have hl := hs.n
  have hdr := hs.d
  repeat' (first | refine st1 ?_ | ((first | refine abs_region fun K hK => ?_ | refine abs_draw Tryz.ty.mixed (by kernel_rfl) fun K hK => ?_ | refine abs_if ?_ | show retQ _ _ _ _ _ | refine callK (bounds_ok s day) ?_); (refine sim ?_; try exact trivial)) | ((first | (refine hK _ ?_; clear hK K) | show thenQ _ _ _ _ | show blockQ _ _ _ _ | show noGoQ _ _ _); refine qst ?_) | (intro hg; try exact fin2) | apply And.intro | exact fin | fail)
  · rfl
  refine abs_rangeFunc (gf := 135) (cs := [.ro (stMC s), .ro [i64 day]]) (cs' := [.ro (stMC s), .ro [i64 day]]) (xs := (List.range s.ck.length).map fun k => [bndK s day k]) (by try (refine sim ?_; try exact trivial)) (by try (refine sim ?_; try exact trivial)) (bounds_iter s hs day hd) (fun x hx => by obtain ⟨y, _, rfl⟩ := List.mem_map.1 hx; rfl) (by simp)
    (slots [(1, i64 day), (2, D.box 0 0), (4, .box 1 0), (7, .box 3 0)]) (fun k => [.mu (stMC s), .mu [i64 0, i64 0], .mu [i64 0, i64 0], .mu [i64 (lowK s day k), i64 (highK s day k)]]) (fun _ => []) 4
    (le_slots rfl (by try (refine sim ?_; try exact trivial); try simp [lowK, highK]) ⟨_, rfl⟩ ⟨_, rfl⟩) (slots_names rfl) (fun _ _ => rfl) ?_ (by simp) ?_ ?_
  · intro k hk
    exact ⟨fun _ => .undef, namesBx_of _ rfl⟩
  · intro k x hk w1 S1 M1 l o1 b1 hb1
    rw [List.getElem?_map, Option.map_eq_some_iff] at hk
    obtain ⟨y, hy, rfl⟩ := hk
    obtain ⟨hkl, rfl⟩ := List.getElem?_eq_some_iff.1 hy
    simp only [List.length_range] at hkl
    rw [List.getElem_range]
    have e1 : lowK s day (k + 1) = max (lowK s day k) ((nth s.ck k).lo - s.dr * far day (nth s.ck k).day) := rfl
    have e2 : highK s day (k + 1) = min (highK s day k) ((nth s.ck k).hi + s.dr * far day (nth s.ck k).day) := rfl
    rw [e1, e2]
    show Abs _ _ _ ⟨41, put (slots [(1, i64 day), (2, D.box 0 0), (4, .box 1 0), (7, .box 3 0)]) 22 (spD ((nth s.ck k).lo - s.dr * far day (nth s.ck k).day) ((nth s.ck k).hi + s.dr * far day (nth s.ck k).day)), _, _⟩
    (refine sim ?_; try exact trivial)
    repeat' (first | refine st1 ?_ | ((first | refine abs_region fun K hK => ?_ | refine abs_draw Tryz.ty.mixed (by kernel_rfl) fun K hK => ?_ | refine abs_if ?_ | show retQ _ _ _ _ _ | refine callK (greatest_ok _ _) ?_ | refine callK (least_ok _ _) ?_); (refine sim ?_; try exact trivial)) | ((first | (refine hK _ ?_; clear hK K) | show thenQ _ _ _ _ | show blockQ _ _ _ _ | show noGoQ _ _ _); refine qst ?_) | (intro hg; try exact fin2) | apply And.intro | exact fin | fail)
    simp only [roundQ]
    exact ⟨rfl, fun _ => .inl rfl, ⟨_, rfl⟩, ⟨_, rfl⟩⟩
  · rw [show ((List.range s.ck.length).map fun k => [bndK s day k]).length = s.ck.length by simp]
    show Abs _ _ _ _
    (refine sim ?_; try exact trivial)
    repeat' (first | refine st1 ?_ | ((first | refine abs_region fun K hK => ?_ | refine abs_draw Tryz.ty.mixed (by kernel_rfl) fun K hK => ?_ | refine abs_if ?_ | show retQ _ _ _ _ _); (refine sim ?_; try exact trivial)) | ((first | (refine hK _ ?_; clear hK K) | show thenQ _ _ _ _ | show blockQ _ _ _ _ | show noGoQ _ _ _); refine qst ?_) | (intro hg; try exact fin2) | apply And.intro | exact fin | fail)
    all_goals try rfl
end Go.Proofs.YtmnepfejoneghaaGreatDoor
