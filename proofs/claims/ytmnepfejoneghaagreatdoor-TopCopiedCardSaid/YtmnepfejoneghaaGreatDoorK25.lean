import Derived.Test.YtmnepfejoneghaaGreatDoorK12
import Derived.Test.YtmnepfejoneghaaGreatDoorK15
set_option linter.unusedVariables false
set_option linter.unusedSimpArgs false
namespace Go.Proofs.YtmnepfejoneghaaGreatDoor
open Go.Ab
attribute [local irreducible] Abs CallK CallR CallsTo CallsB IA
/-- A station of a map. -/
structure CStn where
  p : Int
  lo : Int
  hi : Int
  deriving Inhabited, DecidableEq
abbrev csD (s : CStn) : D := .agg [i64 s.p, i64 s.lo, i64 s.hi]
abbrev mapD (W R : Nat) (sl : Int) (S : List CStn) : List D := [i64 W, i64 R, i64 sl, .list (S.map csD)]
abbrev chC (W R : Nat) (sl : Int) (S : List CStn) : List D := [i64 W, i64 R, i64 sl, .list (S.map csD), i64 W, i64 R]
structure MapOk (W R : Nat) (sl : Int) (S : List CStn) : Prop where
  w : 1 ≤ W ∧ W ≤ 6
  r : 1 ≤ R ∧ R ≤ 5
  s : 0 ≤ sl ∧ sl ≤ 5000
  n : S.length ≤ 12
  a : ∀ i, i < S.length → (0 ≤ (nth S i).p ∧ (nth S i).p ≤ (W : Int) * R - 1) ∧ 0 ≤ (nth S i).lo ∧ (nth S i).lo ≤ (nth S i).hi ∧ (nth S i).hi ≤ 99999
def dsC (W a b : Int) : Int := max (a / W - b / W) (b / W - a / W) + max (a % W - b % W) (b % W - a % W)
theorem dv_bd {W a : Int} (hw : 1 ≤ W ∧ W ≤ 6) (ha : 0 ≤ a ∧ a ≤ 29) : (0 ≤ a / W ∧ a / W ≤ 29) ∧ 0 ≤ a % W ∧ a % W ≤ 5 := by
  have h1 := Int.ediv_nonneg (a := a) (b := W) ha.1 (by omega)
  have h2 := Int.ediv_le_self (a := a) W ha.1
  have h3 := Int.emod_nonneg a (b := W) (by omega)
  have h4 := Int.emod_lt_of_pos a (b := W) (by omega)
  omega
theorem dsC_bd {W a b : Int} (hw : 1 ≤ W ∧ W ≤ 6) (ha : 0 ≤ a ∧ a ≤ 29) (hb : 0 ≤ b ∧ b ≤ 29) : 0 ≤ dsC W a b ∧ dsC W a b ≤ 34 := by
  have h1 := dv_bd hw ha
  have h2 := dv_bd hw hb
  unfold dsC; omega
theorem mulE {a b A B : Int} (h0 : 0 ≤ a) (h1 : a ≤ A) (h2 : 0 ≤ b) (h3 : b ≤ B) : 0 ≤ a * b ∧ a * b ≤ A * B :=
  ⟨Int.mul_nonneg h0 h2, Int.mul_le_mul h1 h3 h2 (Int.le_trans h0 h1)⟩
set_option maxRecDepth 100000 in
set_option maxHeartbeats 4000000 in
theorem cin_ok (x lo hi : Int) : CallsTo Tryz.prog 137 [i64 x, i64 lo, i64 hi] (.bool (decide (lo ≤ x ∧ x ≤ hi))) := by
  refine calls_abs Tryz.func137 Tryz.ntmps137 Tryz.results137 Tryz.call137 rfl (by simp) fun w0 S0 M0 => ?_
  repeat' (first | refine st1 ?_ | ((first | refine abs_region fun K hK => ?_ | refine abs_draw Tryz.ty.mixed (by kernel_rfl) fun K hK => ?_ | refine abs_if ?_ | show retQ _ _ _ _ _); (refine sim ?_; try exact trivial)) | ((first | (refine hK _ ?_; clear hK K) | show thenQ _ _ _ _ | show blockQ _ _ _ _ | show noGoQ _ _ _); refine qst ?_) | (intro hg; try exact fin2) | apply And.intro | exact fin | fail)
  all_goals (refine boolD ?_; simp only [decide_eq_true_eq, Bool.false_eq_true, false_iff, iff_false, true_iff, iff_true]; omega)
set_option maxRecDepth 100000 in
set_option maxHeartbeats 4000000 in
theorem great_ok (a b : Int) : CallsTo Tryz.prog 141 [ints [a, b]] (i64 (max a b)) := by
  have n0 : nth [a, b] 0 = a := rfl
  have n1 : nth [a, b] 1 = b := rfl
  have e1 : max a a = a := by omega
  refine calls_abs Tryz.func141 Tryz.ntmps141 Tryz.results141 Tryz.call141 rfl (by simp) fun w0 S0 M0 => ?_
  repeat' (first | refine st1 ?_ | ((first | refine abs_region fun K hK => ?_ | refine abs_draw Tryz.ty.mixed (by kernel_rfl) fun K hK => ?_ | refine abs_if ?_ | show retQ _ _ _ _ _); (refine withX (And.intro @n0 (And.intro @n1 (And.intro @e1 (And.intro @Int.natCast_zero (@Int.natCast_one))))) fun hX => ?_; refine simh ?_; clear hX; try exact trivial)) | ((first | (refine hK _ ?_; clear hK K) | show thenQ _ _ _ _ | show blockQ _ _ _ _ | show noGoQ _ _ _); refine qst ?_) | (intro hg; try exact fin2) | apply And.intro | exact fin | fail)
  refine abs_loopN (ι := Nat) (fun k => [(3, i64 (match k with | 0 => a | 1 => a | _ => max a b)), (9, ints [a, b]), (10, i64 2), (11, i64 k)]) (fun _ => []) (fun _ => []) (fun k => k ≤ 2) (fun k => 2 - k) (fun _ _ => ⟨rfl, rfl⟩) 0 (by omega) (le_of rfl (by try (refine withX (And.intro @n0 (And.intro @n1 (And.intro @e1 (And.intro @Int.natCast_zero (@Int.natCast_one))))) fun hX => ?_; refine simh ?_; clear hX; try exact trivial); try simp) ⟨_, rfl⟩ ⟨_, rfl⟩) (fun k hk => ?_)
  match k, hk with
  | 0, _ =>
    (refine withX (And.intro @n0 (And.intro @n1 (And.intro @e1 (And.intro @Int.natCast_zero (@Int.natCast_one))))) fun hX => ?_; refine simh ?_; clear hX; try exact trivial)
    repeat' (first | refine st1 ?_ | ((first | refine abs_region fun K hK => ?_ | refine abs_draw Tryz.ty.mixed (by kernel_rfl) fun K hK => ?_ | refine abs_if ?_ | show retQ _ _ _ _ _); (refine withX (And.intro @n0 (And.intro @n1 (And.intro @e1 (And.intro @Int.natCast_zero (@Int.natCast_one))))) fun hX => ?_; refine simh ?_; clear hX; try exact trivial)) | ((first | (refine hK _ ?_; clear hK K) | show thenQ _ _ _ _ | show blockQ _ _ _ _ | show noGoQ _ _ _); refine qst ?_) | (intro hg; try exact fin2) | apply And.intro | exact fin | fail)
    exact ⟨1, by omega, by omega, le_of rfl (by try (refine withX (And.intro @n0 (And.intro @n1 (And.intro @e1 (And.intro @Int.natCast_zero (@Int.natCast_one))))) fun hX => ?_; refine simh ?_; clear hX; try exact trivial); try simp) ⟨_, rfl⟩ ⟨_, rfl⟩⟩
  | 1, _ =>
    (refine withX (And.intro @n0 (And.intro @n1 (And.intro @e1 (And.intro @Int.natCast_zero (@Int.natCast_one))))) fun hX => ?_; refine simh ?_; clear hX; try exact trivial)
    repeat' (first | refine st1 ?_ | ((first | refine abs_region fun K hK => ?_ | refine abs_draw Tryz.ty.mixed (by kernel_rfl) fun K hK => ?_ | refine abs_if ?_ | show retQ _ _ _ _ _); (refine withX (And.intro @n0 (And.intro @n1 (And.intro @e1 (And.intro @Int.natCast_zero (@Int.natCast_one))))) fun hX => ?_; refine simh ?_; clear hX; try exact trivial)) | ((first | (refine hK _ ?_; clear hK K) | show thenQ _ _ _ _ | show blockQ _ _ _ _ | show noGoQ _ _ _); refine qst ?_) | (intro hg; try exact fin2) | apply And.intro | exact fin | fail)
    exact ⟨2, by omega, by omega, le_of rfl (by try (refine withX (And.intro @n0 (And.intro @n1 (And.intro @e1 (And.intro @Int.natCast_zero (@Int.natCast_one))))) fun hX => ?_; refine simh ?_; clear hX; try exact trivial); try simp) ⟨_, rfl⟩ ⟨_, rfl⟩⟩
  | 2, _ =>
    (refine withX (And.intro @n0 (And.intro @n1 (And.intro @e1 (And.intro @Int.natCast_zero (@Int.natCast_one))))) fun hX => ?_; refine simh ?_; clear hX; try exact trivial)
    repeat' (first | refine st1 ?_ | ((first | refine abs_region fun K hK => ?_ | refine abs_draw Tryz.ty.mixed (by kernel_rfl) fun K hK => ?_ | refine abs_if ?_ | show retQ _ _ _ _ _); (refine withX (And.intro @n0 (And.intro @n1 (And.intro @e1 (And.intro @Int.natCast_zero (@Int.natCast_one))))) fun hX => ?_; refine simh ?_; clear hX; try exact trivial)) | ((first | (refine hK _ ?_; clear hK K) | show thenQ _ _ _ _ | show blockQ _ _ _ _ | show noGoQ _ _ _); refine qst ?_) | (intro hg; try exact fin2) | apply And.intro | exact fin | fail)
    all_goals skip
set_option maxRecDepth 100000 in
set_option maxHeartbeats 4000000 in
theorem cleast_ok (a b : Int) : CallsTo Tryz.prog 143 [ints [a, b]] (i64 (min a b)) := by
  have n0 : nth [a, b] 0 = a := rfl
  have n1 : nth [a, b] 1 = b := rfl
  have e1 : min a a = a := by omega
  refine calls_abs Tryz.func143 Tryz.ntmps143 Tryz.results143 Tryz.call143 rfl (by simp) fun w0 S0 M0 => ?_
  repeat' (first | refine st1 ?_ | ((first | refine abs_region fun K hK => ?_ | refine abs_draw Tryz.ty.mixed (by kernel_rfl) fun K hK => ?_ | refine abs_if ?_ | show retQ _ _ _ _ _); (refine withX (And.intro @n0 (And.intro @n1 (And.intro @e1 (And.intro @Int.natCast_zero (@Int.natCast_one))))) fun hX => ?_; refine simh ?_; clear hX; try exact trivial)) | ((first | (refine hK _ ?_; clear hK K) | show thenQ _ _ _ _ | show blockQ _ _ _ _ | show noGoQ _ _ _); refine qst ?_) | (intro hg; try exact fin2) | apply And.intro | exact fin | fail)
  refine abs_loopN (ι := Nat) (fun k => [(3, i64 (match k with | 0 => a | 1 => a | _ => min a b)), (9, ints [a, b]), (10, i64 2), (11, i64 k)]) (fun _ => []) (fun _ => []) (fun k => k ≤ 2) (fun k => 2 - k) (fun _ _ => ⟨rfl, rfl⟩) 0 (by omega) (le_of rfl (by try (refine withX (And.intro @n0 (And.intro @n1 (And.intro @e1 (And.intro @Int.natCast_zero (@Int.natCast_one))))) fun hX => ?_; refine simh ?_; clear hX; try exact trivial); try simp) ⟨_, rfl⟩ ⟨_, rfl⟩) (fun k hk => ?_)
  match k, hk with
  | 0, _ =>
    (refine withX (And.intro @n0 (And.intro @n1 (And.intro @e1 (And.intro @Int.natCast_zero (@Int.natCast_one))))) fun hX => ?_; refine simh ?_; clear hX; try exact trivial)
    repeat' (first | refine st1 ?_ | ((first | refine abs_region fun K hK => ?_ | refine abs_draw Tryz.ty.mixed (by kernel_rfl) fun K hK => ?_ | refine abs_if ?_ | show retQ _ _ _ _ _); (refine withX (And.intro @n0 (And.intro @n1 (And.intro @e1 (And.intro @Int.natCast_zero (@Int.natCast_one))))) fun hX => ?_; refine simh ?_; clear hX; try exact trivial)) | ((first | (refine hK _ ?_; clear hK K) | show thenQ _ _ _ _ | show blockQ _ _ _ _ | show noGoQ _ _ _); refine qst ?_) | (intro hg; try exact fin2) | apply And.intro | exact fin | fail)
    exact ⟨1, by omega, by omega, le_of rfl (by try (refine withX (And.intro @n0 (And.intro @n1 (And.intro @e1 (And.intro @Int.natCast_zero (@Int.natCast_one))))) fun hX => ?_; refine simh ?_; clear hX; try exact trivial); try simp) ⟨_, rfl⟩ ⟨_, rfl⟩⟩
  | 1, _ =>
    (refine withX (And.intro @n0 (And.intro @n1 (And.intro @e1 (And.intro @Int.natCast_zero (@Int.natCast_one))))) fun hX => ?_; refine simh ?_; clear hX; try exact trivial)
    repeat' (first | refine st1 ?_ | ((first | refine abs_region fun K hK => ?_ | refine abs_draw Tryz.ty.mixed (by kernel_rfl) fun K hK => ?_ | refine abs_if ?_ | show retQ _ _ _ _ _); (refine withX (And.intro @n0 (And.intro @n1 (And.intro @e1 (And.intro @Int.natCast_zero (@Int.natCast_one))))) fun hX => ?_; refine simh ?_; clear hX; try exact trivial)) | ((first | (refine hK _ ?_; clear hK K) | show thenQ _ _ _ _ | show blockQ _ _ _ _ | show noGoQ _ _ _); refine qst ?_) | (intro hg; try exact fin2) | apply And.intro | exact fin | fail)
    exact ⟨2, by omega, by omega, le_of rfl (by try (refine withX (And.intro @n0 (And.intro @n1 (And.intro @e1 (And.intro @Int.natCast_zero (@Int.natCast_one))))) fun hX => ?_; refine simh ?_; clear hX; try exact trivial); try simp) ⟨_, rfl⟩ ⟨_, rfl⟩⟩
  | 2, _ =>
    (refine withX (And.intro @n0 (And.intro @n1 (And.intro @e1 (And.intro @Int.natCast_zero (@Int.natCast_one))))) fun hX => ?_; refine simh ?_; clear hX; try exact trivial)
    repeat' (first | refine st1 ?_ | ((first | refine abs_region fun K hK => ?_ | refine abs_draw Tryz.ty.mixed (by kernel_rfl) fun K hK => ?_ | refine abs_if ?_ | show retQ _ _ _ _ _); (refine withX (And.intro @n0 (And.intro @n1 (And.intro @e1 (And.intro @Int.natCast_zero (@Int.natCast_one))))) fun hX => ?_; refine simh ?_; clear hX; try exact trivial)) | ((first | (refine hK _ ?_; clear hK K) | show thenQ _ _ _ _ | show blockQ _ _ _ _ | show noGoQ _ _ _); refine qst ?_) | (intro hg; try exact fin2) | apply And.intro | exact fin | fail)
    all_goals skip
set_option maxRecDepth 100000 in
set_option maxHeartbeats 4000000 in
theorem crow_ok (W R a : Int) (hw : 1 ≤ W ∧ W ≤ 6) (ha : 0 ≤ a ∧ a ≤ 29) : CallsTo Tryz.prog 166 [.agg [i64 W, i64 R], i64 a] (i64 (a / W)) := by
  have h1 := dv_bd hw ha
  have e1 : Int.tdiv a W = a / W := Int.tdiv_eq_ediv_of_nonneg ha.1
  refine calls_abs Tryz.func166 Tryz.ntmps166 Tryz.results166 Tryz.call166 rfl (by simp) fun w0 S0 M0 => ?_
  repeat' (first | refine st1 ?_ | ((first | refine abs_region fun K hK => ?_ | refine abs_draw Tryz.ty.mixed (by kernel_rfl) fun K hK => ?_ | refine abs_if ?_ | show retQ _ _ _ _ _); (refine withX (@e1) fun hX => ?_; refine simh ?_; clear hX; try exact trivial)) | ((first | (refine hK _ ?_; clear hK K) | show thenQ _ _ _ _ | show blockQ _ _ _ _ | show noGoQ _ _ _); refine qst ?_) | (intro hg; try exact fin2) | apply And.intro | exact fin | fail)
  all_goals first | omega | skip
set_option maxRecDepth 100000 in
set_option maxHeartbeats 4000000 in
theorem ccol_ok (W R a : Int) (hw : 1 ≤ W ∧ W ≤ 6) (ha : 0 ≤ a ∧ a ≤ 29) : CallsTo Tryz.prog 167 [.agg [i64 W, i64 R], i64 a] (i64 (a % W)) := by
  have h1 := dv_bd hw ha
  have e1 : Int.tmod a W = a % W := Int.tmod_eq_emod_of_nonneg ha.1
  refine calls_abs Tryz.func167 Tryz.ntmps167 Tryz.results167 Tryz.call167 rfl (by simp) fun w0 S0 M0 => ?_
  repeat' (first | refine st1 ?_ | ((first | refine abs_region fun K hK => ?_ | refine abs_draw Tryz.ty.mixed (by kernel_rfl) fun K hK => ?_ | refine abs_if ?_ | show retQ _ _ _ _ _); (refine withX (@e1) fun hX => ?_; refine simh ?_; clear hX; try exact trivial)) | ((first | (refine hK _ ?_; clear hK K) | show thenQ _ _ _ _ | show blockQ _ _ _ _ | show noGoQ _ _ _); refine qst ?_) | (intro hg; try exact fin2) | apply And.intro | exact fin | fail)
  all_goals first | omega | skip
set_option maxRecDepth 100000 in
set_option maxHeartbeats 4000000 in
theorem cfar_ok (a b : Int) (ha : 0 ≤ a ∧ a ≤ 1000) (hb : 0 ≤ b ∧ b ≤ 1000) : CallsTo Tryz.prog 165 [i64 a, i64 b] (i64 (max (a - b) (b - a))) := by
  have h1 := great_ok (a - b) (b - a)
  refine calls_abs Tryz.func165 Tryz.ntmps165 Tryz.results165 Tryz.call165 rfl (by simp) fun w0 S0 M0 => ?_
  repeat' (first | refine st1 ?_ | ((first | refine abs_region fun K hK => ?_ | refine abs_draw Tryz.ty.mixed (by kernel_rfl) fun K hK => ?_ | refine abs_if ?_ | show retQ _ _ _ _ _ | refine callK (h1) ?_); (refine sim ?_; try exact trivial)) | ((first | (refine hK _ ?_; clear hK K) | show thenQ _ _ _ _ | show blockQ _ _ _ _ | show noGoQ _ _ _); refine qst ?_) | (intro hg; try exact fin2) | apply And.intro | exact fin | fail)
  all_goals skip
set_option maxRecDepth 100000 in
set_option maxHeartbeats 4000000 in
theorem cdist_ok (W R a b : Int) (hw : 1 ≤ W ∧ W ≤ 6) (ha : 0 ≤ a ∧ a ≤ 29) (hb : 0 ≤ b ∧ b ≤ 29) : CallsTo Tryz.prog 142 [.agg [i64 W, i64 R], i64 a, i64 b] (i64 (dsC W a b)) := by
  have h1 := dv_bd hw ha
  have h2 := dv_bd hw hb
  have c1 := crow_ok W R a hw ha
  have c2 := crow_ok W R b hw hb
  have c3 := ccol_ok W R a hw ha
  have c4 := ccol_ok W R b hw hb
  have c5 := cfar_ok (a / W) (b / W) (by omega) (by omega)
  have c6 := cfar_ok (a % W) (b % W) (by omega) (by omega)
  have hd : dsC W a b = max (a / W - b / W) (b / W - a / W) + max (a % W - b % W) (b % W - a % W) := rfl
  rw [hd]
  generalize a / W = a1 at *
  generalize b / W = b1 at *
  generalize a % W = a2 at *
  generalize b % W = b2 at *
  refine calls_abs Tryz.func142 Tryz.ntmps142 Tryz.results142 Tryz.call142 rfl (by simp) fun w0 S0 M0 => ?_
  repeat' (first | refine st1 ?_ | ((first | refine abs_region fun K hK => ?_ | refine abs_draw Tryz.ty.mixed (by kernel_rfl) fun K hK => ?_ | refine abs_if ?_ | show retQ _ _ _ _ _ | refine callK (c1) ?_ | refine callK (c2) ?_ | refine callK (c3) ?_ | refine callK (c4) ?_ | refine callK (c5) ?_ | refine callK (c6) ?_); (refine sim ?_; try exact trivial)) | ((first | (refine hK _ ?_; clear hK K) | show thenQ _ _ _ _ | show blockQ _ _ _ _ | show noGoQ _ _ _); refine qst ?_) | (intro hg; try exact fin2) | apply And.intro | exact fin | fail)
  all_goals skip
end Go.Proofs.YtmnepfejoneghaaGreatDoor
namespace Go.Proofs.YtmnepfejoneghaaGreatDoor
open Go.Ab
attribute [local irreducible] Abs CallK CallR CallsTo CallsB IA
/-- Bounds of a point, by the first stations. -/
def loK (W sl : Int) (S : List CStn) (p : Int) : Nat → Int
  | 0 => 0
  | j + 1 => max (loK W sl S p j) ((nth S j).lo - sl * dsC W p (nth S j).p)
def hiK (W sl : Int) (S : List CStn) (p : Int) : Nat → Int
  | 0 => 99999
  | j + 1 => min (hiK W sl S p j) ((nth S j).hi + sl * dsC W p (nth S j).p)
theorem WR_bd {W R : Nat} (hw : 1 ≤ W ∧ W ≤ 6) (hr : 1 ≤ R ∧ R ≤ 5) : W * R ≤ 30 := Nat.mul_le_mul hw.2 hr.2
theorem pt_bd {W R : Nat} {sl : Int} {S : List CStn} (h : MapOk W R sl S) {i : Nat} (hi : i < S.length) : 0 ≤ (nth S i).p ∧ (nth S i).p ≤ 29 := by
  have h1 := (h.a i hi).1
  have h2 := WR_bd h.w h.r
  have h3 : (W : Int) * R = ((W * R : Nat) : Int) := by simp
  omega
theorem sl_bd {W R : Nat} {sl : Int} {S : List CStn} (h : MapOk W R sl S) {p : Int} (hp : 0 ≤ p ∧ p ≤ 29) {i : Nat} (hi : i < S.length) : 0 ≤ sl * dsC W p (nth S i).p ∧ sl * dsC W p (nth S i).p ≤ 5000 * 34 := by
  have h1 := dsC_bd (W := W) (a := p) (b := (nth S i).p) (by have := h.w; omega) hp (pt_bd h hi)
  exact mulE h.s.1 h.s.2 h1.1 h1.2
theorem loK_bd {W R : Nat} {sl : Int} {S : List CStn} (h : MapOk W R sl S) {p : Int} (hp : 0 ≤ p ∧ p ≤ 29) : ∀ j, j ≤ S.length → 0 ≤ loK W sl S p j ∧ loK W sl S p j ≤ 99999
  | 0, _ => by simp [loK]
  | j + 1, hj => by
    have h1 := loK_bd h hp j (by omega)
    have h2 := sl_bd h hp (i := j) (by omega)
    have h3 := (h.a j (by omega)).2
    simp only [loK]; omega
theorem hiK_bd {W R : Nat} {sl : Int} {S : List CStn} (h : MapOk W R sl S) {p : Int} (hp : 0 ≤ p ∧ p ≤ 29) : ∀ j, j ≤ S.length → 0 ≤ hiK W sl S p j ∧ hiK W sl S p j ≤ 99999
  | 0, _ => by simp [hiK]
  | j + 1, hj => by
    have h1 := hiK_bd h hp j (by omega)
    have h2 := sl_bd h hp (i := j) (by omega)
    have h3 := (h.a j (by omega)).2
    simp only [hiK]; omega
set_option maxRecDepth 100000 in
set_option maxHeartbeats 4000000 in
theorem clow_ok (W R : Nat) (sl : Int) (S : List CStn) (h : MapOk W R sl S) (p : Int) (hp : 0 ≤ p ∧ p ≤ 29) : CallsTo Tryz.prog 97 [.agg (chC W R sl S), i64 p] (i64 (loK W sl S p S.length)) := by
  have hn := h.n
  refine calls_abs Tryz.func97 Tryz.ntmps97 Tryz.results97 Tryz.call97 rfl (by simp) fun w0 S0 M0 => ?_
  repeat' (first | refine st1 ?_ | ((first | refine abs_region fun K hK => ?_ | refine abs_draw Tryz.ty.mixed (by kernel_rfl) fun K hK => ?_ | refine abs_if ?_ | show retQ _ _ _ _ _); (refine sim ?_; try exact trivial)) | ((first | (refine hK _ ?_; clear hK K) | show thenQ _ _ _ _ | show blockQ _ _ _ _ | show noGoQ _ _ _); refine qst ?_) | (intro hg; try exact fin2) | apply And.intro | exact fin | fail)
  refine abs_loopN (ι := Nat) (fun j => [(1, i64 p), (2, .box 0 0), (5, i64 (loK W sl S p j)), (10, .list (S.map csD)), (11, i64 S.length), (12, i64 j)]) (fun _ => [.mu (chC W R sl S)]) (fun _ => []) (fun j => j ≤ S.length) (fun j => S.length - j) (fun _ _ => ⟨rfl, rfl⟩) 0 (Nat.zero_le _) (le_of rfl (by try (refine sim ?_; try exact trivial); try simp [loK]) ⟨_, rfl⟩ ⟨_, rfl⟩) (fun j hj => ?_)
  have hb := loK_bd h hp j hj
  by_cases hlt : j < S.length
  · have h2 := sl_bd h hp hlt
    have h3 := (h.a j hlt).2
    have h4 := dsC_bd (W := W) (a := p) (b := (nth S j).p) (by have := h.w; omega) hp (pt_bd h hlt)
    have c1 := cdist_ok W R p (nth S j).p (by have := h.w; omega) hp (pt_bd h hlt)
    have c2 := great_ok (loK W sl S p j) ((nth S j).lo - sl * dsC W p (nth S j).p)
    have e1 : loK W sl S p (j + 1) = max (loK W sl S p j) ((nth S j).lo - sl * dsC W p (nth S j).p) := rfl
    (refine sim ?_; try exact trivial)
    repeat' (first | refine st1 ?_ | ((first | refine abs_region fun K hK => ?_ | refine abs_draw Tryz.ty.mixed (by kernel_rfl) fun K hK => ?_ | refine abs_if ?_ | show retQ _ _ _ _ _ | refine callK (c1) ?_ | refine callK (c2) ?_); (refine sim ?_; try exact trivial)) | ((first | (refine hK _ ?_; clear hK K) | show thenQ _ _ _ _ | show blockQ _ _ _ _ | show noGoQ _ _ _); refine qst ?_) | (intro hg; try exact fin2) | apply And.intro | exact fin | fail)
    all_goals first | exact ⟨j + 1, by omega, by omega, le_of rfl (by try (refine sim ?_; try exact trivial); try simp [e1]) ⟨_, rfl⟩ ⟨_, rfl⟩⟩ | skip
  · obtain rfl : j = S.length := by omega
    (refine sim ?_; try exact trivial)
    repeat' (first | refine st1 ?_ | ((first | refine abs_region fun K hK => ?_ | refine abs_draw Tryz.ty.mixed (by kernel_rfl) fun K hK => ?_ | refine abs_if ?_ | show retQ _ _ _ _ _); (refine sim ?_; try exact trivial)) | ((first | (refine hK _ ?_; clear hK K) | show thenQ _ _ _ _ | show blockQ _ _ _ _ | show noGoQ _ _ _); refine qst ?_) | (intro hg; try exact fin2) | apply And.intro | exact fin | fail)
    all_goals skip
set_option maxRecDepth 100000 in
set_option maxHeartbeats 4000000 in
theorem chigh_ok (W R : Nat) (sl : Int) (S : List CStn) (h : MapOk W R sl S) (p : Int) (hp : 0 ≤ p ∧ p ≤ 29) : CallsTo Tryz.prog 98 [.agg (chC W R sl S), i64 p] (i64 (hiK W sl S p S.length)) := by
  have hn := h.n
  refine calls_abs Tryz.func98 Tryz.ntmps98 Tryz.results98 Tryz.call98 rfl (by simp) fun w0 S0 M0 => ?_
  repeat' (first | refine st1 ?_ | ((first | refine abs_region fun K hK => ?_ | refine abs_draw Tryz.ty.mixed (by kernel_rfl) fun K hK => ?_ | refine abs_if ?_ | show retQ _ _ _ _ _); (refine sim ?_; try exact trivial)) | ((first | (refine hK _ ?_; clear hK K) | show thenQ _ _ _ _ | show blockQ _ _ _ _ | show noGoQ _ _ _); refine qst ?_) | (intro hg; try exact fin2) | apply And.intro | exact fin | fail)
  refine abs_loopN (ι := Nat) (fun j => [(1, i64 p), (2, .box 0 0), (5, i64 (hiK W sl S p j)), (10, .list (S.map csD)), (11, i64 S.length), (12, i64 j)]) (fun _ => [.mu (chC W R sl S)]) (fun _ => []) (fun j => j ≤ S.length) (fun j => S.length - j) (fun _ _ => ⟨rfl, rfl⟩) 0 (Nat.zero_le _) (le_of rfl (by try (refine sim ?_; try exact trivial); try simp [hiK]) ⟨_, rfl⟩ ⟨_, rfl⟩) (fun j hj => ?_)
  have hb := hiK_bd h hp j hj
  by_cases hlt : j < S.length
  · have h2 := sl_bd h hp hlt
    have h3 := (h.a j hlt).2
    have h4 := dsC_bd (W := W) (a := p) (b := (nth S j).p) (by have := h.w; omega) hp (pt_bd h hlt)
    have c1 := cdist_ok W R p (nth S j).p (by have := h.w; omega) hp (pt_bd h hlt)
    have c2 := cleast_ok (hiK W sl S p j) ((nth S j).hi + sl * dsC W p (nth S j).p)
    have e1 : hiK W sl S p (j + 1) = min (hiK W sl S p j) ((nth S j).hi + sl * dsC W p (nth S j).p) := rfl
    (refine sim ?_; try exact trivial)
    repeat' (first | refine st1 ?_ | ((first | refine abs_region fun K hK => ?_ | refine abs_draw Tryz.ty.mixed (by kernel_rfl) fun K hK => ?_ | refine abs_if ?_ | show retQ _ _ _ _ _ | refine callK (c1) ?_ | refine callK (c2) ?_); (refine sim ?_; try exact trivial)) | ((first | (refine hK _ ?_; clear hK K) | show thenQ _ _ _ _ | show blockQ _ _ _ _ | show noGoQ _ _ _); refine qst ?_) | (intro hg; try exact fin2) | apply And.intro | exact fin | fail)
    all_goals first | exact ⟨j + 1, by omega, by omega, le_of rfl (by try (refine sim ?_; try exact trivial); try simp [e1]) ⟨_, rfl⟩ ⟨_, rfl⟩⟩ | skip
  · obtain rfl : j = S.length := by omega
    (refine sim ?_; try exact trivial)
    repeat' (first | refine st1 ?_ | ((first | refine abs_region fun K hK => ?_ | refine abs_draw Tryz.ty.mixed (by kernel_rfl) fun K hK => ?_ | refine abs_if ?_ | show retQ _ _ _ _ _); (refine sim ?_; try exact trivial)) | ((first | (refine hK _ ?_; clear hK K) | show thenQ _ _ _ _ | show blockQ _ _ _ _ | show noGoQ _ _ _); refine qst ?_) | (intro hg; try exact fin2) | apply And.intro | exact fin | fail)
    all_goals skip
/-- No two stations contradict each other. -/
def NoCl (W sl : Int) (S : List CStn) : Prop := ∀ i k, i < k → k < S.length → (nth S i).lo - sl * dsC W (nth S i).p (nth S k).p ≤ (nth S k).hi ∧ (nth S k).lo - sl * dsC W (nth S i).p (nth S k).p ≤ (nth S i).hi
set_option maxRecDepth 100000 in
set_option maxHeartbeats 4000000 in
theorem capart_ok (W R : Nat) (sl : Int) (S : List CStn) (h : MapOk W R sl S) (hc : NoCl W sl S) (i k : Nat) (hik : i < k) (hk : k < S.length) : CallsTo Tryz.prog 140 [.agg (chC W R sl S), csD (nth S i), csD (nth S k)] (.bool false) := by
  have h1 := pt_bd h (i := i) (by omega)
  have h2 := pt_bd h hk
  have c1 := cdist_ok W R (nth S i).p (nth S k).p (by have := h.w; omega) h1 h2
  have h3 := hc i k hik hk
  have h4 := sl_bd h h1 hk
  have h5 := (h.a i (by omega)).2
  have h6 := (h.a k hk).2
  have h7 := dsC_bd (W := W) (a := (nth S i).p) (b := (nth S k).p) (by have := h.w; omega) h1 h2
  refine calls_abs Tryz.func140 Tryz.ntmps140 Tryz.results140 Tryz.call140 rfl (by simp) fun w0 S0 M0 => ?_
  repeat' (first | refine st1 ?_ | ((first | refine abs_region fun K hK => ?_ | refine abs_draw Tryz.ty.mixed (by kernel_rfl) fun K hK => ?_ | refine abs_if ?_ | show retQ _ _ _ _ _ | refine callK (c1) ?_); (refine sim ?_; try exact trivial)) | ((first | (refine hK _ ?_; clear hK K) | show thenQ _ _ _ _ | show blockQ _ _ _ _ | show noGoQ _ _ _); refine qst ?_) | (intro hg; try exact fin2) | apply And.intro | exact fin | fail)
  all_goals (rw [decide_eq_false (by omega)])
set_option maxRecDepth 100000 in
set_option maxHeartbeats 4000000 in
theorem cclash_ok (W R : Nat) (sl : Int) (S : List CStn) (h : MapOk W R sl S) (hc : NoCl W sl S) : CallsTo Tryz.prog 96 [.agg (chC W R sl S)] (.tup [i64 0, i64 0, .bool false]) := by
  have hn := h.n
  refine calls_abs Tryz.func96 Tryz.ntmps96 Tryz.results96 Tryz.call96 rfl (by simp) fun w0 S0 M0 => ?_
  repeat' (first | refine st1 ?_ | ((first | refine abs_region fun K hK => ?_ | refine abs_draw Tryz.ty.mixed (by kernel_rfl) fun K hK => ?_ | refine abs_if ?_ | show retQ _ _ _ _ _); (refine sim ?_; try exact trivial)) | ((first | (refine hK _ ?_; clear hK K) | show thenQ _ _ _ _ | show blockQ _ _ _ _ | show noGoQ _ _ _); refine qst ?_) | (intro hg; try exact fin2) | apply And.intro | exact fin | fail)
  refine abs_loopN (ι := Nat) (fun i => [(1, .box 0 0), (10, .list (S.map csD)), (11, i64 S.length), (12, i64 i)]) (fun _ => [.mu (chC W R sl S)]) (fun _ => []) (fun i => i ≤ S.length) (fun i => S.length - i) (fun _ _ => ⟨rfl, rfl⟩) 0 (Nat.zero_le _) (le_of rfl (by try (refine sim ?_; try exact trivial); try simp) ⟨_, rfl⟩ ⟨_, rfl⟩) (fun i hi => ?_)
  by_cases hlt : i < S.length
  · (refine sim ?_; try exact trivial)
    repeat' (first | refine st1 ?_ | ((first | refine abs_region fun K hK => ?_ | refine abs_draw Tryz.ty.mixed (by kernel_rfl) fun K hK => ?_ | refine abs_if ?_ | show retQ _ _ _ _ _); (refine sim ?_; try exact trivial)) | ((first | (refine hK _ ?_; clear hK K) | show thenQ _ _ _ _ | show blockQ _ _ _ _ | show noGoQ _ _ _); refine qst ?_) | (intro hg; try exact fin2) | apply And.intro | exact fin | fail)
    refine abs_loopN (ι := Nat) (fun k => [(1, .box 0 0), (5, i64 i), (6, .box 1 0), (7, i64 k), (10, .list (S.map csD)), (11, i64 S.length), (12, i64 i)]) (fun _ => [.mu (chC W R sl S), .mu [i64 (nth S i).p, i64 (nth S i).lo, i64 (nth S i).hi]]) (fun _ => []) (fun k => i < k ∧ k ≤ S.length) (fun k => S.length - k) (fun _ _ => ⟨rfl, rfl⟩) (i + 1) ⟨by omega, by omega⟩ (le_of rfl (by try (refine sim ?_; try exact trivial); try simp) ⟨_, rfl⟩ ⟨_, rfl⟩) (fun k ⟨hk1, hk⟩ => ?_)
    by_cases hkt : k < S.length
    · have c1 := capart_ok W R sl S h hc i k hk1 hkt
      (refine sim ?_; try exact trivial)
      repeat' (first | refine st1 ?_ | ((first | refine abs_region fun K hK => ?_ | refine abs_draw Tryz.ty.mixed (by kernel_rfl) fun K hK => ?_ | refine abs_if ?_ | show retQ _ _ _ _ _ | refine callK (c1) ?_); (refine sim ?_; try exact trivial)) | ((first | (refine hK _ ?_; clear hK K) | show thenQ _ _ _ _ | show blockQ _ _ _ _ | show noGoQ _ _ _); refine qst ?_) | (intro hg; try exact fin2) | apply And.intro | exact fin | fail)
      all_goals first | exact ⟨k + 1, ⟨by omega, by omega⟩, by omega, le_of rfl (by try (refine sim ?_; try exact trivial); try simp) ⟨_, rfl⟩ ⟨_, rfl⟩⟩ | skip
    · obtain rfl : k = S.length := by omega
      (refine sim ?_; try exact trivial)
      repeat' (first | refine st1 ?_ | ((first | refine abs_region fun K hK => ?_ | refine abs_draw Tryz.ty.mixed (by kernel_rfl) fun K hK => ?_ | refine abs_if ?_ | show retQ _ _ _ _ _); (refine sim ?_; try exact trivial)) | ((first | (refine hK _ ?_; clear hK K) | show thenQ _ _ _ _ | show blockQ _ _ _ _ | show noGoQ _ _ _); refine qst ?_) | (intro hg; try exact fin2) | apply And.intro | exact fin | fail)
      all_goals first | exact ⟨i + 1, by omega, by omega, le_of rfl (by try (refine sim ?_; try exact trivial); try simp) ⟨_, rfl⟩ ⟨_, rfl⟩⟩ | skip
  · obtain rfl : i = S.length := by omega
    (refine sim ?_; try exact trivial)
    repeat' (first | refine st1 ?_ | ((first | refine abs_region fun K hK => ?_ | refine abs_draw Tryz.ty.mixed (by kernel_rfl) fun K hK => ?_ | refine abs_if ?_ | show retQ _ _ _ _ _); (refine sim ?_; try exact trivial)) | ((first | (refine hK _ ?_; clear hK K) | show thenQ _ _ _ _ | show blockQ _ _ _ _ | show noGoQ _ _ _); refine qst ?_) | (intro hg; try exact fin2) | apply And.intro | exact fin | fail)
    all_goals rfl
set_option maxRecDepth 100000 in
set_option maxHeartbeats 4000000 in
theorem cval1_ok (W R : Nat) (sl : Int) (S : List CStn) (h : MapOk W R sl S) (i : Nat) (hi : i < S.length) : CallsTo Tryz.prog 139 [csD (nth S i), .ro (mapD W R sl S)] (.bool false) := by
  have h1 := (h.a i hi)
  have h2 := WR_bd h.w h.r
  have h3 : (W : Int) * R = ((W * R : Nat) : Int) := by simp
  have c1 : CallsTo Tryz.prog 137 [i64 (nth S i).p, i64 0, i64 ((W : Int) * R - 1)] (.bool true) := by have := cin_ok (nth S i).p 0 ((W : Int) * R - 1); rwa [decide_eq_true h1.1] at this
  refine calls_abs Tryz.func139 Tryz.ntmps139 Tryz.results139 Tryz.call139 rfl (by simp) fun w0 S0 M0 => ?_
  repeat' (first | refine st1 ?_ | ((first | refine abs_region fun K hK => ?_ | refine abs_draw Tryz.ty.mixed (by kernel_rfl) fun K hK => ?_ | refine abs_if ?_ | show retQ _ _ _ _ _ | refine callK (c1) ?_); (refine sim ?_; try exact trivial)) | ((first | (refine hK _ ?_; clear hK K) | show thenQ _ _ _ _ | show blockQ _ _ _ _ | show noGoQ _ _ _); refine qst ?_) | (intro hg; try exact fin2) | apply And.intro | exact fin | fail)
  all_goals (rw [decide_eq_false (by omega)])
set_option maxRecDepth 100000 in
set_option maxHeartbeats 4000000 in
theorem cfirst_ok (W R : Nat) (sl : Int) (S : List CStn) (h : MapOk W R sl S) : CallsTo Tryz.prog 138 [.list (S.map csD), .clo 139 [.ro (mapD W R sl S)]] (.tup [.agg [i64 0, i64 0, i64 0], .bool false]) := by
  have hn := h.n
  refine calls_abs Tryz.func138 Tryz.ntmps138 Tryz.results138 Tryz.call138 rfl (by simp) fun w0 S0 M0 => ?_
  repeat' (first | refine st1 ?_ | ((first | refine abs_region fun K hK => ?_ | refine abs_draw Tryz.ty.mixed (by kernel_rfl) fun K hK => ?_ | refine abs_if ?_ | show retQ _ _ _ _ _); (refine sim ?_; try exact trivial)) | ((first | (refine hK _ ?_; clear hK K) | show thenQ _ _ _ _ | show blockQ _ _ _ _ | show noGoQ _ _ _); refine qst ?_) | (intro hg; try exact fin2) | apply And.intro | exact fin | fail)
  refine abs_loopN (ι := Nat) (fun i => [(1, .clo 139 [.ro (mapD W R sl S)]), (4, .box 0 0), (9, .list (S.map csD)), (10, i64 S.length), (11, i64 i)]) (fun _ => [.mu [i64 0, i64 0, i64 0]]) (fun _ => []) (fun i => i ≤ S.length) (fun i => S.length - i) (fun _ _ => ⟨rfl, rfl⟩) 0 (Nat.zero_le _) (le_of rfl (by try (refine sim ?_; try exact trivial); try simp) ⟨_, rfl⟩ ⟨_, rfl⟩) (fun i hi => ?_)
  by_cases hlt : i < S.length
  · have c1 := cval1_ok W R sl S h i hlt
    (refine sim ?_; try exact trivial)
    repeat' (first | refine st1 ?_ | ((first | refine abs_region fun K hK => ?_ | refine abs_draw Tryz.ty.mixed (by kernel_rfl) fun K hK => ?_ | refine abs_if ?_ | show retQ _ _ _ _ _ | refine callK (c1) ?_); (refine sim ?_; try exact trivial)) | ((first | (refine hK _ ?_; clear hK K) | show thenQ _ _ _ _ | show blockQ _ _ _ _ | show noGoQ _ _ _); refine qst ?_) | (intro hg; try exact fin2) | apply And.intro | exact fin | fail)
    all_goals first | exact ⟨i + 1, by omega, by omega, le_of rfl (by try (refine sim ?_; try exact trivial); try simp) ⟨_, rfl⟩ ⟨_, rfl⟩⟩ | skip
  · obtain rfl : i = S.length := by omega
    (refine sim ?_; try exact trivial)
    repeat' (first | refine st1 ?_ | ((first | refine abs_region fun K hK => ?_ | refine abs_draw Tryz.ty.mixed (by kernel_rfl) fun K hK => ?_ | refine abs_if ?_ | show retQ _ _ _ _ _); (refine sim ?_; try exact trivial)) | ((first | (refine hK _ ?_; clear hK K) | show thenQ _ _ _ _ | show blockQ _ _ _ _ | show noGoQ _ _ _); refine qst ?_) | (intro hg; try exact fin2) | apply And.intro | exact fin | fail)
    all_goals rfl
set_option maxRecDepth 100000 in
set_option maxHeartbeats 4000000 in
theorem cvalid_ok (W R : Nat) (sl : Int) (S : List CStn) (h : MapOk W R sl S) : CallsTo Tryz.prog 94 [.agg (mapD W R sl S)] (.bool true) := by
  have hn := h.n
  have hw := h.w
  have hr := h.r
  have hs := h.s
  have c1 : CallsTo Tryz.prog 137 [i64 W, i64 1, i64 6] (.bool true) := by have := cin_ok W 1 6; rwa [decide_eq_true (by omega)] at this
  have c2 : CallsTo Tryz.prog 137 [i64 R, i64 1, i64 5] (.bool true) := by have := cin_ok R 1 5; rwa [decide_eq_true (by omega)] at this
  have c3 : CallsTo Tryz.prog 137 [i64 sl, i64 0, i64 5000] (.bool true) := by have := cin_ok sl 0 5000; rwa [decide_eq_true (by omega)] at this
  have c4 := cfirst_ok W R sl S h
  refine calls_abs Tryz.func94 Tryz.ntmps94 Tryz.results94 Tryz.call94 rfl (by simp) fun w0 S0 M0 => ?_
  repeat' (first | (refine abs_freeze 0 _ _ rfl rfl ?_; simp only [basL, Nat.reduceAdd]) | refine st1 ?_ | ((first | refine abs_region fun K hK => ?_ | refine abs_draw Tryz.ty.mixed (by kernel_rfl) fun K hK => ?_ | refine abs_if ?_ | show retQ _ _ _ _ _ | refine callK (c1) ?_ | refine callK (c2) ?_ | refine callK (c3) ?_ | refine callK (c4) ?_); (refine sim ?_; try exact trivial)) | ((first | (refine hK _ ?_; clear hK K) | show thenQ _ _ _ _ | show blockQ _ _ _ _ | show noGoQ _ _ _); refine qst ?_) | (intro hg; try exact fin2) | apply And.intro | exact fin | fail)
  all_goals rfl
set_option maxRecDepth 100000 in
set_option maxHeartbeats 4000000 in
theorem clook_ok (W R : Nat) (sl : Int) (S : List CStn) : CallsTo Tryz.prog 95 [.agg (mapD W R sl S)] (.agg (chC W R sl S)) := by
  refine calls_abs Tryz.func95 Tryz.ntmps95 Tryz.results95 Tryz.call95 rfl (by simp) fun w0 S0 M0 => ?_
  repeat' (first | refine st1 ?_ | ((first | refine abs_region fun K hK => ?_ | refine abs_draw Tryz.ty.mixed (by kernel_rfl) fun K hK => ?_ | refine abs_if ?_ | show retQ _ _ _ _ _); (refine sim ?_; try exact trivial)) | ((first | (refine hK _ ?_; clear hK K) | show thenQ _ _ _ _ | show blockQ _ _ _ _ | show noGoQ _ _ _); refine qst ?_) | (intro hg; try exact fin2) | apply And.intro | exact fin | fail)
  all_goals rfl
set_option maxRecDepth 100000 in
set_option maxHeartbeats 4000000 in
theorem calways_ok (d : List D) (hd : d.all D.one = true) : CallsTo Tryz.prog 57 [.agg d] (.bool true) := by
  refine calls_abs Tryz.func57 Tryz.ntmps57 Tryz.results57 Tryz.call57 rfl (by simp) fun w0 S0 M0 => ?_
  repeat' (first | refine st1 ?_ | ((first | refine abs_region fun K hK => ?_ | refine abs_draw Tryz.ty.mixed (by kernel_rfl) fun K hK => ?_ | refine abs_if ?_ | show retQ _ _ _ _ _); (refine sim ?_; try exact trivial)) | ((first | (refine hK _ ?_; clear hK K) | show thenQ _ _ _ _ | show blockQ _ _ _ _ | show noGoQ _ _ _); refine qst ?_) | (intro hg; try exact fin2) | apply And.intro | exact fin | fail)
  all_goals first | rfl | exact hd | skip
set_option maxRecDepth 100000 in
set_option maxHeartbeats 4000000 in
theorem cposs_ok (W R : Nat) (sl : Int) (S : List CStn) (h : MapOk W R sl S) (hc : NoCl W sl S) : CallsTo Tryz.prog 56 [.agg (mapD W R sl S), .clo 57 []] (.tup [.agg (chC W R sl S), i64 0]) := by
  have c1 := cvalid_ok W R sl S h
  have c2 := clook_ok W R sl S
  have c3 := calways_ok (chC W R sl S) rfl
  have c4 := cclash_ok W R sl S h hc
  refine calls_abs Tryz.func56 Tryz.ntmps56 Tryz.results56 Tryz.call56 rfl (by simp) fun w0 S0 M0 => ?_
  repeat' (first | refine st1 ?_ | ((first | refine abs_region fun K hK => ?_ | refine abs_draw Tryz.ty.mixed (by kernel_rfl) fun K hK => ?_ | refine abs_if ?_ | show retQ _ _ _ _ _ | refine callK (c1) ?_ | refine callK (c2) ?_ | refine callK (c3) ?_ | refine callK (c4) ?_); (refine sim ?_; try exact trivial)) | ((first | (refine hK _ ?_; clear hK K) | show thenQ _ _ _ _ | show blockQ _ _ _ _ | show noGoQ _ _ _); refine qst ?_) | (intro hg; try exact fin2) | apply And.intro | exact fin | fail)
  all_goals rfl
end Go.Proofs.YtmnepfejoneghaaGreatDoor
