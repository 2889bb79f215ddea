import Derived.Test.YtmnepfejoneghaaGreatDoorK28
import Derived.Test.YtmnepfejoneghaaGreatDoorK29
import Derived.Test.YtmnepfejoneghaaGreatDoorK14
set_option linter.unusedVariables false
set_option linter.unusedSimpArgs false
namespace Go.Proofs.YtmnepfejoneghaaGreatDoor
open Go.Ab
attribute [local irreducible] Abs CallK CallR CallsTo CallsB IA
set_option maxRecDepth 100000 in
set_option maxHeartbeats 4000000 in
theorem nan_ok (x : Int) : CallsTo Tryz.prog 170 [i64 x] (.bool false) := by
  refine calls_abs Tryz.func170 Tryz.ntmps170 Tryz.results170 Tryz.call170 rfl (by simp) fun w0 S0 M0 => ?_
  repeat' (first | refine st1 ?_ | ((first | refine abs_region fun K hK => ?_ | refine abs_draw Tryz.ty.mixed (by kernel_rfl) fun K hK => ?_ | refine abs_if ?_ | show retQ _ _ _ _ _); (refine sim ?_; try exact trivial)) | ((first | (refine hK _ ?_; clear hK K) | show thenQ _ _ _ _ | show blockQ _ _ _ _ | show noGoQ _ _ _); refine qst ?_) | (intro hg; try exact fin2) | apply And.intro | exact fin | fail)
  all_goals first | rfl | simp
def cmp1 (x y : Int) : Int := if x < y then -1 else if y < x then 1 else 0
set_option maxRecDepth 100000 in
set_option maxHeartbeats 4000000 in
theorem cmp1_ok (x y : Int) : CallsTo Tryz.prog 154 [i64 x, i64 y] (i64 (cmp1 x y)) := by
  have c1 := nan_ok x
  have c2 := nan_ok y
  unfold cmp1
  refine calls_abs Tryz.func154 Tryz.ntmps154 Tryz.results154 Tryz.call154 rfl (by simp) fun w0 S0 M0 => ?_
  repeat' (first | refine st1 ?_ | ((first | refine abs_region fun K hK => ?_ | refine abs_draw Tryz.ty.mixed (by kernel_rfl) fun K hK => ?_ | refine abs_if ?_ | show retQ _ _ _ _ _ | refine callK (c1) ?_ | refine callK (c2) ?_); (refine sim ?_; try exact trivial)) | ((first | (refine hK _ ?_; clear hK K) | show thenQ _ _ _ _ | show blockQ _ _ _ _ | show noGoQ _ _ _); refine qst ?_) | (intro hg; try exact fin2) | apply And.intro | exact fin | fail)
  all_goals simp [*]
def cmpL : List Int → List Int → Int
  | [], [] => 0
  | [], _ :: _ => -1
  | _ :: _, [] => 1
  | x :: xs, y :: ys => if cmp1 x y = 0 then cmpL xs ys else cmp1 x y
theorem cmpL_drop (xs ys : List Int) (j : Nat) (h1 : j < xs.length) (h2 : j < ys.length) : cmpL (xs.drop j) (ys.drop j) = if cmp1 (nth xs j) (nth ys j) = 0 then cmpL (xs.drop (j + 1)) (ys.drop (j + 1)) else cmp1 (nth xs j) (nth ys j) := by
  rw [List.drop_eq_getElem_cons h1, List.drop_eq_getElem_cons h2, cmpL, nth_eq xs j h1, nth_eq ys j h2]
theorem cmpL_nil (ys : List Int) : cmpL [] ys = if 0 < ys.length then -1 else 0 := by cases ys <;> simp [cmpL]
set_option maxRecDepth 100000 in
set_option maxHeartbeats 4000000 in
theorem compare_ok (xs ys : List Int) (h1 : xs.length ≤ 100) (h2 : ys.length ≤ 100) : CallsTo Tryz.prog 115 [ints xs, ints ys] (i64 (cmpL xs ys)) := by
  refine calls_abs Tryz.func115 Tryz.ntmps115 Tryz.results115 Tryz.call115 rfl (by simp) fun w0 S0 M0 => ?_
  repeat' (first | refine st1 ?_ | ((first | refine abs_region fun K hK => ?_ | refine abs_draw Tryz.ty.mixed (by kernel_rfl) fun K hK => ?_ | refine abs_if ?_ | show retQ _ _ _ _ _); (refine sim ?_; try exact trivial)) | ((first | (refine hK _ ?_; clear hK K) | show thenQ _ _ _ _ | show blockQ _ _ _ _ | show noGoQ _ _ _); refine qst ?_) | (intro hg; try exact fin2) | apply And.intro | exact fin | fail)
  refine abs_loopN (ι := Nat) (fun j => [(0, ints xs), (1, ints ys), (9, ints xs), (10, i64 xs.length), (11, i64 j)]) (fun _ => []) (fun _ => []) (fun j => j ≤ xs.length ∧ j ≤ ys.length ∧ cmpL xs ys = cmpL (xs.drop j) (ys.drop j)) (fun j => xs.length - j) (fun _ _ => ⟨rfl, rfl⟩) 0 ⟨Nat.zero_le _, Nat.zero_le _, rfl⟩ (le_of rfl (by try (refine sim ?_; try exact trivial); try simp) ⟨_, rfl⟩ ⟨_, rfl⟩) (fun j ⟨hj1, hj2, he⟩ => ?_)
  by_cases hlt : j < xs.length
  · by_cases hlt2 : j < ys.length
    · have c1 := cmp1_ok (nth xs j) (nth ys j)
      have hd := cmpL_drop xs ys j hlt hlt2
      (refine sim ?_; try exact trivial)
      repeat' (first | refine st1 ?_ | ((first | refine abs_region fun K hK => ?_ | refine abs_draw Tryz.ty.mixed (by kernel_rfl) fun K hK => ?_ | refine abs_if ?_ | show retQ _ _ _ _ _ | refine callK (c1) ?_); (refine sim ?_; try exact trivial)) | ((first | (refine hK _ ?_; clear hK K) | show thenQ _ _ _ _ | show blockQ _ _ _ _ | show noGoQ _ _ _); refine qst ?_) | (intro hg; try exact fin2) | apply And.intro | exact fin | fail)
      all_goals first
        | (rw [he, hd, if_neg (by assumption)]; done)
        | exact ⟨j + 1, ⟨by omega, by omega, by rw [he, hd, if_pos (Decidable.of_not_not (by assumption))]⟩, by omega, le_of rfl (by try (refine sim ?_; try exact trivial); try simp) ⟨_, rfl⟩ ⟨_, rfl⟩⟩
        | exact ⟨j + 1, ⟨by omega, by omega, by rw [he, hd, if_pos (by omega)]⟩, by omega, le_of rfl (by try (refine sim ?_; try exact trivial); try simp) ⟨_, rfl⟩ ⟨_, rfl⟩⟩
    · obtain rfl : j = ys.length := by omega
      have hd : cmpL xs ys = 1 := by
        rw [he, List.drop_length, List.drop_eq_getElem_cons hlt]; rfl
      rw [hd]
      (refine sim ?_; try exact trivial)
      repeat' (first | refine st1 ?_ | ((first | refine abs_region fun K hK => ?_ | refine abs_draw Tryz.ty.mixed (by kernel_rfl) fun K hK => ?_ | refine abs_if ?_ | show retQ _ _ _ _ _); (refine sim ?_; try exact trivial)) | ((first | (refine hK _ ?_; clear hK K) | show thenQ _ _ _ _ | show blockQ _ _ _ _ | show noGoQ _ _ _); refine qst ?_) | (intro hg; try exact fin2) | apply And.intro | exact fin | fail)
      all_goals rfl
  · obtain rfl : j = xs.length := by omega
    have hd : cmpL xs ys = if xs.length < ys.length then -1 else 0 := by
      rw [he, List.drop_length, cmpL_nil, List.length_drop]
      by_cases hc : xs.length < ys.length
      · rw [if_pos hc, if_pos (by omega)]
      · rw [if_neg hc, if_neg (by omega)]
    rw [hd]
    (refine sim ?_; try exact trivial)
    repeat' (first | refine st1 ?_ | ((first | refine abs_region fun K hK => ?_ | refine abs_draw Tryz.ty.mixed (by kernel_rfl) fun K hK => ?_ | refine abs_if ?_ | show retQ _ _ _ _ _); (refine sim ?_; try exact trivial)) | ((first | (refine hK _ ?_; clear hK K) | show thenQ _ _ _ _ | show blockQ _ _ _ _ | show noGoQ _ _ _); refine qst ?_) | (intro hg; try exact fin2) | apply And.intro | exact fin | fail)
    all_goals first | (rw [if_pos (by omega)]; done) | (rw [if_neg (by omega)]; done)
def wbet (a b : List Int × Int) : Bool := if a.1.length = b.1.length then (if a.2 = b.2 then decide (cmpL a.1 b.1 < 0) else decide (a.2 < b.2)) else decide (b.1.length < a.1.length)
abbrev plD (p : List Int × Int) : D := .agg [ints p.1, i64 p.2]
set_option maxRecDepth 100000 in
set_option maxHeartbeats 4000000 in
theorem better_ok (a b : List Int × Int) (h1 : a.1.length ≤ 100) (h2 : b.1.length ≤ 100) : CallsTo Tryz.prog 70 [plD a, plD b] (.bool (wbet a b)) := by
  have c1 := compare_ok a.1 b.1 h1 h2
  unfold wbet
  refine calls_abs Tryz.func70 Tryz.ntmps70 Tryz.results70 Tryz.call70 rfl (by simp) fun w0 S0 M0 => ?_
  repeat' (first | refine st1 ?_ | ((first | refine abs_region fun K hK => ?_ | refine abs_draw Tryz.ty.mixed (by kernel_rfl) fun K hK => ?_ | refine abs_if ?_ | show retQ _ _ _ _ _ | refine callK (c1) ?_); (refine sim ?_; try exact trivial)) | ((first | (refine hK _ ?_; clear hK K) | show thenQ _ _ _ _ | show blockQ _ _ _ _ | show noGoQ _ _ _); refine qst ?_) | (intro hg; try exact fin2) | apply And.intro | exact fin | fail)
  all_goals first
    | (rw [if_neg (by omega)]; simp; done)
    | (rw [if_pos (by omega), if_neg (by assumption)]; done)
    | (rw [if_pos (by omega), if_pos (by assumption)]; done)
def wbst (l : List (List Int × Int)) : Nat → List Int × Int
  | 0 => nth l 0
  | k + 1 => if wbet (nth l k) (wbst l k) then nth l k else wbst l k
theorem wbst_len (l : List (List Int × Int)) (h0 : 0 < l.length) (h : ∀ i, i < l.length → (nth l i).1.length ≤ 100) : ∀ k, k ≤ l.length → (wbst l k).1.length ≤ 100
  | 0, _ => h 0 h0
  | k + 1, hk => by
    simp only [wbst]
    split
    · exact h k (by omega)
    · exact wbst_len l h0 h k (by omega)
set_option maxRecDepth 100000 in
set_option maxHeartbeats 4000000 in
theorem wbest_ok (l : List (List Int × Int)) (h0 : 0 < l.length) (hn : l.length ≤ 2000) (h : ∀ i, i < l.length → (nth l i).1.length ≤ 100) : CallsTo Tryz.prog 69 [.list (l.map plD), .clo 70 []] (plD (wbst l l.length)) := by
  refine calls_abs Tryz.func69 Tryz.ntmps69 Tryz.results69 Tryz.call69 rfl (by simp) fun w0 S0 M0 => ?_
  repeat' (first | refine st1 ?_ | ((first | refine abs_region fun K hK => ?_ | refine abs_draw Tryz.ty.mixed (by kernel_rfl) fun K hK => ?_ | refine abs_if ?_ | show retQ _ _ _ _ _); (refine sim ?_; try exact trivial)) | ((first | (refine hK _ ?_; clear hK K) | show thenQ _ _ _ _ | show blockQ _ _ _ _ | show noGoQ _ _ _); refine qst ?_) | (intro hg; try exact fin2) | apply And.intro | exact fin | fail)
  refine abs_loopN (ι := Nat) (fun j => [(1, .clo 70 []), (4, .box 0 0), (5, .box 1 0), (11, .list (l.map plD)), (12, i64 l.length), (13, i64 j)]) (fun j => [.mu [.val (.slice none 0 0), i64 0], .mu [ints (wbst l j).1, i64 (wbst l j).2]]) (fun _ => []) (fun j => j ≤ l.length) (fun j => l.length - j) (fun _ _ => ⟨rfl, rfl⟩) 0 (Nat.zero_le _) (by refine le_of rfl (by try (refine sim ?_; try exact trivial); try simp) ⟨[], ?_⟩ ⟨_, rfl⟩; first | rfl | (try (refine sim ?_; try exact trivial); simp [wbst]) | simp [wbst]) (fun j hj => ?_)
  by_cases hlt : j < l.length
  · have c1 := better_ok (nth l j) (wbst l j) (h j hlt) (wbst_len l h0 h j hj)
    cases e1 : wbet (nth l j) (wbst l j)
    · rw [e1] at c1
      have e2 : wbst l (j + 1) = wbst l j := by simp [wbst, e1]
      (refine sim ?_; try exact trivial)
      repeat' (first | refine st1 ?_ | ((first | refine abs_region fun K hK => ?_ | refine abs_draw Tryz.ty.mixed (by kernel_rfl) fun K hK => ?_ | refine abs_if ?_ | show retQ _ _ _ _ _ | refine callK (c1) ?_); (refine sim ?_; try exact trivial)) | ((first | (refine hK _ ?_; clear hK K) | show thenQ _ _ _ _ | show blockQ _ _ _ _ | show noGoQ _ _ _); refine qst ?_) | (intro hg; try exact fin2) | apply And.intro | exact fin | fail)
      all_goals exact ⟨j + 1, by omega, by omega, le_of rfl (by try (refine sim ?_; try exact trivial); try simp) ⟨_, by rw [e2]; rfl⟩ ⟨_, rfl⟩⟩
    · rw [e1] at c1
      have e2 : wbst l (j + 1) = nth l j := by simp [wbst, e1]
      (refine sim ?_; try exact trivial)
      repeat' (first | refine st1 ?_ | ((first | refine abs_region fun K hK => ?_ | refine abs_draw Tryz.ty.mixed (by kernel_rfl) fun K hK => ?_ | refine abs_if ?_ | show retQ _ _ _ _ _ | refine callK (c1) ?_); (refine sim ?_; try exact trivial)) | ((first | (refine hK _ ?_; clear hK K) | show thenQ _ _ _ _ | show blockQ _ _ _ _ | show noGoQ _ _ _); refine qst ?_) | (intro hg; try exact fin2) | apply And.intro | exact fin | fail)
      all_goals exact ⟨j + 1, by omega, by omega, le_of rfl (by try (refine sim ?_; try exact trivial); try simp) ⟨_, by rw [e2]; rfl⟩ ⟨_, rfl⟩⟩
  · obtain rfl : j = l.length := by omega
    (refine sim ?_; try exact trivial)
    repeat' (first | refine st1 ?_ | ((first | refine abs_region fun K hK => ?_ | refine abs_draw Tryz.ty.mixed (by kernel_rfl) fun K hK => ?_ | refine abs_if ?_ | show retQ _ _ _ _ _); (refine sim ?_; try exact trivial)) | ((first | (refine hK _ ?_; clear hK K) | show thenQ _ _ _ _ | show blockQ _ _ _ _ | show noGoQ _ _ _); refine qst ?_) | (intro hg; try exact fin2) | apply And.intro | exact fin | fail)
    all_goals rfl
/-- Where a number lies in a list first; -1: nowhere. -/
def wix (l : List Int) (n : Int) : Nat → Int
  | 0 => -1
  | k + 1 => if wix l n k = -1 then (if nth l k = n then k else -1) else wix l n k
set_option maxRecDepth 100000 in
set_option maxHeartbeats 4000000 in
theorem windex_ok (l : List Int) (n : Int) (hn : l.length ≤ 100) : CallsTo Tryz.prog 114 [ints l, i64 n] (i64 (wix l n l.length)) := by
  refine calls_abs Tryz.func114 Tryz.ntmps114 Tryz.results114 Tryz.call114 rfl (by simp) fun w0 S0 M0 => ?_
  repeat' (first | refine st1 ?_ | ((first | refine abs_region fun K hK => ?_ | refine abs_draw Tryz.ty.mixed (by kernel_rfl) fun K hK => ?_ | refine abs_if ?_ | show retQ _ _ _ _ _); (refine sim ?_; try exact trivial)) | ((first | (refine hK _ ?_; clear hK K) | show thenQ _ _ _ _ | show blockQ _ _ _ _ | show noGoQ _ _ _); refine qst ?_) | (intro hg; try exact fin2) | apply And.intro | exact fin | fail)
  refine abs_loopN (ι := Nat) (fun j => [(0, ints l), (1, i64 n), (7, i64 l.length), (8, i64 j)]) (fun _ => []) (fun _ => []) (fun j => j ≤ l.length ∧ wix l n j = -1) (fun j => l.length - j) (fun _ _ => ⟨rfl, rfl⟩) 0 ⟨Nat.zero_le _, rfl⟩ (le_of rfl (by try (refine sim ?_; try exact trivial); try simp) ⟨_, rfl⟩ ⟨_, rfl⟩) (fun j ⟨hj, he⟩ => ?_)
  by_cases hlt : j < l.length
  · by_cases hx : n = nth l j
    · have e2 : ∀ k, j + 1 ≤ k → wix l n k = j := by
        intro k hk
        induction hk with
        | refl => simp only [wix]; rw [if_pos he, if_pos hx.symm]
        | step _ ih => simp only [wix, ih]; rw [if_neg (by omega)]
      rw [e2 l.length (by omega)]
      (refine sim ?_; try exact trivial)
      repeat' (first | refine st1 ?_ | ((first | refine abs_region fun K hK => ?_ | refine abs_draw Tryz.ty.mixed (by kernel_rfl) fun K hK => ?_ | refine abs_if ?_ | show retQ _ _ _ _ _); (refine sim ?_; try exact trivial)) | ((first | (refine hK _ ?_; clear hK K) | show thenQ _ _ _ _ | show blockQ _ _ _ _ | show noGoQ _ _ _); refine qst ?_) | (intro hg; try exact fin2) | apply And.intro | exact fin | fail)
      all_goals rfl
    · have e2 : wix l n (j + 1) = -1 := by simp only [wix, he, if_true]; rw [if_neg (fun e => hx e.symm)]
      (refine sim ?_; try exact trivial)
      repeat' (first | refine st1 ?_ | ((first | refine abs_region fun K hK => ?_ | refine abs_draw Tryz.ty.mixed (by kernel_rfl) fun K hK => ?_ | refine abs_if ?_ | show retQ _ _ _ _ _); (refine sim ?_; try exact trivial)) | ((first | (refine hK _ ?_; clear hK K) | show thenQ _ _ _ _ | show blockQ _ _ _ _ | show noGoQ _ _ _); refine qst ?_) | (intro hg; try exact fin2) | apply And.intro | exact fin | fail)
      all_goals exact ⟨j + 1, ⟨by omega, e2⟩, by omega, le_of rfl (by try (refine sim ?_; try exact trivial); try simp) ⟨_, rfl⟩ ⟨_, rfl⟩⟩
  · obtain rfl : j = l.length := by omega
    rw [he]
    (refine sim ?_; try exact trivial)
    repeat' (first | refine st1 ?_ | ((first | refine abs_region fun K hK => ?_ | refine abs_draw Tryz.ty.mixed (by kernel_rfl) fun K hK => ?_ | refine abs_if ?_ | show retQ _ _ _ _ _); (refine sim ?_; try exact trivial)) | ((first | (refine hK _ ?_; clear hK K) | show thenQ _ _ _ _ | show blockQ _ _ _ _ | show noGoQ _ _ _); refine qst ?_) | (intro hg; try exact fin2) | apply And.intro | exact fin | fail)
    all_goals rfl
set_option maxRecDepth 100000 in
set_option maxHeartbeats 4000000 in
theorem wcontains_ok (l : List Int) (n : Int) (hn : l.length ≤ 100) : CallsTo Tryz.prog 68 [ints l, i64 n] (.bool (decide (0 ≤ wix l n l.length))) := by
  have c1 := windex_ok l n hn
  refine calls_abs Tryz.func68 Tryz.ntmps68 Tryz.results68 Tryz.call68 rfl (by simp) fun w0 S0 M0 => ?_
  repeat' (first | refine st1 ?_ | ((first | refine abs_region fun K hK => ?_ | refine abs_draw Tryz.ty.mixed (by kernel_rfl) fun K hK => ?_ | refine abs_if ?_ | show retQ _ _ _ _ _ | refine callK (c1) ?_); (refine sim ?_; try exact trivial)) | ((first | (refine hK _ ?_; clear hK K) | show thenQ _ _ _ _ | show blockQ _ _ _ _ | show noGoQ _ _ _); refine qst ?_) | (intro hg; try exact fin2) | apply And.intro | exact fin | fail)
  all_goals rfl
end Go.Proofs.YtmnepfejoneghaaGreatDoor
namespace Go.Proofs.YtmnepfejoneghaaGreatDoor
open Go.Ab
attribute [local irreducible] Abs CallK CallR CallsTo CallsB IA
set_option maxRecDepth 100000 in
set_option maxHeartbeats 4000000 in
theorem rsame_ok (xs ys : List Int) (h1 : xs.length ≤ 100) (h2 : ys.length ≤ 100) : CallsTo Tryz.prog 26 [ints xs, ints ys] (.bool (decide (xs = ys))) := by
  by_cases hl : xs.length = ys.length
  · refine calls_abs Tryz.func26 Tryz.ntmps26 Tryz.results26 Tryz.call26 rfl (by simp) fun w0 S0 M0 => ?_
    repeat' (first | refine st1 ?_ | ((first | refine abs_region fun K hK => ?_ | refine abs_draw Tryz.ty.mixed (by kernel_rfl) fun K hK => ?_ | refine abs_if ?_ | show retQ _ _ _ _ _); (refine sim ?_; try exact trivial)) | ((first | (refine hK _ ?_; clear hK K) | show thenQ _ _ _ _ | show blockQ _ _ _ _ | show noGoQ _ _ _); refine qst ?_) | (intro hg; try exact fin2) | apply And.intro | exact fin | fail)
    refine abs_loopN (ι := Nat) (fun j => [(0, ints xs), (1, ints ys), (5, i64 j)]) (fun _ => []) (fun _ => []) (fun j => j ≤ xs.length ∧ ∀ i, i < j → nth xs i = nth ys i) (fun j => xs.length - j) (fun _ _ => ⟨rfl, rfl⟩) 0 ⟨Nat.zero_le _, fun i hi => absurd hi (Nat.not_lt_zero _)⟩ (le_of rfl (by try (refine sim ?_; try exact trivial); try simp) ⟨_, rfl⟩ ⟨_, rfl⟩) (fun j ⟨hj, he⟩ => ?_)
    by_cases hlt : j < xs.length
    · by_cases hx : nth xs j = nth ys j
      · have e2 : ∀ i, i < j + 1 → nth xs i = nth ys i := fun i hi => by
          rcases Nat.lt_or_eq_of_le (Nat.le_of_lt_succ hi) with h | rfl
          · exact he i h
          · exact hx
        (refine sim ?_; try exact trivial)
        repeat' (first | refine st1 ?_ | ((first | refine abs_region fun K hK => ?_ | refine abs_draw Tryz.ty.mixed (by kernel_rfl) fun K hK => ?_ | refine abs_if ?_ | show retQ _ _ _ _ _); (refine sim ?_; try exact trivial)) | ((first | (refine hK _ ?_; clear hK K) | show thenQ _ _ _ _ | show blockQ _ _ _ _ | show noGoQ _ _ _); refine qst ?_) | (intro hg; try exact fin2) | apply And.intro | exact fin | fail)
        all_goals exact ⟨j + 1, ⟨by omega, e2⟩, by omega, le_of rfl (by try (refine sim ?_; try exact trivial); try simp) ⟨_, rfl⟩ ⟨_, rfl⟩⟩
      · rw [show decide (xs = ys) = false from decide_eq_false (fun e => hx (by rw [e]))]
        (refine sim ?_; try exact trivial)
        repeat' (first | refine st1 ?_ | ((first | refine abs_region fun K hK => ?_ | refine abs_draw Tryz.ty.mixed (by kernel_rfl) fun K hK => ?_ | refine abs_if ?_ | show retQ _ _ _ _ _); (refine sim ?_; try exact trivial)) | ((first | (refine hK _ ?_; clear hK K) | show thenQ _ _ _ _ | show blockQ _ _ _ _ | show noGoQ _ _ _); refine qst ?_) | (intro hg; try exact fin2) | apply And.intro | exact fin | fail)
        all_goals rfl
    · obtain rfl : j = xs.length := by omega
      have e3 : xs = ys := List.ext_getElem hl fun i h3 h4 => by
        have := he i h3
        rwa [nth_eq xs i h3, nth_eq ys i h4] at this
      rw [show decide (xs = ys) = true from decide_eq_true e3]
      (refine sim ?_; try exact trivial)
      repeat' (first | refine st1 ?_ | ((first | refine abs_region fun K hK => ?_ | refine abs_draw Tryz.ty.mixed (by kernel_rfl) fun K hK => ?_ | refine abs_if ?_ | show retQ _ _ _ _ _); (refine sim ?_; try exact trivial)) | ((first | (refine hK _ ?_; clear hK K) | show thenQ _ _ _ _ | show blockQ _ _ _ _ | show noGoQ _ _ _); refine qst ?_) | (intro hg; try exact fin2) | apply And.intro | exact fin | fail)
      all_goals rfl
  · rw [show decide (xs = ys) = false from decide_eq_false (fun e => hl (by rw [e]))]
    refine calls_abs Tryz.func26 Tryz.ntmps26 Tryz.results26 Tryz.call26 rfl (by simp) fun w0 S0 M0 => ?_
    repeat' (first | refine st1 ?_ | ((first | refine abs_region fun K hK => ?_ | refine abs_draw Tryz.ty.mixed (by kernel_rfl) fun K hK => ?_ | refine abs_if ?_ | show retQ _ _ _ _ _); (refine sim ?_; try exact trivial)) | ((first | (refine hK _ ?_; clear hK K) | show thenQ _ _ _ _ | show blockQ _ _ _ _ | show noGoQ _ _ _); refine qst ?_) | (intro hg; try exact fin2) | apply And.intro | exact fin | fail)
    all_goals rfl
def dys (L : List Int) : Nat → List (Int × Int)
  | 0 => []
  | k + 1 => dys L k ++ [(nth L (2 * k), nth L (2 * k + 1))]
theorem dys_len (L : List Int) : ∀ k, (dys L k).length = k
  | 0 => rfl
  | k + 1 => by simp [dys, dys_len L k]
set_option maxRecDepth 100000 in
set_option maxHeartbeats 4000000 in
theorem days_ok (L : List Int) (m : Nat) (hm : L.length = 2 * m) (hn : m ≤ 50) : CallsTo Tryz.prog 71 [ints L] (wpsD (dys L m)) := by
  refine calls_abs Tryz.func71 Tryz.ntmps71 Tryz.results71 Tryz.call71 rfl (by simp) fun w0 S0 M0 => ?_
  repeat' (first | refine st1 ?_ | ((first | refine abs_region fun K hK => ?_ | refine abs_draw Tryz.ty.mixed (by kernel_rfl) fun K hK => ?_ | refine abs_if ?_ | show retQ _ _ _ _ _); (refine sim ?_; try exact trivial)) | ((first | (refine hK _ ?_; clear hK K) | show thenQ _ _ _ _ | show blockQ _ _ _ _ | show noGoQ _ _ _); refine qst ?_) | (intro hg; try exact fin2) | apply And.intro | exact fin | fail)
  refine abs_adopt 3 35 2 rfl ?_
  refine abs_loopN (ι := Nat) (fun k => [(0, ints L), (3, .own 0), (4, i64 (2 * k : Nat))]) (fun _ => []) (fun k => [⟨true, 35, 2, (dys L k).map wpD⟩]) (fun k => k ≤ m) (fun k => m - k) (fun _ _ => ⟨rfl, rfl⟩) 0 (Nat.zero_le _) (le_of rfl (by try (refine sim ?_; try exact trivial); try simp [dys]) ⟨_, rfl⟩ ⟨_, rfl⟩) (fun k hk => ?_)
  have hdl := dys_len L k
  have hX : ((2 * k : Nat) : Int) + 1 = ((2 * k + 1 : Nat) : Int) := rfl
  have hY : ((2 * k : Nat) : Int) + 2 = ((2 * (k + 1) : Nat) : Int) := by omega
  by_cases hlt : k < m
  · (refine withX (And.intro @hX (@hY)) fun hX => ?_; refine simh ?_; clear hX; try exact trivial)
    repeat' (first | refine st1 ?_ | ((first | (show Abs _ (.region 5 _ true) _ _; refine abs_drawX [] [] Tryz.ty.mixed (by kernel_rfl) fun K hK => ?_) | show Sep _ _ | show Bxs _ _ | refine abs_region fun K hK => ?_ | refine abs_draw Tryz.ty.mixed (by kernel_rfl) fun K hK => ?_ | refine abs_if ?_ | show retQ _ _ _ _ _); (refine withX (And.intro @hX (@hY)) fun hX => ?_; refine simh ?_; clear hX; try exact trivial)) | ((first | (refine hK _ ?_; clear hK K) | show thenQ _ _ _ _ | show blockQ _ _ _ _ | show noGoQ _ _ _); refine qst ?_) | (intro hg; try exact fin2) | apply And.intro | exact fin | fail)
    all_goals exact ⟨k + 1, by omega, by omega, le_of rfl (by try (refine withX (And.intro @hX (@hY)) fun hX => ?_; refine simh ?_; clear hX; try exact trivial); try simp) ⟨_, rfl⟩ ⟨[], by simp [dys]⟩⟩
  · obtain rfl : k = m := by omega
    (refine withX (And.intro @hX (@hY)) fun hX => ?_; refine simh ?_; clear hX; try exact trivial)
    repeat' (first | refine st1 ?_ | ((first | refine abs_region fun K hK => ?_ | refine abs_draw Tryz.ty.mixed (by kernel_rfl) fun K hK => ?_ | refine abs_if ?_ | show retQ _ _ _ _ _); (refine withX (And.intro @hX (@hY)) fun hX => ?_; refine simh ?_; clear hX; try exact trivial)) | ((first | (refine hK _ ?_; clear hK K) | show thenQ _ _ _ _ | show blockQ _ _ _ _ | show noGoQ _ _ _); refine qst ?_) | (intro hg; try exact fin2) | apply And.intro | exact fin | fail)
    all_goals rfl
end Go.Proofs.YtmnepfejoneghaaGreatDoor
namespace Go.Proofs.YtmnepfejoneghaaGreatDoor
open Go.Ab
attribute [local irreducible] Abs CallK CallR CallsTo CallsB IA
def S3 : List (Int × Int) := [(1, 5), (2, 9), (1, 12)]
def R3 : List (List (Int × Int)) := [[(0, 0), (2, 3), (3, 4), (4, 6)], [(2, 3), (0, 0), (2, 2), (3, 4)], [(3, 4), (2, 2), (0, 0), (1, 2)], [(4, 6), (3, 4), (1, 2), (0, 0)]]
theorem S3_ok : WRd S3 R3 where
  n := by decide
  r := by decide
  s := by
    intro i hi
    match i, hi with
    | 0, _ => decide
    | 1, _ => decide
    | 2, _ => decide
  l := by
    intro i hi
    match i, hi with
    | 0, _ => decide
    | 1, _ => decide
    | 2, _ => decide
    | 3, _ => decide
  o := by
    have h : ∀ i : Fin 4, ∀ j : Fin 4, 0 ≤ (nth (nth R3 i.1) j.1).1 ∧ (nth (nth R3 i.1) j.1).1 ≤ (nth (nth R3 i.1) j.1).2 ∧ (nth (nth R3 i.1) j.1).2 ≤ 60 := by decide
    intro i hi j hj
    exact h ⟨i, hi⟩ ⟨j, hj⟩
set_option maxRecDepth 100000 in
set_option maxHeartbeats 4000000 in
theorem Round_ok : CallsTo Tryz.prog 25 [] (.agg (wrC S3 R3)) := by
  have c1 : CallsTo Tryz.prog 71 [ints [0, 0, 2, 3, 3, 4, 4, 6]] (wpsD [(0, 0), (2, 3), (3, 4), (4, 6)]) := days_ok _ 4 rfl (by decide)
  have c2 : CallsTo Tryz.prog 71 [ints [2, 3, 0, 0, 2, 2, 3, 4]] (wpsD [(2, 3), (0, 0), (2, 2), (3, 4)]) := days_ok _ 4 rfl (by decide)
  have c3 : CallsTo Tryz.prog 71 [ints [3, 4, 2, 2, 0, 0, 1, 2]] (wpsD [(3, 4), (2, 2), (0, 0), (1, 2)]) := days_ok _ 4 rfl (by decide)
  have c4 : CallsTo Tryz.prog 71 [ints [4, 6, 3, 4, 1, 2, 0, 0]] (wpsD [(4, 6), (3, 4), (1, 2), (0, 0)]) := days_ok _ 4 rfl (by decide)
  refine calls_abs Tryz.func25 Tryz.ntmps25 Tryz.results25 Tryz.call25 rfl (by simp) fun w0 S0 M0 => ?_
  repeat' (first | refine st1 ?_ | ((first | refine abs_region fun K hK => ?_ | refine abs_draw Tryz.ty.mixed (by kernel_rfl) fun K hK => ?_ | refine abs_if ?_ | show retQ _ _ _ _ _ | refine callK (c1) ?_ | refine callK (c2) ?_ | refine callK (c3) ?_ | refine callK (c4) ?_); (refine sim ?_; try exact trivial)) | ((first | (refine hK _ ?_; clear hK K) | show thenQ _ _ _ _ | show blockQ _ _ _ _ | show noGoQ _ _ _); refine qst ?_) | (intro hg; try exact fin2) | apply And.intro | exact fin | fail)
  all_goals rfl
end Go.Proofs.YtmnepfejoneghaaGreatDoor
namespace Go.Proofs.YtmnepfejoneghaaGreatDoor
open Go.Ab
attribute [local irreducible] Abs CallK CallR CallsTo CallsB IA
abbrev ownL : List Int := [3, 1, 4, 1, 5, 9]
abbrev papL : List Int := [3, 1, 4, 1, 5, 2]
set_option maxRecDepth 100000 in
set_option maxHeartbeats 4000000 in
theorem L_ok : CallsTo Tryz.prog 23 [] (.agg (logC 1000 ownL papL)) := by
  refine calls_abs Tryz.func23 Tryz.ntmps23 Tryz.results23 Tryz.call23 rfl (by simp) fun w0 S0 M0 => ?_
  repeat' (first | refine st1 ?_ | ((first | refine abs_region fun K hK => ?_ | refine abs_draw Tryz.ty.mixed (by kernel_rfl) fun K hK => ?_ | refine abs_if ?_ | show retQ _ _ _ _ _); (refine sim ?_; try exact trivial)) | ((first | (refine hK _ ?_; clear hK K) | show thenQ _ _ _ _ | show blockQ _ _ _ _ | show noGoQ _ _ _); refine qst ?_) | (intro hg; try exact fin2) | apply And.intro | exact fin | fail)
  all_goals rfl
theorem L_log : LogOk 1000 ownL papL where
  o := by decide
  l := rfl
  n := by decide
  a := by
    have h : ∀ i : Fin 6, 0 ≤ nth ownL i.1 ∧ nth ownL i.1 ≤ 9 := by decide
    exact fun i hi => h ⟨i, hi⟩
  b := by
    have h : ∀ i : Fin 6, 0 ≤ nth papL i.1 ∧ nth papL i.1 ≤ 9 := by decide
    exact fun i hi => h ⟨i, hi⟩
theorem known5b : CallsTo Tryz.prog 11 [.agg (logC 1000 ownL papL)] (.tup [i64 3, i64 0]) := by
  have := wjudge_ok 1000 ownL papL L_log 5 2 (by decide +kernel) (by decide +kernel)
  rwa [show vdN ownL.length 1000 5 2 = 3 by decide +kernel] at this
set_option maxRecDepth 100000 in
set_option maxHeartbeats 4000000 in
theorem rin_ok (x lo hi : Int) : CallsTo Tryz.prog 14 [i64 x, i64 lo, i64 hi] (.bool (decide (lo ≤ x ∧ x ≤ hi))) := by
  refine calls_abs Tryz.func14 Tryz.ntmps14 Tryz.results14 Tryz.call14 rfl (by simp) fun w0 S0 M0 => ?_
  repeat' (first | refine st1 ?_ | ((first | refine abs_region fun K hK => ?_ | refine abs_draw Tryz.ty.mixed (by kernel_rfl) fun K hK => ?_ | refine abs_if ?_ | show retQ _ _ _ _ _); (refine sim ?_; try exact trivial)) | ((first | (refine hK _ ?_; clear hK K) | show thenQ _ _ _ _ | show blockQ _ _ _ _ | show noGoQ _ _ _); refine qst ?_) | (intro hg; try exact fin2) | apply And.intro | exact fin | fail)
  all_goals (refine boolD ?_; simp only [decide_eq_true_eq, Bool.false_eq_true, false_iff, iff_false, true_iff, iff_true]; omega)
set_option maxRecDepth 100000 in
set_option maxHeartbeats 4000000 in
theorem odds_ok (o : Int) : CallsTo Tryz.prog 5 [i64 o] (.bool (decide (1 ≤ o ∧ o ≤ 1000000))) := by
  have c1 := rin_ok o 1 1000000
  refine calls_abs Tryz.func5 Tryz.ntmps5 Tryz.results5 Tryz.call5 rfl (by simp) fun w0 S0 M0 => ?_
  repeat' (first | refine st1 ?_ | ((first | refine abs_region fun K hK => ?_ | refine abs_draw Tryz.ty.mixed (by kernel_rfl) fun K hK => ?_ | refine abs_if ?_ | show retQ _ _ _ _ _ | refine callK (c1) ?_); (refine sim ?_; try exact trivial)) | ((first | (refine hK _ ?_; clear hK K) | show thenQ _ _ _ _ | show blockQ _ _ _ _ | show noGoQ _ _ _); refine qst ?_) | (intro hg; try exact fin2) | apply And.intro | exact fin | fail)
  all_goals rfl
end Go.Proofs.YtmnepfejoneghaaGreatDoor
namespace Go.Proofs.YtmnepfejoneghaaGreatDoor
open Go.Ab
attribute [local irreducible] Abs CallK CallR CallsTo CallsB IA PI.CallsE
def isStructB : Option TypeDesc → Bool
  | some (.struct _) => true
  | _ => false
theorem u204 : ∃ fs, Tryz.prog.underlying 204 = some (.struct fs) := by
  have h : isStructB (Tryz.prog.underlying 204) = true := by kernel_rfl
  generalize Tryz.prog.underlying 204 = u at h ⊢
  unfold isStructB at h
  split at h
  · exact ⟨_, rfl⟩
  · cases h
/-- The legs of an order at their most; is each station reached in time, among the first? -/
def wlg (R : List (List (Int × Int))) (o : List Nat) : List Int := (wrds R o o.length).map (·.2)
def wInT (S : List (Int × Int)) (R : List (List (Int × Int))) (o : List Nat) (i : Nat) : Prop := nth (warr S o (wlg R o) o.length) i ≤ (nth S (nth o i)).2
theorem wlg_len (R : List (List (Int × Int))) (o : List Nat) : (wlg R o).length = o.length := by simp [wlg, wrds_len]
theorem wrds_ok {S : List (Int × Int)} {R : List (List (Int × Int))} (h : WRd S R) {o : List Nat} (ho : WOrd S o) : ∀ k, k ≤ o.length → ∀ x ∈ wrds R o k, WSp x
  | 0, _, x, hx => by simp [wrds] at hx
  | k + 1, hk, x, hx => by
    simp only [wrds, List.mem_append, List.mem_singleton] at hx
    rcases hx with hx | rfl
    · exact wrds_ok h ho k (by omega) x hx
    · exact h.o _ (wfrm_lt h ho k (by omega)) _ (by have := h.r; have := ho.n k (by omega); omega)
theorem wlg_bd {S : List (Int × Int)} {R : List (List (Int × Int))} (h : WRd S R) {o : List Nat} (ho : WOrd S o) (i : Nat) (hi : i < o.length) : 0 ≤ nth (wlg R o) i ∧ nth (wlg R o) i ≤ 60 := by
  have hl : i < (wlg R o).length := by rw [wlg_len]; exact hi
  rw [nth_eq _ i hl]
  have hm := List.getElem_mem hl
  obtain ⟨x, hx, e⟩ := List.mem_map.1 hm
  have := wrds_ok h ho _ (Nat.le_refl _) x hx
  unfold WSp at this
  rw [← e]; exact ⟨by omega, by omega⟩
set_option maxRecDepth 100000 in
set_option maxHeartbeats 4000000 in
theorem must_ok (S : List (Int × Int)) (R : List (List (Int × Int))) (h : WRd S R) (o : List Nat) (ho : WOrd S o) (res : Option D)
    (hres : (res = some (i64 (wday S o (wlg R o) o.length)) ∧ ∀ i, i < o.length → wInT S R o i) ∨ (res = none ∧ ∃ i, i < o.length ∧ ¬ wInT S R o i)) : PI.CallsE Tryz.prog 113 [.agg (wrC S R), ntD o] 204 res := by
  have hn := h.n
  have hl2 := ho.l
  have c1 := wends_ok S R h o ho
  have c2 := wtravel_ok S R h o ho (wlg R o) (wlg_len R o) (fun i hi => wlg_bd h ho i hi)
  have hal := warr_len S o (wlg R o) o.length
  rw [show (wrds R o o.length).map (·.2) = wlg R o from rfl] at c1
  obtain ⟨fs, h204⟩ := u204
  refine PI.callsE_abs Tryz.func113 Tryz.ntmps113 Tryz.results113 Tryz.call113 rfl (by simp) fun w0 S0 M0 => ?_
  repeat' (first | refine st1 ?_ | ((first | refine abs_region fun K hK => ?_ | refine abs_draw Tryz.ty.mixed (by kernel_rfl) fun K hK => ?_ | refine abs_if ?_ | show retQ _ _ _ _ _ | refine callK (c1) ?_ | refine callK (c2) ?_); (refine sim ?_; try exact trivial)) | ((first | (refine hK _ ?_; clear hK K) | show thenQ _ _ _ _ | show blockQ _ _ _ _ | show noGoQ _ _ _); refine qst ?_) | (intro hg; try exact fin2) | apply And.intro | exact fin | fail)
  refine abs_loopN (ι := Nat) (fun j => [(1, ntD o), (2, .box 0 0), (7, i64 (wday S o (wlg R o) o.length)), (21, ints (warr S o (wlg R o) o.length)), (22, i64 (o.length : Nat)), (23, i64 j)]) (fun _ => [.mu (wrC S R)]) (fun _ => []) (fun j => j ≤ o.length ∧ ∀ i, i < j → wInT S R o i) (fun j => o.length - j) (fun _ _ => ⟨rfl, rfl⟩) 0 ⟨Nat.zero_le _, fun i hi => absurd hi (Nat.not_lt_zero _)⟩ (le_of rfl (by try (refine sim ?_; try exact trivial); try simp [hal]) ⟨_, rfl⟩ ⟨_, rfl⟩) (fun j ⟨hj, hin⟩ => ?_)
  by_cases hlt : j < o.length
  · have f2 := ho.n j hlt
    by_cases hx : wInT S R o j
    · have hx' := hx
      unfold wInT at hx'
      have hin2 : ∀ i, i < j + 1 → wInT S R o i := fun i hi => by
        rcases Nat.lt_or_eq_of_le (Nat.le_of_lt_succ hi) with h | rfl
        · exact hin i h
        · exact hx
      (refine sim ?_; try exact trivial)
      repeat' (first | refine st1 ?_ | ((first | refine abs_region fun K hK => ?_ | refine abs_draw Tryz.ty.mixed (by kernel_rfl) fun K hK => ?_ | refine abs_if ?_ | show retQ _ _ _ _ _); (refine sim ?_; try exact trivial)) | ((first | (refine hK _ ?_; clear hK K) | show thenQ _ _ _ _ | show blockQ _ _ _ _ | show noGoQ _ _ _); refine qst ?_) | (intro hg; try exact fin2) | apply And.intro | exact fin | fail)
      all_goals exact ⟨j + 1, ⟨by omega, hin2⟩, by omega, le_of rfl (by try (refine sim ?_; try exact trivial); try simp) ⟨_, rfl⟩ ⟨_, rfl⟩⟩
    · obtain rfl : res = none := by
        rcases hres with ⟨_, h2⟩ | ⟨h2, _⟩
        · exact absurd (h2 j hlt) hx
        · exact h2
      have hx' := hx
      unfold wInT at hx'
      (refine sim ?_; try exact trivial)
      repeat' (first | (refine PI.abs_panic (x := (nth o j : Nat)) 5 rfl h204 (fun K1 hK1 => ?_); (refine sim ?_; try exact trivial)) | refine st1 ?_ | ((first | refine abs_region fun K hK => ?_ | refine abs_draw Tryz.ty.mixed (by kernel_rfl) fun K hK => ?_ | refine abs_if ?_ | show retQ _ _ _ _ _); (refine sim ?_; try exact trivial)) | ((first | (refine hK _ ?_; clear hK K) | show thenQ _ _ _ _ | show blockQ _ _ _ _ | show noGoQ _ _ _); refine qst ?_) | (intro hg; try exact fin2) | apply And.intro | exact fin | fail)
      exact hK1 _ rfl (by show 44 < 47; decide) (fun s2 => ⟨rfl, _, rfl⟩)
  · obtain rfl : j = o.length := by omega
    obtain rfl : res = some (i64 (wday S o (wlg R o) o.length)) := by
      rcases hres with ⟨h2, _⟩ | ⟨_, i, h2, h3⟩
      · exact h2
      · exact absurd (hin i h2) h3
    (refine sim ?_; try exact trivial)
    repeat' (first | refine st1 ?_ | ((first | refine abs_region fun K hK => ?_ | refine abs_draw Tryz.ty.mixed (by kernel_rfl) fun K hK => ?_ | refine abs_if ?_ | show retQ _ _ _ _ _); (refine sim ?_; try exact trivial)) | ((first | (refine hK _ ?_; clear hK K) | show thenQ _ _ _ _ | show blockQ _ _ _ _ | show noGoQ _ _ _); refine qst ?_) | (refine PI.ende_ret ?_) | (refine PI.ende_normal ?_) | (intro hg; try exact fin2) | apply And.intro | exact fin | fail)
    all_goals first | rfl | trace_state
end Go.Proofs.YtmnepfejoneghaaGreatDoor
