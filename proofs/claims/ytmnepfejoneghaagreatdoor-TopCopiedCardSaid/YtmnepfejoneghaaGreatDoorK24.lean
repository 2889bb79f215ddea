import Derived.Test.YtmnepfejoneghaaGreatDoorK23
set_option linter.unusedVariables false
set_option linter.unusedSimpArgs false
namespace Go.Proofs.YtmnepfejoneghaaGreatDoor
open Go.Ab Go.Watch
attribute [local irreducible] Abs CallK CallR CallsTo CallsB IA
set_option maxRecDepth 100000 in
set_option maxHeartbeats 4000000 in
theorem first_ok (last : Nat) (hl : last ≤ 1000) (f : FuncId) (cs : List D) (p : Nat → Bool) (hcs : Cl cs) (hp : ∀ n, n ≤ last → CallsTo Tryz.prog f (i64 n :: cs) (.bool (p n))) : CallsTo Tryz.prog 38 [i64 last, .clo f cs] (i64 (firstN p (last + 1) 0)) := by
  have key : ∀ k, k ≤ last + 1 → (∀ i, i < k → p i = false) → firstN p (last + 1) 0 = firstN p (last + 1 - k) k := by
    intro k
    induction k with
    | zero => intros; rfl
    | succ k ih =>
      intro hk h
      rw [ih (by omega) (fun i hi => h i (by omega)), show last + 1 - k = (last + 1 - (k + 1)) + 1 by omega]
      simp only [firstN]
      rw [if_neg (by rw [h k (by omega)]; decide)]
  refine calls_abs Tryz.func38 Tryz.ntmps38 Tryz.results38 Tryz.call38 rfl (by simp) fun w0 S0 M0 => ?_
  repeat' (first | refine st1 ?_ | ((first | refine abs_region fun K hK => ?_ | refine abs_draw Tryz.ty.mixed (by kernel_rfl) fun K hK => ?_ | refine abs_if ?_ | show retQ _ _ _ _ _); (refine sim ?_; try exact trivial)) | ((first | (refine hK _ ?_; clear hK K) | show thenQ _ _ _ _ | show blockQ _ _ _ _ | show noGoQ _ _ _); refine qst ?_) | (intro hg; try exact fin2) | apply And.intro | exact fin | fail)
  refine abs_loopN (ι := Nat) (fun k => [(0, i64 last), (1, .clo f cs), (7, i64 ((last : Int) + 1)), (8, i64 k)]) (fun _ => []) (fun _ => []) (fun k => k ≤ last + 1 ∧ ∀ i, i < k → p i = false) (fun k => last + 1 - k) (fun _ _ => ⟨by simp [namesB, hcs.names], rfl⟩) 0 ⟨by omega, fun i h => absurd h (Nat.not_lt_zero i)⟩ (le_of rfl (by try (refine sim ?_; try exact trivial); try simp) ⟨_, rfl⟩ ⟨_, rfl⟩) (fun k ⟨hk, hpk⟩ => ?_)
  have hkk := key k hk hpk
  by_cases hlt : k < last + 1
  · have hc := hp k (by omega)
    have hcs1 := hcs.1
    cases hpp : p k with
    | true =>
      rw [hpp] at hc
      have e : firstN p (last + 1) 0 = k := by rw [hkk, show last + 1 - k = (last - k) + 1 by omega]; simp only [firstN]; rw [if_pos hpp]
      rw [e]
      (refine withX (And.intro @hcs.1 (@hcs.2)) fun hX => ?_; refine simh ?_; clear hX; try exact trivial)
      repeat' (first | refine st1 ?_ | ((first | refine abs_region fun K hK => ?_ | refine abs_draw Tryz.ty.mixed (by kernel_rfl) fun K hK => ?_ | refine abs_if ?_ | show retQ _ _ _ _ _ | refine callK (hc) ?_); (refine withX (And.intro @hcs.1 (@hcs.2)) fun hX => ?_; refine simh ?_; clear hX; try exact trivial)) | ((first | (refine hK _ ?_; clear hK K) | show thenQ _ _ _ _ | show blockQ _ _ _ _ | show noGoQ _ _ _); refine qst ?_) | (intro hg; try exact fin2) | apply And.intro | exact fin | fail)
      all_goals skip
    | false =>
      rw [hpp] at hc
      (refine withX (And.intro @hcs.1 (@hcs.2)) fun hX => ?_; refine simh ?_; clear hX; try exact trivial)
      repeat' (first | refine st1 ?_ | ((first | refine abs_region fun K hK => ?_ | refine abs_draw Tryz.ty.mixed (by kernel_rfl) fun K hK => ?_ | refine abs_if ?_ | show retQ _ _ _ _ _ | refine callK (hc) ?_); (refine withX (And.intro @hcs.1 (@hcs.2)) fun hX => ?_; refine simh ?_; clear hX; try exact trivial)) | ((first | (refine hK _ ?_; clear hK K) | show thenQ _ _ _ _ | show blockQ _ _ _ _ | show noGoQ _ _ _); refine qst ?_) | (intro hg; try exact fin2) | apply And.intro | exact fin | fail)
      all_goals exact ⟨k + 1, ⟨by omega, fun i hi => by
        by_cases e : i = k
        · subst e; exact hpp
        · exact hpk i (by omega)⟩, by omega, le_of rfl (by try (refine withX (And.intro @hcs.1 (@hcs.2)) fun hX => ?_; refine simh ?_; clear hX; try exact trivial); try simp) ⟨_, rfl⟩ ⟨_, rfl⟩⟩
  · obtain rfl : k = last + 1 := by omega
    have e : firstN p (last + 1) 0 = last + 1 := by rw [hkk, Nat.sub_self]; rfl
    rw [e]
    (refine sim ?_; try exact trivial)
    repeat' (first | refine st1 ?_ | ((first | refine abs_region fun K hK => ?_ | refine abs_draw Tryz.ty.mixed (by kernel_rfl) fun K hK => ?_ | refine abs_if ?_ | show retQ _ _ _ _ _); (refine sim ?_; try exact trivial)) | ((first | (refine hK _ ?_; clear hK K) | show thenQ _ _ _ _ | show blockQ _ _ _ _ | show noGoQ _ _ _); refine qst ?_) | (intro hg; try exact fin2) | apply And.intro | exact fin | fail)
    all_goals first | omega | (congr 1) | skip
set_option maxRecDepth 100000 in
set_option maxHeartbeats 4000000 in
theorem tests_ok (d : Int) : CallsTo Tryz.prog 34 [lsD 10 d] (.agg [.mth 79 [lsD 10 d], .mth 80 [lsD 10 d]]) := by
  refine calls_abs Tryz.func34 Tryz.ntmps34 Tryz.results34 Tryz.call34 rfl (by simp) fun w0 S0 M0 => ?_
  repeat' (first | refine st1 ?_ | ((first | refine abs_region fun K hK => ?_ | refine abs_draw Tryz.ty.mixed (by kernel_rfl) fun K hK => ?_ | refine abs_if ?_ | show retQ _ _ _ _ _); (refine sim ?_; try exact trivial)) | ((first | (refine hK _ ?_; clear hK K) | show thenQ _ _ _ _ | show blockQ _ _ _ _ | show noGoQ _ _ _); refine qst ?_) | (intro hg; try exact fin2) | apply And.intro | exact fin | fail)
  all_goals rfl
set_option maxRecDepth 100000 in
set_option maxHeartbeats 4000000 in
theorem wdef_ok (d : Int) (hd : 0 ≤ d ∧ d ≤ 18) : CallsTo Tryz.prog 36 [i64 10, i64 d] (.bool true) := by
  have h1 : CallsTo Tryz.prog 37 [i64 10, i64 2, i64 10] (.bool true) := win_ok 10 2 10
  have h2 : CallsTo Tryz.prog 37 [i64 d, i64 0, i64 18] (.bool true) := by have := win_ok d 0 18; rwa [decide_eq_true hd] at this
  refine calls_abs Tryz.func36 Tryz.ntmps36 Tryz.results36 Tryz.call36 rfl (by simp) fun w0 S0 M0 => ?_
  repeat' (first | refine st1 ?_ | ((first | refine abs_region fun K hK => ?_ | refine abs_draw Tryz.ty.mixed (by kernel_rfl) fun K hK => ?_ | refine abs_if ?_ | show retQ _ _ _ _ _ | refine callK (h1) ?_ | refine callK (h2) ?_); (refine sim ?_; try exact trivial)) | ((first | (refine hK _ ?_; clear hK K) | show thenQ _ _ _ _ | show blockQ _ _ _ _ | show noGoQ _ _ _); refine qst ?_) | (intro hg; try exact fin2) | apply And.intro | exact fin | fail)
  all_goals rfl
/-- What convicts, by a chance. -/
def exB (d : Nat) (o c : Int) : Bool := decide (c ≤ 10 ^ d / (2 * o))
abbrev needN (d : Nat) (o : Int) : Nat := firstN (fun n => exB d o (ag d n)) (d + 1) 0
abbrev needF (d : Nat) (o : Int) : Nat := firstN (fun n => exB d o (10 ^ d - fv n 10 d)) (d + 1) 0
set_option maxRecDepth 100000 in
set_option maxHeartbeats 4000000 in
theorem need1a_ok (d : Nat) (hd : d ≤ 18) (o : Int) (ho : 1 ≤ o ∧ o ≤ 1000000) (n : Nat) (hn : n ≤ 18) : CallsTo Tryz.prog 39 [i64 n, .ro [.mth 79 [lsD 10 d]], .ro [i64 10, i64 d], .ro [i64 o]] (.bool (exB d o (ag d n))) := by
  have h1 := agree_ok d n hd (by omega)
  have h2 := excl_ok d hd (ag d n) o ho
  refine calls_abs Tryz.func39 Tryz.ntmps39 Tryz.results39 Tryz.call39 rfl (by simp) fun w0 S0 M0 => ?_
  repeat' (first | refine st1 ?_ | ((first | refine abs_region fun K hK => ?_ | refine abs_draw Tryz.ty.mixed (by kernel_rfl) fun K hK => ?_ | refine abs_if ?_ | show retQ _ _ _ _ _ | refine callK (h1) ?_ | refine callK (h2) ?_); (refine sim ?_; try exact trivial)) | ((first | (refine hK _ ?_; clear hK K) | show thenQ _ _ _ _ | show blockQ _ _ _ _ | show noGoQ _ _ _); refine qst ?_) | (intro hg; try exact fin2) | apply And.intro | exact fin | fail)
  all_goals rfl
set_option maxRecDepth 100000 in
set_option maxHeartbeats 4000000 in
theorem need1b_ok (d : Nat) (hd : d ≤ 18) (o : Int) (ho : 1 ≤ o ∧ o ≤ 1000000) (n : Nat) (hn : n ≤ 18) : CallsTo Tryz.prog 39 [i64 n, .ro [.mth 80 [lsD 10 d]], .ro [i64 10, i64 d], .ro [i64 o]] (.bool (exB d o (10 ^ d - fv n 10 d))) := by
  have h1 := favour_ok d n hd (by omega)
  have h2 := excl_ok d hd (10 ^ d - fv n 10 d) o ho
  refine calls_abs Tryz.func39 Tryz.ntmps39 Tryz.results39 Tryz.call39 rfl (by simp) fun w0 S0 M0 => ?_
  repeat' (first | refine st1 ?_ | ((first | refine abs_region fun K hK => ?_ | refine abs_draw Tryz.ty.mixed (by kernel_rfl) fun K hK => ?_ | refine abs_if ?_ | show retQ _ _ _ _ _ | refine callK (h1) ?_ | refine callK (h2) ?_); (refine sim ?_; try exact trivial)) | ((first | (refine hK _ ?_; clear hK K) | show thenQ _ _ _ _ | show blockQ _ _ _ _ | show noGoQ _ _ _); refine qst ?_) | (intro hg; try exact fin2) | apply And.intro | exact fin | fail)
  all_goals rfl
end Go.Proofs.YtmnepfejoneghaaGreatDoor
namespace Go.Proofs.YtmnepfejoneghaaGreatDoor
open Go.Ab Go.Watch
attribute [local irreducible] Abs CallK CallR CallsTo CallsB IA
def outN (d : Nat) (o : Int) : Nat → List D
  | 0 => [i64 0, i64 0]
  | 1 => [i64 (needN d o), i64 0]
  | _ => [i64 (needN d o), i64 (needF d o)]
set_option maxRecDepth 100000 in
set_option maxHeartbeats 4000000 in
theorem need_ok (d : Nat) (hd : d ≤ 18) (o : Int) (ho : 1 ≤ o ∧ o ≤ 1000000) : CallsTo Tryz.prog 12 [i64 10, i64 d, i64 o] (.tup [i64 (needN d o), i64 (needF d o), i64 0]) := by
  have h1 := wdef_ok d (by omega)
  have h2 : CallsTo Tryz.prog 37 [i64 o, i64 1, i64 1000000] (.bool true) := by have := win_ok o 1 1000000; rwa [decide_eq_true ho] at this
  have h3 := tests_ok d
  have c1 := first_ok d (by omega) 39 [.ro [.mth 79 [lsD 10 d]], .ro [i64 10, i64 d], .ro [i64 o]] (fun n => exB d o (ag d n)) ⟨fun _ _ => rfl, fun _ _ => rfl⟩ (fun n hn => need1a_ok d hd o ho n (by omega))
  have c2 := first_ok d (by omega) 39 [.ro [.mth 80 [lsD 10 d]], .ro [i64 10, i64 d], .ro [i64 o]] (fun n => exB d o (10 ^ d - fv n 10 d)) ⟨fun _ _ => rfl, fun _ _ => rfl⟩ (fun n hn => need1b_ok d hd o ho n (by omega))
  refine calls_abs Tryz.func12 Tryz.ntmps12 Tryz.results12 Tryz.call12 rfl (by simp) fun w0 S0 M0 => ?_
  repeat' (first | (refine abs_freeze 0 _ _ rfl rfl ?_; simp only [basL, Nat.reduceAdd]) | (refine abs_freeze 1 _ _ rfl rfl ?_; simp only [basL, Nat.reduceAdd]) | refine st1 ?_ | ((first | refine abs_region fun K hK => ?_ | refine abs_draw Tryz.ty.mixed (by kernel_rfl) fun K hK => ?_ | refine abs_if ?_ | show retQ _ _ _ _ _ | refine callK (h1) ?_ | refine callK (h2) ?_ | refine callK (h3) ?_); (refine sim ?_; try exact trivial)) | ((first | (refine hK _ ?_; clear hK K) | show thenQ _ _ _ _ | show blockQ _ _ _ _ | show noGoQ _ _ _); refine qst ?_) | (intro hg; try exact fin2) | apply And.intro | exact fin | fail)
  refine abs_loopN (ι := Nat) (fun j => [(1, i64 d), (5, .box 0 0), (9, .box 1 0), (10, .box 2 0), (26, .agg [.mth 79 [lsD 10 d], .mth 80 [lsD 10 d]]), (27, i64 j)]) (fun j => [.fz [i64 o], .fz [i64 10, i64 d], .mu (outN d o j)]) (fun _ => [])
    (fun j => j ≤ 2) (fun j => 2 - j) (fun j hj => ⟨rfl, by match j, hj with | 0, _ => rfl | 1, _ => rfl | 2, _ => rfl⟩) 0 (by omega) (le_of rfl (by try (refine sim ?_; try exact trivial); try simp [outN]) ⟨_, rfl⟩ ⟨_, rfl⟩) (fun j hj => ?_)
  match j, hj with
  | 0, _ =>
    have e0 : outN d o 0 = [i64 0, i64 0] := rfl
    have e1 : outN d o 1 = [i64 (needN d o), i64 0] := rfl
    rw [e0]
    (refine withX (@Int.natCast_zero) fun hX => ?_; refine simh ?_; clear hX; try exact trivial)
    repeat' (first | (refine abs_freeze 3 _ _ rfl rfl ?_; simp only [basL, Nat.reduceAdd]) | refine st1 ?_ | ((first | refine abs_region fun K hK => ?_ | refine abs_draw Tryz.ty.mixed (by kernel_rfl) fun K hK => ?_ | refine abs_if ?_ | show retQ _ _ _ _ _ | refine callK (c1) ?_); (refine withX (@Int.natCast_zero) fun hX => ?_; refine simh ?_; clear hX; try exact trivial)) | ((first | (refine hK _ ?_; clear hK K) | show thenQ _ _ _ _ | show blockQ _ _ _ _ | show noGoQ _ _ _); refine qst ?_) | (intro hg; try exact fin2) | apply And.intro | exact fin | fail)
    exact ⟨1, by omega, by omega, le_of rfl (by try (refine withX (@Int.natCast_zero) fun hX => ?_; refine simh ?_; clear hX; try exact trivial); try simp) ⟨_, by rw [e1]; rfl⟩ ⟨_, rfl⟩⟩
  | 1, _ =>
    have e1 : outN d o 1 = [i64 (needN d o), i64 0] := rfl
    have e2 : outN d o 2 = [i64 (needN d o), i64 (needF d o)] := rfl
    rw [e1]
    (refine withX (@Int.natCast_one) fun hX => ?_; refine simh ?_; clear hX; try exact trivial)
    repeat' (first | (refine abs_freeze 3 _ _ rfl rfl ?_; simp only [basL, Nat.reduceAdd]) | refine st1 ?_ | ((first | refine abs_region fun K hK => ?_ | refine abs_draw Tryz.ty.mixed (by kernel_rfl) fun K hK => ?_ | refine abs_if ?_ | show retQ _ _ _ _ _ | refine callK (c2) ?_); (refine withX (@Int.natCast_one) fun hX => ?_; refine simh ?_; clear hX; try exact trivial)) | ((first | (refine hK _ ?_; clear hK K) | show thenQ _ _ _ _ | show blockQ _ _ _ _ | show noGoQ _ _ _); refine qst ?_) | (intro hg; try exact fin2) | apply And.intro | exact fin | fail)
    exact ⟨2, by omega, by omega, le_of rfl (by try (refine withX (@Int.natCast_one) fun hX => ?_; refine simh ?_; clear hX; try exact trivial); try simp) ⟨_, by rw [e2]; rfl⟩ ⟨_, rfl⟩⟩
  | 2, _ =>
    have e2 : outN d o 2 = [i64 (needN d o), i64 (needF d o)] := rfl
    rw [e2]
    (refine sim ?_; try exact trivial)
    repeat' (first | refine st1 ?_ | ((first | refine abs_region fun K hK => ?_ | refine abs_draw Tryz.ty.mixed (by kernel_rfl) fun K hK => ?_ | refine abs_if ?_ | show retQ _ _ _ _ _); (refine sim ?_; try exact trivial)) | ((first | (refine hK _ ?_; clear hK K) | show thenQ _ _ _ _ | show blockQ _ _ _ _ | show noGoQ _ _ _); refine qst ?_) | (intro hg; try exact fin2) | apply And.intro | exact fin | fail)
    all_goals rfl
/-- A log that is as defined, and in which all days count. -/
structure LogOk (o : Int) (own paper : List Int) : Prop where
  o : 1 ≤ o ∧ o ≤ 1000000
  l : own.length = paper.length
  n : own.length ≤ 18
  a : ∀ i, i < own.length → 0 ≤ nth own i ∧ nth own i ≤ 9
  b : ∀ i, i < own.length → 0 ≤ nth paper i ∧ nth paper i ≤ 9
abbrev logC (o : Int) (own paper : List Int) : List D := [i64 10, i64 o, ints own, ints paper]
set_option maxRecDepth 100000 in
set_option maxHeartbeats 4000000 in
theorem wvalid_ok (o : Int) (own paper : List Int) (h : LogOk o own paper) : CallsTo Tryz.prog 32 [.agg (logC o own paper)] (.bool true) := by
  obtain ⟨ho, hl, hn, ha, hb⟩ := h
  have h1 : CallsTo Tryz.prog 37 [i64 10, i64 2, i64 10] (.bool true) := win_ok 10 2 10
  have h2 : CallsTo Tryz.prog 37 [i64 o, i64 1, i64 1000000] (.bool true) := by have := win_ok o 1 1000000; rwa [decide_eq_true ho] at this
  refine calls_abs Tryz.func32 Tryz.ntmps32 Tryz.results32 Tryz.call32 rfl (by simp) fun w0 S0 M0 => ?_
  repeat' (first | refine st1 ?_ | ((first | refine abs_region fun K hK => ?_ | refine abs_draw Tryz.ty.mixed (by kernel_rfl) fun K hK => ?_ | refine abs_if ?_ | show retQ _ _ _ _ _ | refine callK (h1) ?_ | refine callK (h2) ?_); (refine sim ?_; try exact trivial)) | ((first | (refine hK _ ?_; clear hK K) | show thenQ _ _ _ _ | show blockQ _ _ _ _ | show noGoQ _ _ _); refine qst ?_) | (intro hg; try exact fin2) | apply And.intro | exact fin | fail)
  refine abs_loopN (ι := Nat) (fun j => [(1, .box 0 0), (31, ints own), (32, i64 own.length), (33, i64 j)]) (fun j => [.mu (logC o own paper)]) (fun _ => []) (fun j => j ≤ own.length) (fun j => own.length - j) (fun _ _ => ⟨rfl, rfl⟩) 0 (by omega) (le_of rfl (by try (refine sim ?_; try exact trivial); try simp) ⟨_, rfl⟩ ⟨_, rfl⟩) (fun j hj => ?_)
  by_cases hlt : j < own.length
  · have c1 : CallsTo Tryz.prog 37 [i64 (nth own j), i64 (-1), i64 9] (.bool true) := by have := win_ok (nth own j) (-1) 9; rwa [decide_eq_true (by have := ha j hlt; omega)] at this
    have c2 : CallsTo Tryz.prog 37 [i64 (nth paper j), i64 (-1), i64 9] (.bool true) := by have := win_ok (nth paper j) (-1) 9; rwa [decide_eq_true (by have := hb j hlt; omega)] at this
    (refine sim ?_; try exact trivial)
    repeat' (first | refine st1 ?_ | ((first | refine abs_region fun K hK => ?_ | refine abs_draw Tryz.ty.mixed (by kernel_rfl) fun K hK => ?_ | refine abs_if ?_ | show retQ _ _ _ _ _ | refine callK (c1) ?_ | refine callK (c2) ?_); (refine sim ?_; try exact trivial)) | ((first | (refine hK _ ?_; clear hK K) | show thenQ _ _ _ _ | show blockQ _ _ _ _ | show noGoQ _ _ _); refine qst ?_) | (intro hg; try exact fin2) | apply And.intro | exact fin | fail)
    all_goals exact ⟨j + 1, by omega, by omega, le_of rfl (by try (refine sim ?_; try exact trivial); try simp) ⟨_, rfl⟩ ⟨_, rfl⟩⟩
  · obtain rfl : j = own.length := by omega
    (refine sim ?_; try exact trivial)
    repeat' (first | refine st1 ?_ | ((first | refine abs_region fun K hK => ?_ | refine abs_draw Tryz.ty.mixed (by kernel_rfl) fun K hK => ?_ | refine abs_if ?_ | show retQ _ _ _ _ _); (refine sim ?_; try exact trivial)) | ((first | (refine hK _ ?_; clear hK K) | show thenQ _ _ _ _ | show blockQ _ _ _ _ | show noGoQ _ _ _); refine qst ?_) | (intro hg; try exact fin2) | apply And.intro | exact fin | fail)
    all_goals rfl
set_option maxRecDepth 100000 in
set_option maxHeartbeats 4000000 in
theorem counting_ok (o : Int) (own paper : List Int) : CallsTo Tryz.prog 78 [.agg (logC o own paper)] (.clo 123 [.ro (logC o own paper)]) := by
  refine calls_abs Tryz.func78 Tryz.ntmps78 Tryz.results78 Tryz.call78 rfl (by simp) fun w0 S0 M0 => ?_
  repeat' (first | (refine abs_freeze 0 _ _ rfl rfl ?_; simp only [basL, Nat.reduceAdd]) | refine st1 ?_ | ((first | refine abs_region fun K hK => ?_ | refine abs_draw Tryz.ty.mixed (by kernel_rfl) fun K hK => ?_ | refine abs_if ?_ | show retQ _ _ _ _ _); (refine sim ?_; try exact trivial)) | ((first | (refine hK _ ?_; clear hK K) | show thenQ _ _ _ _ | show blockQ _ _ _ _ | show noGoQ _ _ _); refine qst ?_) | (intro hg; try exact fin2) | apply And.intro | exact fin | fail)
  all_goals rfl
abbrev prs (own paper : List Int) : List (List D) := (List.range own.length).map fun i => [i64 (nth own i), i64 (nth paper i)]
set_option maxRecDepth 100000 in
set_option maxHeartbeats 4000000 in
theorem counting_iter (o : Int) (own paper : List Int) (h : LogOk o own paper) : Iter Tryz.prog 123 [.ro (logC o own paper)] (prs own paper) := by
  obtain ⟨ho, hl, hn, ha, hb⟩ := h
  refine iter_of_ia Tryz.func123 Tryz.ntmps123 Tryz.results123 Tryz.call123 rfl (by simp) fun l J Jx => ?_
  repeat' (first
      | refine ia_seq ?_
      | refine ia_block ?_
      | refine ia_scope ?_
      | refine ia_label ?_
      | refine ia_skip ?_
      | refine ia_exit ?_
      | refine ia_ret ?_
      | (refine ia_if ?_; (refine sim ?_; try exact trivial))
      | (refine ia_abs fun w0 S0 M0 oq => abs_region fun K hK => ?_; (refine sim ?_; try exact trivial))
      | (refine ia_abs fun w0 S0 M0 oq => abs_draw Tryz.ty.mixed (by kernel_rfl) fun K hK => ?_; (refine sim ?_; try exact trivial))
      | (refine hK _ ?_; clear hK K; simp only [thenI, blockI, if_true, Nat.reduceEqDiff, reduceIte])
      | (show thenI _ _ _ _ _; simp only [thenI, blockI, if_true, Nat.reduceEqDiff, reduceIte])
      | (show noGoI _ _ _ _; simp only [noGoI, thenI, blockI, if_true, Nat.reduceEqDiff, reduceIte])
      | (show blockI _ _ _ _ _; simp only [thenI, blockI, if_true, Nat.reduceEqDiff, reduceIte])
      | (intro hg; first | (exfalso; omega) | (exfalso; contradiction) | skip)
      | apply And.intro
      | (with_reducible rfl)
      | (clear hK; omega)
      | omega)
  refine ia_loop (ι := Nat) (fun j => [(0, .val (.func (.yield l) #[] #[])), (1, .ro (logC o own paper)), (6, ints own), (7, i64 own.length), (8, i64 j)]) (fun j => (true, j)) (fun j => j ≤ own.length) (fun j => own.length - j) (fun _ _ => rfl) 0 (Nat.zero_le _) rfl (le_of rfl (by try (refine sim ?_; try exact trivial); try simp) ⟨_, rfl⟩ ⟨_, rfl⟩) (fun j hj => ?_)
  by_cases hlt : j < own.length
  · have hp1 : decide (0 ≤ nth own j) = true := decide_eq_true (ha j hlt).1
    have hp2 : decide (0 ≤ nth paper j) = true := decide_eq_true (hb j hlt).1
    have g1 := ha j hlt
    have g2 := hb j hlt
    (refine withX (And.intro @hp1 (@hp2)) fun hX => ?_; refine simh ?_; clear hX; try exact trivial)
    repeat' (first
        | refine ia_seq ?_
        | refine ia_block ?_
        | refine ia_scope ?_
        | refine ia_label ?_
        | refine ia_skip ?_
        | refine ia_exit ?_
        | refine ia_ret ?_
        | (refine ia_if ?_; (refine withX (And.intro @hp1 (@hp2)) fun hX => ?_; refine simh ?_; clear hX; try exact trivial))
        | ((refine ia_yieldNAt 18 rfl fun K1 hK1 => ?_; (refine withX (And.intro @hp1 (@hp2)) fun hX => ?_; refine simh ?_; clear hX; try exact trivial)))
        | (refine ia_abs fun w0 S0 M0 oq => abs_region fun K hK => ?_; (refine withX (And.intro @hp1 (@hp2)) fun hX => ?_; refine simh ?_; clear hX; try exact trivial))
        | (refine ia_abs fun w0 S0 M0 oq => abs_draw Tryz.ty.mixed (by kernel_rfl) fun K hK => ?_; (refine withX (And.intro @hp1 (@hp2)) fun hX => ?_; refine simh ?_; clear hX; try exact trivial))
        | (refine hK _ ?_; clear hK K; simp only [thenI, blockI, if_true, Nat.reduceEqDiff, reduceIte])
        | (show thenI _ _ _ _ _; simp only [thenI, blockI, if_true, Nat.reduceEqDiff, reduceIte])
        | (show noGoI _ _ _ _; simp only [noGoI, thenI, blockI, if_true, Nat.reduceEqDiff, reduceIte])
        | (show blockI _ _ _ _ _; simp only [thenI, blockI, if_true, Nat.reduceEqDiff, reduceIte])
        | (intro hg; first | (exfalso; omega) | (exfalso; contradiction) | skip)
        | apply And.intro
        | (with_reducible rfl)
        | (clear hK; omega)
        | omega)
    refine hK1 _ _ rfl rfl ?_ ?_ ?_ (fun b => ?_)
    · show (prs own paper)[j]? = some [i64 (nth own j), i64 (nth paper j)]
      simp [hlt]
    · (refine withX (And.intro @hp1 (@hp2)) fun hX => ?_; refine simh ?_; clear hX; try exact trivial)
    · intro q b e
      cases e
      exact ⟨23, rfl, rfl⟩
    · clear hK1 K1
      (refine withX (And.intro @hp1 (@hp2)) fun hX => ?_; refine simh ?_; clear hX; try exact trivial)
      repeat' (first
          | refine ia_seq ?_
          | refine ia_block ?_
          | refine ia_scope ?_
          | refine ia_label ?_
          | refine ia_skip ?_
          | refine ia_exit ?_
          | refine ia_ret ?_
          | (refine ia_if ?_; (refine withX (And.intro @hp1 (@hp2)) fun hX => ?_; refine simh ?_; clear hX; try exact trivial))
          | (refine ia_abs fun w0 S0 M0 oq => abs_region fun K hK => ?_; (refine withX (And.intro @hp1 (@hp2)) fun hX => ?_; refine simh ?_; clear hX; try exact trivial))
          | (refine ia_abs fun w0 S0 M0 oq => abs_draw Tryz.ty.mixed (by kernel_rfl) fun K hK => ?_; (refine withX (And.intro @hp1 (@hp2)) fun hX => ?_; refine simh ?_; clear hX; try exact trivial))
          | (refine hK _ ?_; clear hK K; simp only [thenI, blockI, if_true, Nat.reduceEqDiff, reduceIte])
          | (show thenI _ _ _ _ _; simp only [thenI, blockI, if_true, Nat.reduceEqDiff, reduceIte])
          | (show noGoI _ _ _ _; simp only [noGoI, thenI, blockI, if_true, Nat.reduceEqDiff, reduceIte])
          | (show blockI _ _ _ _ _; simp only [thenI, blockI, if_true, Nat.reduceEqDiff, reduceIte])
          | (intro hg; first | (exfalso; omega) | (exfalso; contradiction) | skip)
          | apply And.intro
          | (with_reducible rfl)
          | (clear hK; omega)
          | omega)
      · simp_all
      · have hb : b = true := by simp_all
        subst hb
        exact ⟨j + 1, by omega, by omega, rfl, le_of rfl (by try (refine withX (And.intro @hp1 (@hp2)) fun hX => ?_; refine simh ?_; clear hX; try exact trivial); try simp) ⟨_, rfl⟩ ⟨_, rfl⟩⟩
  · (refine sim ?_; try exact trivial)
    repeat' (first
        | refine ia_seq ?_
        | refine ia_block ?_
        | refine ia_scope ?_
        | refine ia_label ?_
        | refine ia_skip ?_
        | refine ia_exit ?_
        | refine ia_ret ?_
        | (refine ia_if ?_; (refine sim ?_; try exact trivial))
        | (refine ia_abs fun w0 S0 M0 oq => abs_region fun K hK => ?_; (refine sim ?_; try exact trivial))
        | (refine ia_abs fun w0 S0 M0 oq => abs_draw Tryz.ty.mixed (by kernel_rfl) fun K hK => ?_; (refine sim ?_; try exact trivial))
        | (refine hK _ ?_; clear hK K; simp only [thenI, blockI, if_true, Nat.reduceEqDiff, reduceIte])
        | (show thenI _ _ _ _ _; simp only [thenI, blockI, if_true, Nat.reduceEqDiff, reduceIte])
        | (show noGoI _ _ _ _; simp only [noGoI, thenI, blockI, if_true, Nat.reduceEqDiff, reduceIte])
        | (show blockI _ _ _ _ _; simp only [thenI, blockI, if_true, Nat.reduceEqDiff, reduceIte])
        | (intro hg; first | (exfalso; omega) | (exfalso; contradiction) | skip)
        | apply And.intro
        | (with_reducible rfl)
        | (clear hK; omega)
        | omega)
    show j = (List.range own.length).length
    simp; omega
/-- How many figures are f, among the first. -/
def cnt (own : List Int) (f : Int) : Nat → Int
  | 0 => 0
  | k + 1 => cnt own f k + (if nth own k = f then 1 else 0)
theorem cnt_bd (own : List Int) (f : Int) : ∀ k, 0 ≤ cnt own f k ∧ cnt own f k ≤ k
  | 0 => by simp [cnt]
  | k + 1 => by have := cnt_bd own f k; simp only [cnt]; split <;> omega
/-- On how many days both figures are equal. -/
def eqs (own paper : List Int) : Nat → Int
  | 0 => 0
  | k + 1 => eqs own paper k + (if nth own k = nth paper k then 1 else 0)
theorem eqs_bd (own paper : List Int) : ∀ k, 0 ≤ eqs own paper k ∧ eqs own paper k ≤ k
  | 0 => by simp [eqs]
  | k + 1 => by have := eqs_bd own paper k; simp only [eqs]; split <;> omega
def cntD (own : List Int) (k : Nat) : List D := [i64 (cnt own 0 k), i64 (cnt own 1 k), i64 (cnt own 2 k), i64 (cnt own 3 k), i64 (cnt own 4 k), i64 (cnt own 5 k), i64 (cnt own 6 k), i64 (cnt own 7 k), i64 (cnt own 8 k), i64 (cnt own 9 k)]
theorem cntD_len (own : List Int) (k : Nat) : (cntD own k).length = 10 := rfl
theorem cntD_drop (own : List Int) (k : Nat) : ∀ v : Nat, v < 10 → (cntD own k).drop v = i64 (cnt own v k) :: (cntD own k).drop (v + 1)
  | 0, _ => rfl | 1, _ => rfl | 2, _ => rfl | 3, _ => rfl | 4, _ => rfl | 5, _ => rfl | 6, _ => rfl | 7, _ => rfl | 8, _ => rfl | 9, _ => rfl
theorem cntD_succ (own : List Int) (k : Nat) : ∀ v : Nat, v < 10 → nth own k = v → (cntD own k).take v ++ i64 (cnt own v k + 1) :: (cntD own k).drop (v + 1) = cntD own (k + 1)
  | 0, _, h => by simp [cntD, cnt, h]
  | 1, _, h => by simp [cntD, cnt, h]
  | 2, _, h => by simp [cntD, cnt, h]
  | 3, _, h => by simp [cntD, cnt, h]
  | 4, _, h => by simp [cntD, cnt, h]
  | 5, _, h => by simp [cntD, cnt, h]
  | 6, _, h => by simp [cntD, cnt, h]
  | 7, _, h => by simp [cntD, cnt, h]
  | 8, _, h => by simp [cntD, cnt, h]
  | 9, _, h => by simp [cntD, cnt, h]
/-- The favourite, as far as it was looked for. -/
def mostK (own : List Int) (n : Nat) : Nat → Int
  | 0 => 0
  | j + 1 => max (mostK own n j) (cnt own j n)
theorem mostK_bd (own : List Int) (n : Nat) : ∀ j, 0 ≤ mostK own n j ∧ mostK own n j ≤ n
  | 0 => by simp [mostK]
  | j + 1 => by have := mostK_bd own n j; have := cnt_bd own j n; simp only [mostK]; omega
end Go.Proofs.YtmnepfejoneghaaGreatDoor
namespace Go.Proofs.YtmnepfejoneghaaGreatDoor
open Go.Ab Go.Watch
attribute [local irreducible] Abs CallK CallR CallsTo CallsB IA
abbrev recC (o : Int) (own paper : List Int) (k : Nat) : List D := [i64 10, i64 o, ints own, ints paper, i64 k, i64 (eqs own paper k), i64 0]
abbrev recD (o : Int) (own paper : List Int) : D := .agg [i64 10, i64 o, ints own, ints paper, i64 own.length, i64 (eqs own paper own.length), i64 (mostK own own.length 10)]
set_option maxRecDepth 100000 in
set_option maxHeartbeats 4000000 in
theorem wlook_ok (o : Int) (own paper : List Int) (h : LogOk o own paper) : CallsTo Tryz.prog 33 [.agg (logC o own paper)] (recD o own paper) := by
  have hI := counting_iter o own paper h
  have hc := counting_ok o own paper
  have hlp : (prs own paper).length = own.length := by simp
  obtain ⟨ho, hl, hn, ha, hb⟩ := h
  refine calls_abs Tryz.func33 Tryz.ntmps33 Tryz.results33 Tryz.call33 rfl (by simp) fun w0 S0 M0 => ?_
  repeat' (first | refine st1 ?_ | ((first | refine abs_region fun K hK => ?_ | refine abs_draw Tryz.ty.mixed (by kernel_rfl) fun K hK => ?_ | refine abs_if ?_ | show retQ _ _ _ _ _ | refine callK (hc) ?_); (refine sim ?_; try exact trivial)) | ((first | (refine hK _ ?_; clear hK K) | show thenQ _ _ _ _ | show blockQ _ _ _ _ | show noGoQ _ _ _); refine qst ?_) | (intro hg; try exact fin2) | apply And.intro | exact fin | fail)
  refine abs_rangeFunc (gf := 123) (cs := [.ro (logC o own paper)]) (cs' := [.ro (logC o own paper)]) (xs := prs own paper) (by try (refine sim ?_; try exact trivial)) rfl hI (fun x hx => by obtain ⟨y, _, rfl⟩ := List.mem_map.1 hx; rfl) (by simp)
    (slots [(1, D.box 0 0), (2, .box 1 0), (3, .box 2 0), (4, .box 3 0)]) (fun k => [.mu (logC o own paper), .mu [i64 0, i64 0, .val (.slice none 0 0), .val (.slice none 0 0), i64 0, i64 0, i64 0], .mu (recC o own paper k), .mu (cntD own k)]) (fun _ => []) 4
    (le_slots rfl (by try (refine sim ?_; try exact trivial); try simp [cntD, cnt, eqs]) ⟨_, rfl⟩ ⟨_, rfl⟩) (slots_names rfl) (fun _ _ => rfl) (fun k _ => ⟨fun _ => .undef, namesBx_of _ rfl⟩) (by simp) ?_ ?_
  · intro k x hk w1 S1 M1 l o1 b1 hb1
    rw [List.getElem?_map] at hk
    obtain ⟨y, hy, rfl⟩ := Option.map_eq_some_iff.1 hk
    have hkl : k < own.length := by have := (List.getElem?_eq_some_iff.1 hy).1; simpa using this
    have hyn : k = y := by have := (List.getElem?_eq_some_iff.1 hy).2; simpa using this
    subst hyn
    have g1 := ha k hkl
    have g2 := eqs_bd own paper k
    obtain ⟨v, hv⟩ : ∃ v : Nat, nth own k = v := ⟨(nth own k).toNat, by omega⟩
    have hv10 : v < 10 := by omega
    have g3 := cnt_bd own v k
    have hd := cntD_drop own k v hv10
    have hs := cntD_succ own k v hv10 hv
    have hcl := cntD_len own k
    have e1 : eqs own paper (k + 1) = eqs own paper k + (if nth own k = nth paper k then 1 else 0) := rfl
    rw [hv] at e1 ⊢
    show Abs _ _ _ ⟨44, put (put (slots [(1, D.box 0 0), (2, .box 1 0), (3, .box 2 0), (4, .box 3 0)]) 12 (i64 v)) 13 (i64 (nth paper k)), _, _⟩
    (refine withX (And.intro @hd (And.intro @hcl (And.intro @Nat.mul_one (@Nat.zero_add)))) fun hX => ?_; refine simh ?_; clear hX; try exact trivial)
    repeat' (first | refine st1 ?_ | ((first | refine abs_region fun K hK => ?_ | refine abs_draw Tryz.ty.mixed (by kernel_rfl) fun K hK => ?_ | refine abs_if ?_ | show retQ _ _ _ _ _); (refine withX (And.intro @hd (And.intro @hcl (And.intro @Nat.mul_one (@Nat.zero_add)))) fun hX => ?_; refine simh ?_; clear hX; try exact trivial)) | ((first | (refine hK _ ?_; clear hK K) | show thenQ _ _ _ _ | show blockQ _ _ _ _ | show noGoQ _ _ _); refine qst ?_) | (intro hg; try exact fin2) | apply And.intro | exact fin | fail)
    all_goals (simp only [roundQ]; refine le_none rfl ?_ rfl; simp only [List.cons.injEq, true_and, and_true])
    · have g : (v : Int) = nth paper k := by assumption
      exact ⟨by show Bx.mu _ = Bx.mu [i64 10, i64 o, ints own, ints paper, i64 ((k + 1 : Nat) : Int), i64 (eqs own paper (k + 1)), i64 0]; rw [e1, if_pos g]; rfl, by simpa using hs⟩
    · have g : ¬ (v : Int) = nth paper k := by assumption
      exact ⟨by show Bx.mu _ = Bx.mu [i64 10, i64 o, ints own, ints paper, i64 ((k + 1 : Nat) : Int), i64 (eqs own paper (k + 1)), i64 0]; rw [e1, if_neg g, Int.add_zero]; rfl, by simpa using hs⟩
  · simp only [hlp]
    (refine sim ?_; try exact trivial)
    repeat' (first | refine st1 ?_ | ((first | refine abs_region fun K hK => ?_ | refine abs_draw Tryz.ty.mixed (by kernel_rfl) fun K hK => ?_ | refine abs_if ?_ | show retQ _ _ _ _ _); (refine sim ?_; try exact trivial)) | ((first | (refine hK _ ?_; clear hK K) | show thenQ _ _ _ _ | show blockQ _ _ _ _ | show noGoQ _ _ _); refine qst ?_) | (intro hg; try exact fin2) | apply And.intro | exact fin | fail)
    refine abs_loopN (ι := Nat) (fun j => [(1, .box 0 0), (2, .box 1 0), (3, .box 2 0), (4, .box 3 0), (31, i64 10), (32, i64 j)]) (fun j => [.mu (logC o own paper), .mu [i64 0, i64 0, .val (.slice none 0 0), .val (.slice none 0 0), i64 0, i64 0, i64 0], .mu [i64 10, i64 o, ints own, ints paper, i64 own.length, i64 (eqs own paper own.length), i64 (mostK own own.length j)], .mu (cntD own own.length)]) (fun _ => [])
      (fun j => j ≤ 10) (fun j => 10 - j) (fun _ _ => ⟨rfl, rfl⟩) 0 (by omega) (le_of rfl (by try (refine sim ?_; try exact trivial); try simp [mostK]) ⟨_, rfl⟩ ⟨_, rfl⟩) (fun j hj => ?_)
    by_cases hlt : j < 10
    · have hd := cntD_drop own own.length j hlt
      have hcl := cntD_len own own.length
      have e1 : mostK own own.length (j + 1) = max (mostK own own.length j) (cnt own j own.length) := rfl
      (refine withX (And.intro @hd (And.intro @hcl (And.intro @Nat.mul_one (@Nat.zero_add)))) fun hX => ?_; refine simh ?_; clear hX; try exact trivial)
      repeat' (first | refine st1 ?_ | ((first | (show Abs _ (.region 13 _ true) _ _; refine abs_drawD [(38, 41)] Tryz.ty.mixed (by kernel_rfl) fun K hK => ?_) | show Sep _ _ | refine abs_region fun K hK => ?_ | refine abs_draw Tryz.ty.mixed (by kernel_rfl) fun K hK => ?_ | refine abs_if ?_ | show retQ _ _ _ _ _); (refine withX (And.intro @hd (And.intro @hcl (And.intro @Nat.mul_one (@Nat.zero_add)))) fun hX => ?_; refine simh ?_; clear hX; try exact trivial)) | ((first | (refine hK _ ?_; clear hK K) | show thenQ _ _ _ _ | show blockQ _ _ _ _ | show noGoQ _ _ _); refine qst ?_) | (intro hg; try exact fin2) | apply And.intro | exact fin | fail)
      all_goals first | exact ⟨j + 1, by omega, by omega, le_of rfl (by try (refine withX (And.intro @hd (And.intro @hcl (And.intro @Nat.mul_one (@Nat.zero_add)))) fun hX => ?_; refine simh ?_; clear hX; try exact trivial); try simp) ⟨_, by rw [e1]; rfl⟩ ⟨_, rfl⟩⟩ | skip
      all_goals trace_state
    · obtain rfl : j = 10 := by omega
      (refine sim ?_; try exact trivial)
      repeat' (first | refine st1 ?_ | ((first | (show Abs _ (.region 13 _ true) _ _; refine abs_drawD [(38, 41)] Tryz.ty.mixed (by kernel_rfl) fun K hK => ?_) | show Sep _ _ | refine abs_region fun K hK => ?_ | refine abs_draw Tryz.ty.mixed (by kernel_rfl) fun K hK => ?_ | refine abs_if ?_ | show retQ _ _ _ _ _); (refine sim ?_; try exact trivial)) | ((first | (refine hK _ ?_; clear hK K) | show thenQ _ _ _ _ | show blockQ _ _ _ _ | show noGoQ _ _ _); refine qst ?_) | (intro hg; try exact fin2) | apply And.intro | exact fin | fail)
      all_goals first | rfl | skip
      all_goals trace_state
set_option maxRecDepth 100000 in
set_option maxHeartbeats 4000000 in
theorem wagree_ok (o : Int) (own paper : List Int) (h : LogOk o own paper) : CallsTo Tryz.prog 10 [.agg (logC o own paper)] (.tup [i64 own.length, i64 (eqs own paper own.length), i64 (mostK own own.length 10), i64 0]) := by
  have c1 := wvalid_ok o own paper h
  have c2 := wlook_ok o own paper h
  refine calls_abs Tryz.func10 Tryz.ntmps10 Tryz.results10 Tryz.call10 rfl (by simp) fun w0 S0 M0 => ?_
  repeat' (first | refine st1 ?_ | ((first | refine abs_region fun K hK => ?_ | refine abs_draw Tryz.ty.mixed (by kernel_rfl) fun K hK => ?_ | refine abs_if ?_ | show retQ _ _ _ _ _ | refine callK (c1) ?_ | refine callK (c2) ?_); (refine sim ?_; try exact trivial)) | ((first | (refine hK _ ?_; clear hK K) | show thenQ _ _ _ _ | show blockQ _ _ _ _ | show noGoQ _ _ _); refine qst ?_) | (intro hg; try exact fin2) | apply And.intro | exact fin | fail)
  all_goals first | rfl | skip
  all_goals trace_state
end Go.Proofs.YtmnepfejoneghaaGreatDoor
namespace Go.Proofs.YtmnepfejoneghaaGreatDoor
open Go.Ab Go.Watch
attribute [local irreducible] Abs CallK CallR CallsTo CallsB IA
/-- The verdict. -/
def vdN (n : Nat) (o : Int) (m q : Nat) : Int := if exB n o (ag n m) = true then 3 else if exB n o (10 ^ n - fv q 10 n) = true then 2 else 1
set_option maxRecDepth 100000 in
set_option maxHeartbeats 4000000 in
theorem wjudge_ok (o : Int) (own paper : List Int) (h : LogOk o own paper) (m q : Nat) (hm : eqs own paper own.length = m) (hq : mostK own own.length 10 = q) : CallsTo Tryz.prog 11 [.agg (logC o own paper)] (.tup [i64 (vdN own.length o m q), i64 0]) := by
  have c1 := wvalid_ok o own paper h
  have c2 := wlook_ok o own paper h
  have hn := h.n
  have ho := h.o
  have hm2 := eqs_bd own paper own.length
  have hq2 := mostK_bd own own.length 10
  have c3 := tests_ok own.length
  have c4 := agree_ok own.length m hn (by omega)
  have c5 := excl_ok own.length hn (ag own.length m) o ho
  have c6 := favour_ok own.length q hn (by omega)
  have c7 := excl_ok own.length hn (10 ^ own.length - fv q 10 own.length) o ho
  have e5 : decide (ag own.length m ≤ 10 ^ own.length / (2 * o)) = exB own.length o (ag own.length m) := rfl
  have e7 : decide (10 ^ own.length - fv q 10 own.length ≤ 10 ^ own.length / (2 * o)) = exB own.length o (10 ^ own.length - fv q 10 own.length) := rfl
  rw [e5] at c5
  rw [e7] at c7
  have hv : vdN own.length o m q = if exB own.length o (ag own.length m) = true then 3 else if exB own.length o (10 ^ own.length - fv q 10 own.length) = true then 2 else 1 := rfl
  rw [show recD o own paper = .agg [i64 10, i64 o, ints own, ints paper, i64 own.length, i64 m, i64 q] by unfold recD; rw [hm, hq]] at c2
  refine calls_abs Tryz.func11 Tryz.ntmps11 Tryz.results11 Tryz.call11 rfl (by simp) fun w0 S0 M0 => ?_
  repeat' (first | refine st1 ?_ | ((first | refine abs_region fun K hK => ?_ | refine abs_draw Tryz.ty.mixed (by kernel_rfl) fun K hK => ?_ | refine abs_if ?_ | show retQ _ _ _ _ _ | refine callK (c1) ?_ | refine callK (c2) ?_ | refine callK (c3) ?_); (refine sim ?_; try exact trivial)) | ((first | (refine hK _ ?_; clear hK K) | show thenQ _ _ _ _ | show blockQ _ _ _ _ | show noGoQ _ _ _); refine qst ?_) | (intro hg; try exact fin2) | apply And.intro | exact fin | fail)
  refine abs_loopN (ι := Nat) (fun j => [(4, .box 1 0), (5, .box 2 0), (6, .box 3 0), (7, i64 2), (27, .agg [.mth 79 [lsD 10 own.length], .mth 80 [lsD 10 own.length]]), (28, i64 j)]) (fun j => [.mu (logC o own paper), .mu [i64 10, i64 o, ints own, ints paper, i64 own.length, i64 m, i64 q], .mu [i64 10, i64 own.length], .mu [i64 m, i64 q]]) (fun _ => [])
    (fun j => j ≤ 2 ∧ (1 ≤ j → exB own.length o (ag own.length m) = false) ∧ (2 ≤ j → exB own.length o (10 ^ own.length - fv q 10 own.length) = false)) (fun j => 2 - j) (fun _ _ => ⟨rfl, rfl⟩) 0 ⟨by omega, by omega, by omega⟩ (le_of rfl (by try (refine sim ?_; try exact trivial); try simp) ⟨_, rfl⟩ ⟨_, rfl⟩) (fun j ⟨hj, hj1, hj2⟩ => ?_)
  match j, hj with
  | 0, _ =>
    cases hx : exB own.length o (ag own.length m) with
    | true =>
      rw [hx] at c5
      have hv : vdN own.length o m q = 3 := by rw [hv, hx]; rfl
      rw [hv]
      (refine withX (@Int.natCast_zero) fun hX => ?_; refine simh ?_; clear hX; try exact trivial)
      repeat' (first | refine st1 ?_ | ((first | refine abs_region fun K hK => ?_ | refine abs_draw Tryz.ty.mixed (by kernel_rfl) fun K hK => ?_ | refine abs_if ?_ | show retQ _ _ _ _ _ | refine callK (c4) ?_ | refine callK (c5) ?_); (refine withX (@Int.natCast_zero) fun hX => ?_; refine simh ?_; clear hX; try exact trivial)) | ((first | (refine hK _ ?_; clear hK K) | show thenQ _ _ _ _ | show blockQ _ _ _ _ | show noGoQ _ _ _); refine qst ?_) | (intro hg; try exact fin2) | apply And.intro | exact fin | fail)
      all_goals skip
    | false =>
      rw [hx] at c5
      (refine withX (@Int.natCast_zero) fun hX => ?_; refine simh ?_; clear hX; try exact trivial)
      repeat' (first | refine st1 ?_ | ((first | refine abs_region fun K hK => ?_ | refine abs_draw Tryz.ty.mixed (by kernel_rfl) fun K hK => ?_ | refine abs_if ?_ | show retQ _ _ _ _ _ | refine callK (c4) ?_ | refine callK (c5) ?_); (refine withX (@Int.natCast_zero) fun hX => ?_; refine simh ?_; clear hX; try exact trivial)) | ((first | (refine hK _ ?_; clear hK K) | show thenQ _ _ _ _ | show blockQ _ _ _ _ | show noGoQ _ _ _); refine qst ?_) | (intro hg; try exact fin2) | apply And.intro | exact fin | fail)
      exact ⟨1, ⟨by omega, by intros; first | exact hx | trivial | rfl, by omega⟩, by omega, le_of rfl (by try (refine withX (@Int.natCast_zero) fun hX => ?_; refine simh ?_; clear hX; try exact trivial); try simp) ⟨_, rfl⟩ ⟨_, rfl⟩⟩
  | 1, _ =>
    have hx := hj1 (by omega)
    cases hy : exB own.length o (10 ^ own.length - fv q 10 own.length) with
    | true =>
      rw [hy] at c7
      have hv : vdN own.length o m q = 2 := by rw [hv, hx, hy]; rfl
      rw [hv]
      (refine withX (@Int.natCast_one) fun hX => ?_; refine simh ?_; clear hX; try exact trivial)
      repeat' (first | refine st1 ?_ | ((first | refine abs_region fun K hK => ?_ | refine abs_draw Tryz.ty.mixed (by kernel_rfl) fun K hK => ?_ | refine abs_if ?_ | show retQ _ _ _ _ _ | refine callK (c6) ?_ | refine callK (c7) ?_); (refine withX (@Int.natCast_one) fun hX => ?_; refine simh ?_; clear hX; try exact trivial)) | ((first | (refine hK _ ?_; clear hK K) | show thenQ _ _ _ _ | show blockQ _ _ _ _ | show noGoQ _ _ _); refine qst ?_) | (intro hg; try exact fin2) | apply And.intro | exact fin | fail)
      all_goals skip
    | false =>
      rw [hy] at c7
      (refine withX (@Int.natCast_one) fun hX => ?_; refine simh ?_; clear hX; try exact trivial)
      repeat' (first | refine st1 ?_ | ((first | refine abs_region fun K hK => ?_ | refine abs_draw Tryz.ty.mixed (by kernel_rfl) fun K hK => ?_ | refine abs_if ?_ | show retQ _ _ _ _ _ | refine callK (c6) ?_ | refine callK (c7) ?_); (refine withX (@Int.natCast_one) fun hX => ?_; refine simh ?_; clear hX; try exact trivial)) | ((first | (refine hK _ ?_; clear hK K) | show thenQ _ _ _ _ | show blockQ _ _ _ _ | show noGoQ _ _ _); refine qst ?_) | (intro hg; try exact fin2) | apply And.intro | exact fin | fail)
      exact ⟨2, ⟨by omega, by intros; first | exact hx | trivial | rfl, by intros; first | exact hy | trivial | rfl⟩, by omega, le_of rfl (by try (refine withX (@Int.natCast_one) fun hX => ?_; refine simh ?_; clear hX; try exact trivial); try simp) ⟨_, rfl⟩ ⟨_, rfl⟩⟩
  | 2, _ =>
    have hv : vdN own.length o m q = 1 := by rw [hv, hj1 (by omega), hj2 (by omega)]; rfl
    rw [hv]
    (refine sim ?_; try exact trivial)
    repeat' (first | refine st1 ?_ | ((first | refine abs_region fun K hK => ?_ | refine abs_draw Tryz.ty.mixed (by kernel_rfl) fun K hK => ?_ | refine abs_if ?_ | show retQ _ _ _ _ _); (refine sim ?_; try exact trivial)) | ((first | (refine hK _ ?_; clear hK K) | show thenQ _ _ _ _ | show blockQ _ _ _ _ | show noGoQ _ _ _); refine qst ?_) | (intro hg; try exact fin2) | apply And.intro | exact fin | fail)
    all_goals skip
end Go.Proofs.YtmnepfejoneghaaGreatDoor
