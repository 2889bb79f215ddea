import Derived.Test.YtmnepfejoneghaaGreatDoorK25
import Derived.Test.YtmnepfejoneghaaGreatDoorK13
import Derived.Test.YtmnepfejoneghaaGreatDoorK15
set_option linter.unusedVariables false
set_option linter.unusedSimpArgs false
namespace Go.Proofs.YtmnepfejoneghaaGreatDoor
open Go.Ab
attribute [local irreducible] Abs CallK CallR CallsTo CallsB IA
abbrev los (W sl : Int) (S : List CStn) (n : Nat) : List D := (List.range n).map fun (q : Nat) => i64 (loK W sl S q S.length)
abbrev his (W sl : Int) (S : List CStn) (n : Nat) : List D := (List.range n).map fun (q : Nat) => i64 (hiK W sl S q S.length)
def outE : Nat → List D
  | 0 => [.val (.slice none 0 0), .val (.slice none 0 0)]
  | 1 => [.own 0, .val (.slice none 0 0)]
  | _ => [.own 0, .own 1]
def rowE (W sl : Int) (S : List CStn) (n : Nat) : Nat → List Row
  | 0 => []
  | 1 => [⟨true, 3, 1, los W sl S n⟩]
  | _ => [⟨true, 3, 1, los W sl S n⟩, ⟨true, 3, 1, his W sl S n⟩]
theorem los_succ (W sl : Int) (S : List CStn) (n : Nat) : los W sl S (n + 1) = los W sl S n ++ [i64 (loK W sl S n S.length)] := by unfold los; rw [List.range_succ, List.map_append]; rfl
theorem his_succ (W sl : Int) (S : List CStn) (n : Nat) : his W sl S (n + 1) = his W sl S n ++ [i64 (hiK W sl S n S.length)] := by unfold his; rw [List.range_succ, List.map_append]; rfl
set_option maxRecDepth 100000 in
set_option maxHeartbeats 4000000 in
theorem cends_ok (W R : Nat) (sl : Int) (S : List CStn) (h : MapOk W R sl S) : CallsTo Tryz.prog 58 [.agg (chC W R sl S)] (.agg [.list (los W sl S (W * R)), .list (his W sl S (W * R))]) := by
  have hn := h.n
  have hw := h.w
  have hr := h.r
  have h2 := WR_bd h.w h.r
  have h3 : (W : Int) * R = ((W * R : Nat) : Int) := by simp
  refine calls_abs Tryz.func58 Tryz.ntmps58 Tryz.results58 Tryz.call58 rfl (by simp) fun w0 S0 M0 => ?_
  repeat' (first | refine st1 ?_ | ((first | refine abs_region fun K hK => ?_ | refine abs_draw Tryz.ty.mixed (by kernel_rfl) fun K hK => ?_ | refine abs_if ?_ | show retQ _ _ _ _ _); (refine withX (@h3) fun hX => ?_; refine simh ?_; clear hX; try exact trivial)) | ((first | (refine hK _ ?_; clear hK K) | show thenQ _ _ _ _ | show blockQ _ _ _ _ | show noGoQ _ _ _); refine qst ?_) | (intro hg; try exact fin2) | apply And.intro | exact fin | fail)
  refine abs_loopN (ι := Nat) (fun i => [(1, .box 0 0), (2, .box 1 0), (3, .box 2 0), (12, .agg [.mth 97 [.agg (chC W R sl S)], .mth 98 [.agg (chC W R sl S)]]), (13, i64 i)]) (fun i => [.mu (chC W R sl S), .mu [.val (.slice none 0 0), .val (.slice none 0 0)], .mu (outE i)]) (fun i => rowE W sl S (W * R) i)
    (fun i => i ≤ 2) (fun i => 2 - i) (fun i hi => by match i, hi with | 0, _ => exact ⟨rfl, rfl⟩ | 1, _ => exact ⟨rfl, rfl⟩ | 2, _ => exact ⟨rfl, rfl⟩) 0 (by omega) (le_of rfl (by try (refine withX (@h3) fun hX => ?_; refine simh ?_; clear hX; try exact trivial); try simp) ⟨_, rfl⟩ ⟨_, rfl⟩) (fun i hi => ?_)
  match i, hi with
  | 0, _ =>
    have e0 : outE 0 = [.val (.slice none 0 0), .val (.slice none 0 0)] := rfl
    have e1 : rowE W sl S (W * R) 0 = [] := rfl
    rw [e0, e1]
    (refine withX (And.intro @h3 (@Int.natCast_zero)) fun hX => ?_; refine simh ?_; clear hX; try exact trivial)
    repeat' (first | refine st1 ?_ | ((first | refine abs_region fun K hK => ?_ | refine abs_draw Tryz.ty.mixed (by kernel_rfl) fun K hK => ?_ | refine abs_if ?_ | show retQ _ _ _ _ _); (refine withX (And.intro @h3 (@Int.natCast_zero)) fun hX => ?_; refine simh ?_; clear hX; try exact trivial)) | ((first | (refine hK _ ?_; clear hK K) | show thenQ _ _ _ _ | show blockQ _ _ _ _ | show noGoQ _ _ _); refine qst ?_) | (intro hg; try exact fin2) | apply And.intro | exact fin | fail)
    refine abs_adoptB 2 0 3 1 _ rfl rfl ?_
    refine abs_loopN (ι := Nat) (fun p => [(1, .box 0 0), (2, .box 1 0), (3, .box 2 0), (4, i64 0), (5, .mth 97 [.agg (chC W R sl S)]), (12, .agg [.mth 97 [.agg (chC W R sl S)], .mth 98 [.agg (chC W R sl S)]]), (13, i64 0), (23, i64 (W * R : Nat)), (24, i64 p)]) (fun _ => [.mu (chC W R sl S), .mu [.val (.slice none 0 0), .val (.slice none 0 0)], .mu [.own 0, .val (.slice none 0 0)]]) (fun p => [⟨true, 3, 1, los W sl S p⟩])
      (fun p => p ≤ W * R) (fun p => W * R - p) (fun _ _ => ⟨rfl, rfl⟩) 0 (Nat.zero_le _) (le_of rfl (by try (refine withX (And.intro @h3 (@Int.natCast_zero)) fun hX => ?_; refine simh ?_; clear hX; try exact trivial); try simp) ⟨_, rfl⟩ ⟨_, rfl⟩) (fun p hp => ?_)
    by_cases hlt : p < W * R
    · have c1 := clow_ok W R sl S h p (by omega)
      have hl : (los W sl S p).length = p := by simp
      have hs := los_succ W sl S p
      generalize los W sl S p = xs at *
      (refine withX (And.intro @h3 (@Int.natCast_zero)) fun hX => ?_; refine simh ?_; clear hX; try exact trivial)
      repeat' (first | refine st1 ?_ | ((first | refine abs_region fun K hK => ?_ | refine abs_draw Tryz.ty.mixed (by kernel_rfl) fun K hK => ?_ | refine abs_if ?_ | show retQ _ _ _ _ _ | refine callK (c1) ?_); (refine withX (And.intro @h3 (@Int.natCast_zero)) fun hX => ?_; refine simh ?_; clear hX; try exact trivial)) | ((first | (refine hK _ ?_; clear hK K) | show thenQ _ _ _ _ | show blockQ _ _ _ _ | show noGoQ _ _ _); refine qst ?_) | (intro hg; try exact fin2) | apply And.intro | exact fin | fail)
      all_goals first | exact ⟨p + 1, by omega, by omega, le_of rfl (by try (refine withX (And.intro @h3 (@Int.natCast_zero)) fun hX => ?_; refine simh ?_; clear hX; try exact trivial); try simp) ⟨_, rfl⟩ ⟨[], by simp [hs]⟩⟩ | skip
    · obtain rfl : p = W * R := by omega
      (refine withX (And.intro @h3 (@Int.natCast_zero)) fun hX => ?_; refine simh ?_; clear hX; try exact trivial)
      repeat' (first | refine st1 ?_ | ((first | refine abs_region fun K hK => ?_ | refine abs_draw Tryz.ty.mixed (by kernel_rfl) fun K hK => ?_ | refine abs_if ?_ | show retQ _ _ _ _ _); (refine withX (And.intro @h3 (@Int.natCast_zero)) fun hX => ?_; refine simh ?_; clear hX; try exact trivial)) | ((first | (refine hK _ ?_; clear hK K) | show thenQ _ _ _ _ | show blockQ _ _ _ _ | show noGoQ _ _ _); refine qst ?_) | (intro hg; try exact fin2) | apply And.intro | exact fin | fail)
      all_goals first | exact ⟨1, by omega, by omega, le_of rfl (by try (refine withX (And.intro @h3 (@Int.natCast_zero)) fun hX => ?_; refine simh ?_; clear hX; try exact trivial); try simp) ⟨_, rfl⟩ ⟨_, rfl⟩⟩ | skip
  | 1, _ =>
    have e0 : outE 1 = [.own 0, .val (.slice none 0 0)] := rfl
    have e1 : rowE W sl S (W * R) 1 = [⟨true, 3, 1, los W sl S (W * R)⟩] := rfl
    rw [e0, e1]
    generalize hys : los W sl S (W * R) = ys at *
    (refine withX (And.intro @h3 (@Int.natCast_one)) fun hX => ?_; refine simh ?_; clear hX; try exact trivial)
    repeat' (first | refine st1 ?_ | ((first | refine abs_region fun K hK => ?_ | refine abs_draw Tryz.ty.mixed (by kernel_rfl) fun K hK => ?_ | refine abs_if ?_ | show retQ _ _ _ _ _); (refine withX (And.intro @h3 (@Int.natCast_one)) fun hX => ?_; refine simh ?_; clear hX; try exact trivial)) | ((first | (refine hK _ ?_; clear hK K) | show thenQ _ _ _ _ | show blockQ _ _ _ _ | show noGoQ _ _ _); refine qst ?_) | (intro hg; try exact fin2) | apply And.intro | exact fin | fail)
    refine abs_adoptB 2 1 3 1 _ rfl rfl ?_
    refine abs_loopN (ι := Nat) (fun p => [(1, .box 0 0), (2, .box 1 0), (3, .box 2 0), (4, i64 1), (5, .mth 98 [.agg (chC W R sl S)]), (12, .agg [.mth 97 [.agg (chC W R sl S)], .mth 98 [.agg (chC W R sl S)]]), (13, i64 1), (23, i64 (W * R : Nat)), (24, i64 p)]) (fun _ => [.mu (chC W R sl S), .mu [.val (.slice none 0 0), .val (.slice none 0 0)], .mu [.own 0, .own 1]]) (fun p => [⟨true, 3, 1, ys⟩, ⟨true, 3, 1, his W sl S p⟩])
      (fun p => p ≤ W * R) (fun p => W * R - p) (fun _ _ => ⟨rfl, rfl⟩) 0 (Nat.zero_le _) (le_of rfl (by try (refine withX (And.intro @h3 (@Int.natCast_one)) fun hX => ?_; refine simh ?_; clear hX; try exact trivial); try simp) ⟨_, rfl⟩ ⟨_, rfl⟩) (fun p hp => ?_)
    by_cases hlt : p < W * R
    · have c1 := chigh_ok W R sl S h p (by omega)
      have hl : (his W sl S p).length = p := by simp
      have hs := his_succ W sl S p
      generalize his W sl S p = xs at *
      (refine withX (And.intro @h3 (@Int.natCast_one)) fun hX => ?_; refine simh ?_; clear hX; try exact trivial)
      repeat' (first | refine st1 ?_ | ((first | refine abs_region fun K hK => ?_ | refine abs_draw Tryz.ty.mixed (by kernel_rfl) fun K hK => ?_ | refine abs_if ?_ | show retQ _ _ _ _ _ | refine callK (c1) ?_); (refine withX (And.intro @h3 (@Int.natCast_one)) fun hX => ?_; refine simh ?_; clear hX; try exact trivial)) | ((first | (refine hK _ ?_; clear hK K) | show thenQ _ _ _ _ | show blockQ _ _ _ _ | show noGoQ _ _ _); refine qst ?_) | (intro hg; try exact fin2) | apply And.intro | exact fin | fail)
      all_goals first | exact ⟨p + 1, by omega, by omega, le_of rfl (by try (refine withX (And.intro @h3 (@Int.natCast_one)) fun hX => ?_; refine simh ?_; clear hX; try exact trivial); try simp) ⟨_, rfl⟩ ⟨[], by simp [hs]⟩⟩ | skip
    · obtain rfl : p = W * R := by omega
      (refine withX (And.intro @h3 (@Int.natCast_one)) fun hX => ?_; refine simh ?_; clear hX; try exact trivial)
      repeat' (first | refine st1 ?_ | ((first | refine abs_region fun K hK => ?_ | refine abs_draw Tryz.ty.mixed (by kernel_rfl) fun K hK => ?_ | refine abs_if ?_ | show retQ _ _ _ _ _); (refine withX (And.intro @h3 (@Int.natCast_one)) fun hX => ?_; refine simh ?_; clear hX; try exact trivial)) | ((first | (refine hK _ ?_; clear hK K) | show thenQ _ _ _ _ | show blockQ _ _ _ _ | show noGoQ _ _ _); refine qst ?_) | (intro hg; try exact fin2) | apply And.intro | exact fin | fail)
      all_goals first | exact ⟨2, by omega, by omega, le_of rfl (by try (refine withX (And.intro @h3 (@Int.natCast_one)) fun hX => ?_; refine simh ?_; clear hX; try exact trivial); try simp) ⟨_, rfl⟩ ⟨[], by subst hys; rfl⟩⟩ | skip
  | 2, _ =>
    have e0 : outE 2 = [.own 0, .own 1] := rfl
    have e1 : rowE W sl S (W * R) 2 = [⟨true, 3, 1, los W sl S (W * R)⟩, ⟨true, 3, 1, his W sl S (W * R)⟩] := rfl
    rw [e0, e1]
    (refine withX (@h3) fun hX => ?_; refine simh ?_; clear hX; try exact trivial)
    repeat' (first | refine st1 ?_ | ((first | refine abs_region fun K hK => ?_ | refine abs_draw Tryz.ty.mixed (by kernel_rfl) fun K hK => ?_ | refine abs_if ?_ | show retQ _ _ _ _ _); (refine withX (@h3) fun hX => ?_; refine simh ?_; clear hX; try exact trivial)) | ((first | (refine hK _ ?_; clear hK K) | show thenQ _ _ _ _ | show blockQ _ _ _ _ | show noGoQ _ _ _); refine qst ?_) | (intro hg; try exact fin2) | apply And.intro | exact fin | fail)
    all_goals skip
abbrev bnds (W sl : Int) (S : List CStn) (n : Nat) : List D := (List.range n).map fun (q : Nat) => .agg [i64 (loK W sl S q S.length), i64 (hiK W sl S q S.length)]
theorem bnds_succ (W sl : Int) (S : List CStn) (n : Nat) : bnds W sl S (n + 1) = bnds W sl S n ++ [.agg [i64 (loK W sl S n S.length), i64 (hiK W sl S n S.length)]] := by unfold bnds; rw [List.range_succ, List.map_append]; rfl
theorem los_at {W sl : Int} {S : List CStn} {n p : Nat} (h : p < n) : nth (List.range n) p = p := by rw [nth_eq _ _ (by simpa using h)]; simp
set_option maxRecDepth 100000 in
set_option maxHeartbeats 4000000 in
theorem cbounds_ok (W R : Nat) (sl : Int) (S : List CStn) (h : MapOk W R sl S) (hc : NoCl W sl S) : CallsTo Tryz.prog 19 [.agg (mapD W R sl S)] (.tup [.list (bnds W sl S (W * R)), i64 0]) := by
  have c1 := cposs_ok W R sl S h hc
  have c2 := cends_ok W R sl S h
  have h2 := WR_bd h.w h.r
  refine calls_abs Tryz.func19 Tryz.ntmps19 Tryz.results19 Tryz.call19 rfl (by simp) fun w0 S0 M0 => ?_
  repeat' (first | refine st1 ?_ | ((first | refine abs_region fun K hK => ?_ | refine abs_draw Tryz.ty.mixed (by kernel_rfl) fun K hK => ?_ | refine abs_if ?_ | show retQ _ _ _ _ _ | refine callK (c1) ?_ | refine callK (c2) ?_); (refine sim ?_; try exact trivial)) | ((first | (refine hK _ ?_; clear hK K) | show thenQ _ _ _ _ | show blockQ _ _ _ _ | show noGoQ _ _ _); refine qst ?_) | (intro hg; try exact fin2) | apply And.intro | exact fin | fail)
  refine abs_adopt 7 35 2 rfl ?_
  refine abs_loopN (ι := Nat) (fun p => [(6, .box 2 0), (7, .own 0), (21, i64 (W * R : Nat)), (22, i64 p)]) (fun _ => [.mu (mapD W R sl S), .mu (chC W R sl S), .mu [.list (los W sl S (W * R)), .list (his W sl S (W * R))]]) (fun p => [⟨true, 35, 2, bnds W sl S p⟩])
    (fun p => p ≤ W * R) (fun p => W * R - p) (fun _ _ => ⟨rfl, rfl⟩) 0 (Nat.zero_le _) (le_of rfl (by try (refine sim ?_; try exact trivial); try simp) ⟨_, rfl⟩ ⟨_, rfl⟩) (fun p hp => ?_)
  by_cases hlt : p < W * R
  · have hl : (bnds W sl S p).length = p := by simp
    have hs := bnds_succ W sl S p
    have hx := los_at (W := W) (sl := sl) (S := S) hlt
    (refine withX (And.intro @hx (@List.length_range)) fun hX => ?_; refine simh ?_; clear hX; try exact trivial)
    repeat' (first | refine st1 ?_ | ((first | (show Abs _ (.region 9 _ true) _ _; refine abs_drawX [] [6] Tryz.ty.mixed (by kernel_rfl) fun K hK => ?_) | show Sep _ _ | show Bxs _ _ | refine abs_region fun K hK => ?_ | refine abs_draw Tryz.ty.mixed (by kernel_rfl) fun K hK => ?_ | refine abs_if ?_ | show retQ _ _ _ _ _); (refine withX (And.intro @hx (@List.length_range)) fun hX => ?_; refine simh ?_; clear hX; try exact trivial)) | ((first | (refine hK _ ?_; clear hK K) | show thenQ _ _ _ _ | show blockQ _ _ _ _ | show noGoQ _ _ _); refine qst ?_) | (intro hg; try exact fin2) | apply And.intro | exact fin | fail)
    all_goals first | exact ⟨p + 1, by omega, by omega, le_of rfl (by try (refine withX (And.intro @hx (@List.length_range)) fun hX => ?_; refine simh ?_; clear hX; try exact trivial); try simp) ⟨_, rfl⟩ ⟨[], by simp [hs]⟩⟩ | skip
  · obtain rfl : p = W * R := by omega
    (refine sim ?_; try exact trivial)
    repeat' (first | refine st1 ?_ | ((first | refine abs_region fun K hK => ?_ | refine abs_draw Tryz.ty.mixed (by kernel_rfl) fun K hK => ?_ | refine abs_if ?_ | show retQ _ _ _ _ _); (refine sim ?_; try exact trivial)) | ((first | (refine hK _ ?_; clear hK K) | show thenQ _ _ _ _ | show blockQ _ _ _ _ | show noGoQ _ _ _); refine qst ?_) | (intro hg; try exact fin2) | apply And.intro | exact fin | fail)
    all_goals rfl
def st3 : List CStn := [⟨0, 76000, 76010⟩, ⟨5, 75850, 75870⟩, ⟨11, 76030, 76050⟩]
theorem st3_ok : MapOk 4 3 100 st3 := ⟨by decide, by decide, by decide, by decide, by decide⟩
theorem st3_no : NoCl ((4 : Nat) : Int) 100 st3 := by
  have key : ∀ i, i < 3 → ∀ k, k < 3 → i < k → (nth st3 i).lo - 100 * dsC 4 (nth st3 i).p (nth st3 k).p ≤ (nth st3 k).hi ∧ (nth st3 k).lo - 100 * dsC 4 (nth st3 i).p (nth st3 k).p ≤ (nth st3 i).hi := by decide
  intro i k hik hk
  have hk : k < 3 := hk
  exact key i (by omega) k hk hik
set_option maxRecDepth 100000 in
set_option maxHeartbeats 4000000 in
theorem cstat_ok (a b c : Int) : CallsTo Tryz.prog 59 [i64 a, i64 b, i64 c] (.agg [i64 a, i64 b, i64 c]) := by
  refine calls_abs Tryz.func59 Tryz.ntmps59 Tryz.results59 Tryz.call59 rfl (by simp) fun w0 S0 M0 => ?_
  repeat' (first | refine st1 ?_ | ((first | refine abs_region fun K hK => ?_ | refine abs_draw Tryz.ty.mixed (by kernel_rfl) fun K hK => ?_ | refine abs_if ?_ | show retQ _ _ _ _ _); (refine sim ?_; try exact trivial)) | ((first | (refine hK _ ?_; clear hK K) | show thenQ _ _ _ _ | show blockQ _ _ _ _ | show noGoQ _ _ _); refine qst ?_) | (intro hg; try exact fin2) | apply And.intro | exact fin | fail)
  all_goals rfl
set_option maxRecDepth 100000 in
set_option maxHeartbeats 4000000 in
theorem cM_ok : CallsTo Tryz.prog 20 [] (.agg (mapD 4 3 100 st3)) := by
  have c1 := cstat_ok
  refine calls_abs Tryz.func20 Tryz.ntmps20 Tryz.results20 Tryz.call20 rfl (by simp) fun w0 S0 M0 => ?_
  repeat' (first | refine st1 ?_ | ((first | refine abs_region fun K hK => ?_ | refine abs_draw Tryz.ty.mixed (by kernel_rfl) fun K hK => ?_ | refine abs_if ?_ | show retQ _ _ _ _ _ | refine callK (c1 _ _ _) ?_); (refine sim ?_; try exact trivial)) | ((first | (refine hK _ ?_; clear hK K) | show thenQ _ _ _ _ | show blockQ _ _ _ _ | show noGoQ _ _ _); refine qst ?_) | (intro hg; try exact fin2) | apply And.intro | exact fin | fail)
  all_goals first | rfl | skip
  all_goals trace_state
theorem cB_ok : CallsTo Tryz.prog 19 [.agg (mapD 4 3 100 st3)] (.tup [.list (bnds 4 100 st3 12), i64 0]) := cbounds_ok 4 3 100 st3 st3_ok st3_no
theorem bnd5 : loK 4 100 st3 5 3 = 75850 ∧ hiK 4 100 st3 5 3 = 75870 := by decide
end Go.Proofs.YtmnepfejoneghaaGreatDoor
namespace Go.Proofs.YtmnepfejoneghaaGreatDoor
open Go.Ab
attribute [local irreducible] Abs CallK CallR CallsTo CallsB IA
structure Rep where
  st : Int
  tk : Int
  pr : Int
  dl : Int
  dh : Int
  ur : Int
  co : Int
  deriving Inhabited, DecidableEq
abbrev repD (r : Rep) : D := .agg [i64 r.st, i64 r.tk, i64 r.pr, i64 r.dl, i64 r.dh, i64 r.ur, i64 r.co]
abbrev wC (R : List Rep) : List D := [i64 2, .list (R.map repD), .list [.agg [i64 0, i64 1, i64 500]], .list [.agg [i64 15, i64 45, i64 8000, i64 3000]], i64 300, i64 360, i64 600, i64 360, i64 1080]
structure RepOk (r : Rep) : Prop where
  s : 0 ≤ r.st ∧ r.st ≤ 1
  t : 0 ≤ r.tk ∧ r.tk ≤ 10080
  p : 0 ≤ r.pr ∧ r.pr ≤ 99999
  d : 0 ≤ r.dl ∧ r.dl ≤ r.dh ∧ r.dh ≤ 2880
  u : 0 ≤ r.ur ∧ r.ur ≤ 2880
  c : 0 ≤ r.co ∧ r.co ≤ 10000
theorem nthL0 {a : D} {l : List D} {k : D → Prop} : wNth (a :: l) 0 k = k a := by
  unfold wNth
  simp
set_option maxRecDepth 100000 in
set_option maxHeartbeats 4000000 in
theorem nin_ok (x lo hi : Int) : CallsTo Tryz.prog 99 [i64 x, i64 lo, i64 hi] (.bool (decide (lo ≤ x ∧ x ≤ hi))) := by
  refine calls_abs Tryz.func99 Tryz.ntmps99 Tryz.results99 Tryz.call99 rfl (by simp) fun w0 S0 M0 => ?_
  repeat' (first | refine st1 ?_ | ((first | refine abs_region fun K hK => ?_ | refine abs_draw Tryz.ty.mixed (by kernel_rfl) fun K hK => ?_ | refine abs_if ?_ | show retQ _ _ _ _ _); (refine sim ?_; try exact trivial)) | ((first | (refine hK _ ?_; clear hK K) | show thenQ _ _ _ _ | show blockQ _ _ _ _ | show noGoQ _ _ _); refine qst ?_) | (intro hg; try exact fin2) | apply And.intro | exact fin | fail)
  all_goals (refine boolD ?_; simp only [decide_eq_true_eq, Bool.false_eq_true, false_iff, iff_false, true_iff, iff_true]; omega)
theorem nin_yes (x lo hi : Int) (h : lo ≤ x ∧ x ≤ hi) : CallsTo Tryz.prog 99 [i64 x, i64 lo, i64 hi] (.bool true) := by have := nin_ok x lo hi; rwa [decide_eq_true h] at this
set_option maxRecDepth 100000 in
set_option maxHeartbeats 4000000 in
theorem nspan_ok (a b m : Int) (h : 0 ≤ a ∧ a ≤ b ∧ b ≤ m) : CallsTo Tryz.prog 145 [.agg [i64 a, i64 b], i64 m] (.bool true) := by
  refine calls_abs Tryz.func145 Tryz.ntmps145 Tryz.results145 Tryz.call145 rfl (by simp) fun w0 S0 M0 => ?_
  repeat' (first | refine st1 ?_ | ((first | refine abs_region fun K hK => ?_ | refine abs_draw Tryz.ty.mixed (by kernel_rfl) fun K hK => ?_ | refine abs_if ?_ | show retQ _ _ _ _ _); (refine sim ?_; try exact trivial)) | ((first | (refine hK _ ?_; clear hK K) | show thenQ _ _ _ _ | show blockQ _ _ _ _ | show noGoQ _ _ _); refine qst ?_) | (intro hg; try exact fin2) | apply And.intro | exact fin | fail)
  all_goals (rw [decide_eq_true (by omega)])
set_option maxRecDepth 100000 in
set_option maxHeartbeats 4000000 in
theorem vrep_ok (R : List Rep) (r : Rep) (h : RepOk r) : CallsTo Tryz.prog 102 [.agg (wC R), repD r] (.bool true) := by
  have c1 := nin_yes r.st 0 1 h.s
  have c2 := nin_yes r.tk 0 10080 h.t
  have c3 := nin_yes r.pr 0 99999 h.p
  have c4 := nspan_ok r.dl r.dh 2880 h.d
  have c5 := nin_yes r.ur 0 2880 h.u
  have c6 := nin_yes r.co 0 10000 h.c
  refine calls_abs Tryz.func102 Tryz.ntmps102 Tryz.results102 Tryz.call102 rfl (by simp) fun w0 S0 M0 => ?_
  repeat' (first | refine st1 ?_ | ((first | refine abs_region fun K hK => ?_ | refine abs_draw Tryz.ty.mixed (by kernel_rfl) fun K hK => ?_ | refine abs_if ?_ | show retQ _ _ _ _ _ | refine callK (c1) ?_ | refine callK (c2) ?_ | refine callK (c3) ?_ | refine callK (c4) ?_ | refine callK (c5) ?_ | refine callK (c6) ?_); (refine sim ?_; try exact trivial)) | ((first | (refine hK _ ?_; clear hK K) | show thenQ _ _ _ _ | show blockQ _ _ _ _ | show noGoQ _ _ _); refine qst ?_) | (intro hg; try exact fin2) | apply And.intro | exact fin | fail)
  all_goals skip
set_option maxRecDepth 100000 in
set_option maxHeartbeats 4000000 in
theorem v1_ok (R : List Rep) (r : Rep) (h : RepOk r) : CallsTo Tryz.prog 101 [repD r, .ro (wC R)] (.bool false) := by
  have c1 := vrep_ok R r h
  refine calls_abs Tryz.func101 Tryz.ntmps101 Tryz.results101 Tryz.call101 rfl (by simp) fun w0 S0 M0 => ?_
  repeat' (first | refine st1 ?_ | ((first | refine abs_region fun K hK => ?_ | refine abs_draw Tryz.ty.mixed (by kernel_rfl) fun K hK => ?_ | refine abs_if ?_ | show retQ _ _ _ _ _ | refine callK (c1) ?_); (refine sim ?_; try exact trivial)) | ((first | (refine hK _ ?_; clear hK K) | show thenQ _ _ _ _ | show blockQ _ _ _ _ | show noGoQ _ _ _); refine qst ?_) | (intro hg; try exact fin2) | apply And.intro | exact fin | fail)
  all_goals rfl
set_option maxRecDepth 100000 in
set_option maxHeartbeats 4000000 in
theorem ix1_ok (R : List Rep) (hn : R.length ≤ 100) (h : ∀ i, i < R.length → RepOk (nth R i)) : CallsTo Tryz.prog 144 [.list (R.map repD), .clo 101 [.ro (wC R)]] (i64 (-1)) := by
  refine calls_abs Tryz.func144 Tryz.ntmps144 Tryz.results144 Tryz.call144 rfl (by simp) fun w0 S0 M0 => ?_
  repeat' (first | refine st1 ?_ | ((first | refine abs_region fun K hK => ?_ | refine abs_draw Tryz.ty.mixed (by kernel_rfl) fun K hK => ?_ | refine abs_if ?_ | show retQ _ _ _ _ _); (refine sim ?_; try exact trivial)) | ((first | (refine hK _ ?_; clear hK K) | show thenQ _ _ _ _ | show blockQ _ _ _ _ | show noGoQ _ _ _); refine qst ?_) | (intro hg; try exact fin2) | apply And.intro | exact fin | fail)
  refine abs_loopN (ι := Nat) (fun j => [(0, .list (R.map repD)), (1, .clo 101 [.ro (wC R)]), (7, i64 R.length), (8, i64 j)]) (fun _ => []) (fun _ => []) (fun j => j ≤ R.length) (fun j => R.length - j) (fun _ _ => ⟨rfl, rfl⟩) 0 (Nat.zero_le _) (le_of rfl (by try (refine sim ?_; try exact trivial); try simp) ⟨_, rfl⟩ ⟨_, rfl⟩) (fun j hj => ?_)
  by_cases hlt : j < R.length
  · have c1 := v1_ok R (nth R j) (h j hlt)
    (refine sim ?_; try exact trivial)
    repeat' (first | refine st1 ?_ | ((first | refine abs_region fun K hK => ?_ | refine abs_draw Tryz.ty.mixed (by kernel_rfl) fun K hK => ?_ | refine abs_if ?_ | show retQ _ _ _ _ _ | refine callK (c1) ?_); (refine sim ?_; try exact trivial)) | ((first | (refine hK _ ?_; clear hK K) | show thenQ _ _ _ _ | show blockQ _ _ _ _ | show noGoQ _ _ _); refine qst ?_) | (intro hg; try exact fin2) | apply And.intro | exact fin | fail)
    all_goals exact ⟨j + 1, by omega, by omega, le_of rfl (by try (refine sim ?_; try exact trivial); try simp) ⟨_, rfl⟩ ⟨_, rfl⟩⟩
  · obtain rfl : j = R.length := by omega
    (refine sim ?_; try exact trivial)
    repeat' (first | refine st1 ?_ | ((first | refine abs_region fun K hK => ?_ | refine abs_draw Tryz.ty.mixed (by kernel_rfl) fun K hK => ?_ | refine abs_if ?_ | show retQ _ _ _ _ _); (refine sim ?_; try exact trivial)) | ((first | (refine hK _ ?_; clear hK K) | show thenQ _ _ _ _ | show blockQ _ _ _ _ | show noGoQ _ _ _); refine qst ?_) | (intro hg; try exact fin2) | apply And.intro | exact fin | fail)
    all_goals skip
set_option maxRecDepth 100000 in
set_option maxHeartbeats 4000000 in
theorem cf1_ok (R : List Rep) (hn : R.length ≤ 100) (h : ∀ i, i < R.length → RepOk (nth R i)) : CallsTo Tryz.prog 100 [.list (R.map repD), .clo 101 [.ro (wC R)]] (.bool false) := by
  have c1 := ix1_ok R hn h
  refine calls_abs Tryz.func100 Tryz.ntmps100 Tryz.results100 Tryz.call100 rfl (by simp) fun w0 S0 M0 => ?_
  repeat' (first | refine st1 ?_ | ((first | refine abs_region fun K hK => ?_ | refine abs_draw Tryz.ty.mixed (by kernel_rfl) fun K hK => ?_ | refine abs_if ?_ | show retQ _ _ _ _ _ | refine callK (c1) ?_); (refine sim ?_; try exact trivial)) | ((first | (refine hK _ ?_; clear hK K) | show thenQ _ _ _ _ | show blockQ _ _ _ _ | show noGoQ _ _ _); refine qst ?_) | (intro hg; try exact fin2) | apply And.intro | exact fin | fail)
  all_goals rfl
abbrev lkD : D := .agg [i64 0, i64 1, i64 500]
set_option maxRecDepth 100000 in
set_option maxHeartbeats 4000000 in
theorem vlink_ok (R : List Rep) : CallsTo Tryz.prog 105 [.agg (wC R), lkD] (.bool true) := by
  have c1 := nin_yes 0 0 1 (by decide)
  have c2 := nin_yes 1 0 1 (by decide)
  have c3 := nin_yes 500 1 99999 (by decide)
  refine calls_abs Tryz.func105 Tryz.ntmps105 Tryz.results105 Tryz.call105 rfl (by simp) fun w0 S0 M0 => ?_
  repeat' (first | refine st1 ?_ | ((first | refine abs_region fun K hK => ?_ | refine abs_draw Tryz.ty.mixed (by kernel_rfl) fun K hK => ?_ | refine abs_if ?_ | show retQ _ _ _ _ _ | refine callK (c1) ?_ | refine callK (c2) ?_ | refine callK (c3) ?_); (refine sim ?_; try exact trivial)) | ((first | (refine hK _ ?_; clear hK K) | show thenQ _ _ _ _ | show blockQ _ _ _ _ | show noGoQ _ _ _); refine qst ?_) | (intro hg; try exact fin2) | apply And.intro | exact fin | fail)
  all_goals rfl
set_option maxRecDepth 100000 in
set_option maxHeartbeats 4000000 in
theorem v2_ok (R : List Rep) : CallsTo Tryz.prog 104 [lkD, .ro (wC R)] (.bool false) := by
  have c1 := vlink_ok R
  refine calls_abs Tryz.func104 Tryz.ntmps104 Tryz.results104 Tryz.call104 rfl (by simp) fun w0 S0 M0 => ?_
  repeat' (first | refine st1 ?_ | ((first | refine abs_region fun K hK => ?_ | refine abs_draw Tryz.ty.mixed (by kernel_rfl) fun K hK => ?_ | refine abs_if ?_ | show retQ _ _ _ _ _ | refine callK (c1) ?_); (refine sim ?_; try exact trivial)) | ((first | (refine hK _ ?_; clear hK K) | show thenQ _ _ _ _ | show blockQ _ _ _ _ | show noGoQ _ _ _); refine qst ?_) | (intro hg; try exact fin2) | apply And.intro | exact fin | fail)
  all_goals rfl
set_option maxRecDepth 100000 in
set_option maxHeartbeats 4000000 in
theorem ix2_ok (f : FuncId) (cs : List D) (hcs : Cl cs) (v : Bool) (hf : CallsTo Tryz.prog f (lkD :: cs) (.bool v)) : CallsTo Tryz.prog 146 [.list [lkD], .clo f cs] (i64 (if v then 0 else -1)) := by
  have hcs1 := hcs.1
  refine calls_abs Tryz.func146 Tryz.ntmps146 Tryz.results146 Tryz.call146 rfl (by simp) fun w0 S0 M0 => ?_
  repeat' (first | refine st1 ?_ | ((first | refine abs_region fun K hK => ?_ | refine abs_draw Tryz.ty.mixed (by kernel_rfl) fun K hK => ?_ | refine abs_if ?_ | show retQ _ _ _ _ _); (refine sim ?_; try exact trivial)) | ((first | (refine hK _ ?_; clear hK K) | show thenQ _ _ _ _ | show blockQ _ _ _ _ | show noGoQ _ _ _); refine qst ?_) | (intro hg; try exact fin2) | apply And.intro | exact fin | fail)
  refine abs_loopN (ι := Nat) (fun j => [(0, .list [lkD]), (1, .clo f cs), (7, i64 1), (8, i64 j)]) (fun _ => []) (fun _ => []) (fun j => j ≤ 1 ∧ (1 ≤ j → v = false)) (fun j => 1 - j) (fun _ _ => ⟨by simp [namesB, namesL, hcs.names], rfl⟩) 0 ⟨by omega, by omega⟩ (le_of rfl (by try (refine sim ?_; try exact trivial); try simp) ⟨_, rfl⟩ ⟨_, rfl⟩) (fun j ⟨hj, hv⟩ => ?_)
  match j, hj with
  | 0, _ =>
    cases v with
    | true =>
      simp -implicitDefEqProofs only [go_sem, bas, basL, Nat.reduceAdd, Nat.reduceSub, Nat.reduceMul, Nat.reduceLT, Nat.reduceLeDiff, Nat.reduceEqDiff, Nat.reduceBEq, Int.reduceLT, Int.reduceLE, Int.reduceToNat, Int.reduceAdd, Int.reduceSub, Int.reduceMul, Int.reduceNeg, Int.reduceEq, reduceCtorEq, eq_self, ne_eq, not_false_eq_true, if_true, reduceIte, hcs.1, hcs.2, Int.natCast_zero, ↓nthL0]
      repeat' (first | refine st1 ?_ | ((first | refine abs_region fun K hK => ?_ | refine abs_draw Tryz.ty.mixed (by kernel_rfl) fun K hK => ?_ | refine abs_if ?_ | show retQ _ _ _ _ _ | refine callK (hf) ?_); simp -implicitDefEqProofs only [go_sem, bas, basL, Nat.reduceAdd, Nat.reduceSub, Nat.reduceMul, Nat.reduceLT, Nat.reduceLeDiff, Nat.reduceEqDiff, Nat.reduceBEq, Int.reduceLT, Int.reduceLE, Int.reduceToNat, Int.reduceAdd, Int.reduceSub, Int.reduceMul, Int.reduceNeg, Int.reduceEq, reduceCtorEq, eq_self, ne_eq, not_false_eq_true, if_true, reduceIte, hcs.1, hcs.2, Int.natCast_zero, ↓nthL0]) | ((first | (refine hK _ ?_; clear hK K) | show thenQ _ _ _ _ | show blockQ _ _ _ _ | show noGoQ _ _ _); refine qst ?_) | (intro hg; try exact fin2) | apply And.intro | exact fin | fail)
      all_goals rfl
    | false =>
      simp -implicitDefEqProofs only [go_sem, bas, basL, Nat.reduceAdd, Nat.reduceSub, Nat.reduceMul, Nat.reduceLT, Nat.reduceLeDiff, Nat.reduceEqDiff, Nat.reduceBEq, Int.reduceLT, Int.reduceLE, Int.reduceToNat, Int.reduceAdd, Int.reduceSub, Int.reduceMul, Int.reduceNeg, Int.reduceEq, reduceCtorEq, eq_self, ne_eq, not_false_eq_true, if_true, reduceIte, hcs.1, hcs.2, Int.natCast_zero, ↓nthL0]
      repeat' (first | refine st1 ?_ | ((first | refine abs_region fun K hK => ?_ | refine abs_draw Tryz.ty.mixed (by kernel_rfl) fun K hK => ?_ | refine abs_if ?_ | show retQ _ _ _ _ _ | refine callK (hf) ?_); simp -implicitDefEqProofs only [go_sem, bas, basL, Nat.reduceAdd, Nat.reduceSub, Nat.reduceMul, Nat.reduceLT, Nat.reduceLeDiff, Nat.reduceEqDiff, Nat.reduceBEq, Int.reduceLT, Int.reduceLE, Int.reduceToNat, Int.reduceAdd, Int.reduceSub, Int.reduceMul, Int.reduceNeg, Int.reduceEq, reduceCtorEq, eq_self, ne_eq, not_false_eq_true, if_true, reduceIte, hcs.1, hcs.2, Int.natCast_zero, ↓nthL0]) | ((first | (refine hK _ ?_; clear hK K) | show thenQ _ _ _ _ | show blockQ _ _ _ _ | show noGoQ _ _ _); refine qst ?_) | (intro hg; try exact fin2) | apply And.intro | exact fin | fail)
      all_goals exact ⟨1, ⟨by omega, by intros; trivial⟩, by omega, le_of rfl (by try simp -implicitDefEqProofs only [go_sem, bas, basL, Nat.reduceAdd, Nat.reduceSub, Nat.reduceMul, Nat.reduceLT, Nat.reduceLeDiff, Nat.reduceEqDiff, Nat.reduceBEq, Int.reduceLT, Int.reduceLE, Int.reduceToNat, Int.reduceAdd, Int.reduceSub, Int.reduceMul, Int.reduceNeg, Int.reduceEq, reduceCtorEq, eq_self, ne_eq, not_false_eq_true, if_true, reduceIte, hcs.1, hcs.2, Int.natCast_zero, ↓nthL0]; try simp) ⟨_, rfl⟩ ⟨_, rfl⟩⟩
  | 1, _ =>
    obtain rfl := hv (by omega)
    (refine sim ?_; try exact trivial)
    repeat' (first | refine st1 ?_ | ((first | refine abs_region fun K hK => ?_ | refine abs_draw Tryz.ty.mixed (by kernel_rfl) fun K hK => ?_ | refine abs_if ?_ | show retQ _ _ _ _ _); (refine sim ?_; try exact trivial)) | ((first | (refine hK _ ?_; clear hK K) | show thenQ _ _ _ _ | show blockQ _ _ _ _ | show noGoQ _ _ _); refine qst ?_) | (intro hg; try exact fin2) | apply And.intro | exact fin | fail)
    all_goals rfl
set_option maxRecDepth 100000 in
set_option maxHeartbeats 4000000 in
theorem cf2_ok (f : FuncId) (cs : List D) (hcs : Cl cs) (v : Bool) (hf : CallsTo Tryz.prog f (lkD :: cs) (.bool v)) : CallsTo Tryz.prog 103 [.list [lkD], .clo f cs] (.bool v) := by
  have c1 := ix2_ok f cs hcs v hf
  cases v with
  | true =>
    refine calls_abs Tryz.func103 Tryz.ntmps103 Tryz.results103 Tryz.call103 rfl (by simp) fun w0 S0 M0 => ?_
    repeat' (first | refine st1 ?_ | ((first | refine abs_region fun K hK => ?_ | refine abs_draw Tryz.ty.mixed (by kernel_rfl) fun K hK => ?_ | refine abs_if ?_ | show retQ _ _ _ _ _ | refine callK (c1) ?_); (refine withX (And.intro @hcs.1 (@hcs.2)) fun hX => ?_; refine simh ?_; clear hX; try exact trivial)) | ((first | (refine hK _ ?_; clear hK K) | show thenQ _ _ _ _ | show blockQ _ _ _ _ | show noGoQ _ _ _); refine qst ?_) | (intro hg; try exact fin2) | apply And.intro | exact fin | fail)
    all_goals rfl
  | false =>
    refine calls_abs Tryz.func103 Tryz.ntmps103 Tryz.results103 Tryz.call103 rfl (by simp) fun w0 S0 M0 => ?_
    repeat' (first | refine st1 ?_ | ((first | refine abs_region fun K hK => ?_ | refine abs_draw Tryz.ty.mixed (by kernel_rfl) fun K hK => ?_ | refine abs_if ?_ | show retQ _ _ _ _ _ | refine callK (c1) ?_); (refine withX (And.intro @hcs.1 (@hcs.2)) fun hX => ?_; refine simh ?_; clear hX; try exact trivial)) | ((first | (refine hK _ ?_; clear hK K) | show thenQ _ _ _ _ | show blockQ _ _ _ _ | show noGoQ _ _ _); refine qst ?_) | (intro hg; try exact fin2) | apply And.intro | exact fin | fail)
    all_goals rfl
abbrev ptD : D := .agg [i64 15, i64 45, i64 8000, i64 3000]
set_option maxRecDepth 100000 in
set_option maxHeartbeats 4000000 in
theorem vport_ok : CallsTo Tryz.prog 108 [ptD] (.bool true) := by
  have c1 := nspan_ok 15 45 2880 (by decide)
  have c2 := nin_yes 8000 0 50000 (by decide)
  have c3 := nin_yes 3000 0 50000 (by decide)
  refine calls_abs Tryz.func108 Tryz.ntmps108 Tryz.results108 Tryz.call108 rfl (by simp) fun w0 S0 M0 => ?_
  repeat' (first | refine st1 ?_ | ((first | refine abs_region fun K hK => ?_ | refine abs_draw Tryz.ty.mixed (by kernel_rfl) fun K hK => ?_ | refine abs_if ?_ | show retQ _ _ _ _ _ | refine callK (c1) ?_ | refine callK (c2) ?_ | refine callK (c3) ?_); (refine sim ?_; try exact trivial)) | ((first | (refine hK _ ?_; clear hK K) | show thenQ _ _ _ _ | show blockQ _ _ _ _ | show noGoQ _ _ _); refine qst ?_) | (intro hg; try exact fin2) | apply And.intro | exact fin | fail)
  all_goals rfl
set_option maxRecDepth 100000 in
set_option maxHeartbeats 4000000 in
theorem v3_ok : CallsTo Tryz.prog 107 [ptD] (.bool false) := by
  have c1 := vport_ok
  refine calls_abs Tryz.func107 Tryz.ntmps107 Tryz.results107 Tryz.call107 rfl (by simp) fun w0 S0 M0 => ?_
  repeat' (first | refine st1 ?_ | ((first | refine abs_region fun K hK => ?_ | refine abs_draw Tryz.ty.mixed (by kernel_rfl) fun K hK => ?_ | refine abs_if ?_ | show retQ _ _ _ _ _ | refine callK (c1) ?_); (refine sim ?_; try exact trivial)) | ((first | (refine hK _ ?_; clear hK K) | show thenQ _ _ _ _ | show blockQ _ _ _ _ | show noGoQ _ _ _); refine qst ?_) | (intro hg; try exact fin2) | apply And.intro | exact fin | fail)
  all_goals rfl
set_option maxRecDepth 100000 in
set_option maxHeartbeats 4000000 in
theorem ix3_ok : CallsTo Tryz.prog 147 [.list [ptD], .clo 107 []] (i64 (-1)) := by
  have c1 := v3_ok
  refine calls_abs Tryz.func147 Tryz.ntmps147 Tryz.results147 Tryz.call147 rfl (by simp) fun w0 S0 M0 => ?_
  repeat' (first | refine st1 ?_ | ((first | refine abs_region fun K hK => ?_ | refine abs_draw Tryz.ty.mixed (by kernel_rfl) fun K hK => ?_ | refine abs_if ?_ | show retQ _ _ _ _ _); (refine sim ?_; try exact trivial)) | ((first | (refine hK _ ?_; clear hK K) | show thenQ _ _ _ _ | show blockQ _ _ _ _ | show noGoQ _ _ _); refine qst ?_) | (intro hg; try exact fin2) | apply And.intro | exact fin | fail)
  refine abs_loopN (ι := Nat) (fun j => [(0, .list [ptD]), (1, .clo 107 []), (7, i64 1), (8, i64 j)]) (fun _ => []) (fun _ => []) (fun j => j ≤ 1) (fun j => 1 - j) (fun _ _ => ⟨rfl, rfl⟩) 0 (by omega) (le_of rfl (by try (refine sim ?_; try exact trivial); try simp) ⟨_, rfl⟩ ⟨_, rfl⟩) (fun j hj => ?_)
  match j, hj with
  | 0, _ =>
    simp -implicitDefEqProofs only [go_sem, bas, basL, Nat.reduceAdd, Nat.reduceSub, Nat.reduceMul, Nat.reduceLT, Nat.reduceLeDiff, Nat.reduceEqDiff, Nat.reduceBEq, Int.reduceLT, Int.reduceLE, Int.reduceToNat, Int.reduceAdd, Int.reduceSub, Int.reduceMul, Int.reduceNeg, Int.reduceEq, reduceCtorEq, eq_self, ne_eq, not_false_eq_true, if_true, reduceIte, Int.natCast_zero, ↓nthL0]
    repeat' (first | refine st1 ?_ | ((first | refine abs_region fun K hK => ?_ | refine abs_draw Tryz.ty.mixed (by kernel_rfl) fun K hK => ?_ | refine abs_if ?_ | show retQ _ _ _ _ _ | refine callK (c1) ?_); simp -implicitDefEqProofs only [go_sem, bas, basL, Nat.reduceAdd, Nat.reduceSub, Nat.reduceMul, Nat.reduceLT, Nat.reduceLeDiff, Nat.reduceEqDiff, Nat.reduceBEq, Int.reduceLT, Int.reduceLE, Int.reduceToNat, Int.reduceAdd, Int.reduceSub, Int.reduceMul, Int.reduceNeg, Int.reduceEq, reduceCtorEq, eq_self, ne_eq, not_false_eq_true, if_true, reduceIte, Int.natCast_zero, ↓nthL0]) | ((first | (refine hK _ ?_; clear hK K) | show thenQ _ _ _ _ | show blockQ _ _ _ _ | show noGoQ _ _ _); refine qst ?_) | (intro hg; try exact fin2) | apply And.intro | exact fin | fail)
    all_goals exact ⟨1, by omega, by omega, le_of rfl (by try simp -implicitDefEqProofs only [go_sem, bas, basL, Nat.reduceAdd, Nat.reduceSub, Nat.reduceMul, Nat.reduceLT, Nat.reduceLeDiff, Nat.reduceEqDiff, Nat.reduceBEq, Int.reduceLT, Int.reduceLE, Int.reduceToNat, Int.reduceAdd, Int.reduceSub, Int.reduceMul, Int.reduceNeg, Int.reduceEq, reduceCtorEq, eq_self, ne_eq, not_false_eq_true, if_true, reduceIte, Int.natCast_zero, ↓nthL0]; try simp) ⟨_, rfl⟩ ⟨_, rfl⟩⟩
  | 1, _ =>
    (refine sim ?_; try exact trivial)
    repeat' (first | refine st1 ?_ | ((first | refine abs_region fun K hK => ?_ | refine abs_draw Tryz.ty.mixed (by kernel_rfl) fun K hK => ?_ | refine abs_if ?_ | show retQ _ _ _ _ _); (refine sim ?_; try exact trivial)) | ((first | (refine hK _ ?_; clear hK K) | show thenQ _ _ _ _ | show blockQ _ _ _ _ | show noGoQ _ _ _); refine qst ?_) | (intro hg; try exact fin2) | apply And.intro | exact fin | fail)
    all_goals rfl
set_option maxRecDepth 100000 in
set_option maxHeartbeats 4000000 in
theorem cf3_ok : CallsTo Tryz.prog 106 [.list [ptD], .clo 107 []] (.bool false) := by
  have c1 := ix3_ok
  refine calls_abs Tryz.func106 Tryz.ntmps106 Tryz.results106 Tryz.call106 rfl (by simp) fun w0 S0 M0 => ?_
  repeat' (first | refine st1 ?_ | ((first | refine abs_region fun K hK => ?_ | refine abs_draw Tryz.ty.mixed (by kernel_rfl) fun K hK => ?_ | refine abs_if ?_ | show retQ _ _ _ _ _ | refine callK (c1) ?_); (refine sim ?_; try exact trivial)) | ((first | (refine hK _ ?_; clear hK K) | show thenQ _ _ _ _ | show blockQ _ _ _ _ | show noGoQ _ _ _); refine qst ?_) | (intro hg; try exact fin2) | apply And.intro | exact fin | fail)
  all_goals rfl
end Go.Proofs.YtmnepfejoneghaaGreatDoor
