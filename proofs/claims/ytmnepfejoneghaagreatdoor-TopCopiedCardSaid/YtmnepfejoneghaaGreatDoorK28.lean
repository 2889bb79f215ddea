import Derived.Test.YtmnepfejoneghaaGreatDoorK27
import Derived.Test.YtmnepfejoneghaaGreatDoorK13
import Derived.Test.YtmnepfejoneghaaGreatDoorK24
set_option linter.unusedVariables false
set_option linter.unusedSimpArgs false
namespace Go.Proofs.YtmnepfejoneghaaGreatDoor
open Go.Ab
attribute [local irreducible] Abs CallK CallR CallsTo CallsB IA AbM AbMC
theorem xsI_form (ks : List (List Int)) (i : Nat) : ∀ (k : Nat) (x : List D), x ∈ xsI ks i k → ∃ p q : Int, x = [.agg [i64 p, i64 q]]
  | 0, x, h => by simp [xsI] at h
  | k + 1, x, h => by
    simp only [xsI, List.mem_append] at h
    rcases h with h | h
    · exact xsI_form ks i k x h
    · split at h
      · simp only [List.mem_singleton] at h
        exact ⟨i, k, h⟩
      · simp at h
theorem xsO_form (ks : List (List Int)) (n : Nat) : ∀ (k : Nat) (x : List D), x ∈ xsO ks n k → ∃ p q : Int, x = [.agg [i64 p, i64 q]]
  | 0, x, h => by simp [xsO] at h
  | k + 1, x, h => by
    simp only [xsO, List.mem_append] at h
    rcases h with h | h
    · exact xsO_form ks n k x h
    · exact xsI_form ks k n x h
theorem xsI_len (ks : List (List Int)) (i : Nat) : ∀ k, (xsI ks i k).length ≤ k
  | 0 => by simp [xsI]
  | k + 1 => by
    have := xsI_len ks i k
    simp only [xsI, List.length_append]
    split <;> simp <;> omega
theorem xsO_len (ks : List (List Int)) (n : Nat) : ∀ k, (xsO ks n k).length ≤ k * n
  | 0 => by simp [xsO]
  | k + 1 => by
    have := xsO_len ks n k
    have := xsI_len ks k n
    simp only [xsO, List.length_append, Nat.succ_mul]
    omega
theorem flat1 : ∀ {l : List (List D)}, (∀ x ∈ l, x.length = 1) → l.flatten.length = l.length
  | [], _ => rfl
  | x :: l, h => by
    have h1 := h x (List.mem_cons_self ..)
    have := flat1 (l := l) (fun y hy => h y (List.mem_cons_of_mem _ hy))
    simp only [List.flatten_cons, List.length_append, List.length_cons]
    omega
abbrev alL (R : List Rep) : List (List D) := xsO (ksO R R.length) R.length R.length
set_option maxRecDepth 100000 in
set_option maxHeartbeats 4000000 in
theorem nalarms_ok (R : List Rep) (hn : R.length ≤ 9) (h : ∀ i, i < R.length → RepOk (nth R i)) : CallsTo Tryz.prog 21 [.agg (wC R)] (.tup [.list (alL R).flatten, i64 0]) := by
  have c1 := cnvalid_ok R hn h
  have c2 := nlook_ok R hn h
  have hI := alarms_iter R hn (ksO R R.length)
  have hfm := xsO_form (ksO R R.length) R.length R.length
  rw [show xsO (ksO R R.length) R.length R.length = alL R from rfl] at hI hfm
  have hlen : (alL R).length ≤ 81 := Nat.le_trans (xsO_len (ksO R R.length) R.length R.length) (Nat.mul_le_mul hn hn)
  generalize alL R = xs at *
  refine calls_abs Tryz.func21 Tryz.ntmps21 Tryz.results21 Tryz.call21 rfl (by simp) fun w0 S0 M0 => ?_
  repeat' (first | refine st1 ?_ | ((first | refine abs_region fun K hK => ?_ | refine abs_draw Tryz.ty.mixed (by kernel_rfl) fun K hK => ?_ | refine abs_if ?_ | show retQ _ _ _ _ _ | refine callK (c1) ?_ | refine callK (c2) ?_); (refine sim ?_; try exact trivial)) | ((first | (refine hK _ ?_; clear hK K) | show thenQ _ _ _ _ | show blockQ _ _ _ _ | show noGoQ _ _ _); refine qst ?_) | (intro hg; try exact fin2) | apply And.intro | exact fin | fail)
  refine abs_adoptB 1 0 144 2 _ rfl rfl ?_
  refine abs_rangeMeth (gf := 62) (cs := [wlD R (ksO R R.length)]) (cs' := [wlD R (ksO R R.length)]) (xs := xs) (by try (refine sim ?_; try exact trivial)) rfl hI (fun x hx => by obtain ⟨p, q, rfl⟩ := hfm x hx; rfl) (by simp)
    (slots [(4, D.box 1 0)]) (fun _ => [.mu (wC R), .mu [.own 0]]) (fun k => [⟨true, 144, 2, (xs.take k).flatten⟩]) 2
    (le_slots rfl (by try (refine sim ?_; try exact trivial); try simp) ⟨_, rfl⟩ ⟨_, rfl⟩) (slots_names rfl) (fun _ _ => rfl) (fun _ _ => ⟨fun _ => .undef, namesBx_of _ (by simp [namesBx, namesB, namesL])⟩) (by simp) ?_ ?_
  · intro k x hk w1 S1 M1 l o1 b1 hb1
    obtain ⟨p, q, rfl⟩ := hfm x (List.mem_of_getElem? hk)
    have e1 : (xs.take (k + 1)).flatten = (xs.take k).flatten ++ [.agg [i64 p, i64 q]] := by
      rw [List.take_add_one, hk]; simp
    show Abs _ _ _ ⟨18, put (slots [(4, D.box 1 0)]) 12 (.agg [i64 p, i64 q]), _, _⟩
    have e2 : (xs.take k).flatten.length ≤ 81 := by
      rw [flat1 (fun x hx => by obtain ⟨p, q, rfl⟩ := hfm x (List.mem_of_mem_take hx); rfl)]
      exact Nat.le_trans (List.length_take_le' _ _) hlen
    (refine sim ?_; try exact trivial)
    repeat' (first | refine st1 ?_ | ((first | refine abs_region fun K hK => ?_ | refine abs_draw Tryz.ty.mixed (by kernel_rfl) fun K hK => ?_ | refine abs_if ?_ | show retQ _ _ _ _ _); (refine sim ?_; try exact trivial)) | ((first | (refine hK _ ?_; clear hK K) | show thenQ _ _ _ _ | show blockQ _ _ _ _ | show noGoQ _ _ _); refine qst ?_) | (intro hg; try exact fin2) | apply And.intro | exact fin | fail)
    all_goals first | omega | skip
    show Le _ (mkSt 18 [] [.mu (wC R), .mu [.own 0]] [⟨true, 144, 2, (xs.take (k + 1)).flatten⟩])
    exact le_of rfl (fun p hp => by cases hp) ⟨_, rfl⟩ ⟨[], by simp [e1]⟩
  · (refine sim ?_; try exact trivial)
    repeat' (first | refine st1 ?_ | ((first | refine abs_region fun K hK => ?_ | refine abs_draw Tryz.ty.mixed (by kernel_rfl) fun K hK => ?_ | refine abs_if ?_ | show retQ _ _ _ _ _); (refine sim ?_; try exact trivial)) | ((first | (refine hK _ ?_; clear hK K) | show thenQ _ _ _ _ | show blockQ _ _ _ _ | show noGoQ _ _ _); refine qst ?_) | (intro hg; try exact fin2) | apply And.intro | exact fin | fail)
    all_goals simp
def R4 : List Rep := [⟨0, 480, 75500, 20, 60, 10, 5⟩, ⟨0, 780, 75250, 30, 90, 15, 6⟩, ⟨1, 760, 74980, 40, 200, 20, 9⟩, ⟨0, 840, 75150, 10, 50, 10, 4⟩]
theorem R4_ok : ∀ i, i < R4.length → RepOk (nth R4 i) := by
  intro i hi
  match i, hi with
  | 0, _ => exact ⟨by decide, by decide, by decide, by decide, by decide, by decide⟩
  | 1, _ => exact ⟨by decide, by decide, by decide, by decide, by decide, by decide⟩
  | 2, _ => exact ⟨by decide, by decide, by decide, by decide, by decide, by decide⟩
  | 3, _ => exact ⟨by decide, by decide, by decide, by decide, by decide, by decide⟩
theorem alR4 : (alL R4).flatten = [.agg [i64 0, i64 2], .agg [i64 0, i64 3]] := by rfl
set_option maxRecDepth 100000 in
set_option maxHeartbeats 4000000 in
theorem span63_ok (a b : Int) : CallsTo Tryz.prog 63 [i64 a, i64 b] (.agg [i64 a, i64 b]) := by
  refine calls_abs Tryz.func63 Tryz.ntmps63 Tryz.results63 Tryz.call63 rfl (by simp) fun w0 S0 M0 => ?_
  repeat' (first | refine st1 ?_ | ((first | refine abs_region fun K hK => ?_ | refine abs_draw Tryz.ty.mixed (by kernel_rfl) fun K hK => ?_ | refine abs_if ?_ | show retQ _ _ _ _ _); (refine sim ?_; try exact trivial)) | ((first | (refine hK _ ?_; clear hK K) | show thenQ _ _ _ _ | show blockQ _ _ _ _ | show noGoQ _ _ _); refine qst ?_) | (intro hg; try exact fin2) | apply And.intro | exact fin | fail)
  all_goals rfl
set_option maxRecDepth 100000 in
set_option maxHeartbeats 4000000 in
theorem W_ok : CallsTo Tryz.prog 22 [] (.agg (wC R4)) := by
  have c1 := span63_ok
  refine calls_abs Tryz.func22 Tryz.ntmps22 Tryz.results22 Tryz.call22 rfl (by simp) fun w0 S0 M0 => ?_
  repeat' (first | refine st1 ?_ | ((first | refine abs_region fun K hK => ?_ | refine abs_draw Tryz.ty.mixed (by kernel_rfl) fun K hK => ?_ | refine abs_if ?_ | show retQ _ _ _ _ _ | refine callK (c1 _ _) ?_); (refine sim ?_; try exact trivial)) | ((first | (refine hK _ ?_; clear hK K) | show thenQ _ _ _ _ | show blockQ _ _ _ _ | show noGoQ _ _ _); refine qst ?_) | (intro hg; try exact fin2) | apply And.intro | exact fin | fail)
  all_goals rfl
set_option maxRecDepth 100000 in
set_option maxHeartbeats 4000000 in
theorem known5a : CallsTo Tryz.prog 21 [.agg (wC R4)] (.tup [.list [.agg [i64 0, i64 2], .agg [i64 0, i64 3]], i64 0]) := by
  have := nalarms_ok R4 (by decide) R4_ok
  rwa [alR4] at this
end Go.Proofs.YtmnepfejoneghaaGreatDoor
namespace Go.Proofs.YtmnepfejoneghaaGreatDoor
open Go.Ab
attribute [local irreducible] Abs CallK CallR CallsTo CallsB IA
abbrev wpD (p : Int × Int) : D := .agg [i64 p.1, i64 p.2]
abbrev wpsD (r : List (Int × Int)) : D := .list (r.map wpD)
def WSp (p : Int × Int) : Prop := 0 ≤ p.1 ∧ p.1 ≤ p.2 ∧ p.2 ≤ 60
theorem win_yes (x lo hi : Int) (h : lo ≤ x ∧ x ≤ hi) : CallsTo Tryz.prog 37 [i64 x, i64 lo, i64 hi] (.bool true) := by have := win_ok x lo hi; rwa [decide_eq_true h] at this
set_option maxRecDepth 100000 in
set_option maxHeartbeats 4000000 in
theorem rsp_ok (p : Int × Int) (h : WSp p) : CallsTo Tryz.prog 111 [wpD p] (.bool false) := by
  obtain ⟨h1, h2, h3⟩ := h
  refine calls_abs Tryz.func111 Tryz.ntmps111 Tryz.results111 Tryz.call111 rfl (by simp) fun w0 S0 M0 => ?_
  repeat' (first | refine st1 ?_ | ((first | refine abs_region fun K hK => ?_ | refine abs_draw Tryz.ty.mixed (by kernel_rfl) fun K hK => ?_ | refine abs_if ?_ | show retQ _ _ _ _ _); (refine sim ?_; try exact trivial)) | ((first | (refine hK _ ?_; clear hK K) | show thenQ _ _ _ _ | show blockQ _ _ _ _ | show noGoQ _ _ _); refine qst ?_) | (intro hg; try exact fin2) | apply And.intro | exact fin | fail)
  all_goals (rw [decide_eq_false (by omega)])
set_option maxRecDepth 100000 in
set_option maxHeartbeats 4000000 in
theorem rix_ok (R : List (Int × Int)) (hn : R.length ≤ 100) (h : ∀ i, i < R.length → WSp (nth R i)) : CallsTo Tryz.prog 151 [wpsD R, .clo 111 []] (i64 (-1)) := by
  refine calls_abs Tryz.func151 Tryz.ntmps151 Tryz.results151 Tryz.call151 rfl (by simp) fun w0 S0 M0 => ?_
  repeat' (first | refine st1 ?_ | ((first | refine abs_region fun K hK => ?_ | refine abs_draw Tryz.ty.mixed (by kernel_rfl) fun K hK => ?_ | refine abs_if ?_ | show retQ _ _ _ _ _); (refine sim ?_; try exact trivial)) | ((first | (refine hK _ ?_; clear hK K) | show thenQ _ _ _ _ | show blockQ _ _ _ _ | show noGoQ _ _ _); refine qst ?_) | (intro hg; try exact fin2) | apply And.intro | exact fin | fail)
  refine abs_loopN (ι := Nat) (fun j => [(0, wpsD R), (1, .clo 111 []), (7, i64 R.length), (8, i64 j)]) (fun _ => []) (fun _ => []) (fun j => j ≤ R.length) (fun j => R.length - j) (fun _ _ => ⟨rfl, rfl⟩) 0 (Nat.zero_le _) (le_of rfl (by try (refine sim ?_; try exact trivial); try simp) ⟨_, rfl⟩ ⟨_, rfl⟩) (fun j hj => ?_)
  by_cases hlt : j < R.length
  · have c1 := rsp_ok (nth R j) (h j hlt)
    (refine sim ?_; try exact trivial)
    repeat' (first | refine st1 ?_ | ((first | refine abs_region fun K hK => ?_ | refine abs_draw Tryz.ty.mixed (by kernel_rfl) fun K hK => ?_ | refine abs_if ?_ | show retQ _ _ _ _ _ | refine callK (c1) ?_); (refine sim ?_; try exact trivial)) | ((first | (refine hK _ ?_; clear hK K) | show thenQ _ _ _ _ | show blockQ _ _ _ _ | show noGoQ _ _ _); refine qst ?_) | (intro hg; try exact fin2) | apply And.intro | exact fin | fail)
    all_goals exact ⟨j + 1, by omega, by omega, le_of rfl (by try (refine sim ?_; try exact trivial); try simp) ⟨_, rfl⟩ ⟨_, rfl⟩⟩
  · obtain rfl : j = R.length := by omega
    (refine sim ?_; try exact trivial)
    repeat' (first | refine st1 ?_ | ((first | refine abs_region fun K hK => ?_ | refine abs_draw Tryz.ty.mixed (by kernel_rfl) fun K hK => ?_ | refine abs_if ?_ | show retQ _ _ _ _ _); (refine sim ?_; try exact trivial)) | ((first | (refine hK _ ?_; clear hK K) | show thenQ _ _ _ _ | show blockQ _ _ _ _ | show noGoQ _ _ _); refine qst ?_) | (intro hg; try exact fin2) | apply And.intro | exact fin | fail)
    all_goals skip
set_option maxRecDepth 100000 in
set_option maxHeartbeats 4000000 in
theorem rcf_ok (R : List (Int × Int)) (hn : R.length ≤ 100) (h : ∀ i, i < R.length → WSp (nth R i)) : CallsTo Tryz.prog 110 [wpsD R, .clo 111 []] (.bool false) := by
  have c1 := rix_ok R hn h
  refine calls_abs Tryz.func110 Tryz.ntmps110 Tryz.results110 Tryz.call110 rfl (by simp) fun w0 S0 M0 => ?_
  repeat' (first | refine st1 ?_ | ((first | refine abs_region fun K hK => ?_ | refine abs_draw Tryz.ty.mixed (by kernel_rfl) fun K hK => ?_ | refine abs_if ?_ | show retQ _ _ _ _ _ | refine callK (c1) ?_); (refine sim ?_; try exact trivial)) | ((first | (refine hK _ ?_; clear hK K) | show thenQ _ _ _ _ | show blockQ _ _ _ _ | show noGoQ _ _ _); refine qst ?_) | (intro hg; try exact fin2) | apply And.intro | exact fin | fail)
  all_goals rfl
abbrev wrC (S : List (Int × Int)) (R : List (List (Int × Int))) : List D := [i64 0, wpsD S, .list (R.map wpsD)]
structure WRd (S : List (Int × Int)) (R : List (List (Int × Int))) : Prop where
  n : 1 ≤ S.length ∧ S.length ≤ 6
  r : R.length = S.length + 1
  s : ∀ i, i < S.length → (0 ≤ (nth S i).1 ∧ (nth S i).1 ≤ 10) ∧ 0 ≤ (nth S i).2 ∧ (nth S i).2 ≤ 400
  l : ∀ i, i < R.length → (nth R i).length = R.length
  o : ∀ i, i < R.length → ∀ j, j < R.length → WSp (nth (nth R i) j)
set_option maxRecDepth 100000 in
set_option maxHeartbeats 4000000 in
theorem rvalid_ok (S : List (Int × Int)) (R : List (List (Int × Int))) (h : WRd S R) : CallsTo Tryz.prog 64 [.agg (wrC S R)] (.bool true) := by
  have hn := h.n
  have hr := h.r
  have c1 := win_yes 0 0 400 (by decide)
  have c2 := win_yes S.length 1 6 (by omega)
  refine calls_abs Tryz.func64 Tryz.ntmps64 Tryz.results64 Tryz.call64 rfl (by simp) fun w0 S0 M0 => ?_
  repeat' (first | refine st1 ?_ | ((first | refine abs_region fun K hK => ?_ | refine abs_draw Tryz.ty.mixed (by kernel_rfl) fun K hK => ?_ | refine abs_if ?_ | show retQ _ _ _ _ _ | refine callK (c1) ?_ | refine callK (c2) ?_); (refine sim ?_; try exact trivial)) | ((first | (refine hK _ ?_; clear hK K) | show thenQ _ _ _ _ | show blockQ _ _ _ _ | show noGoQ _ _ _); refine qst ?_) | (intro hg; try exact fin2) | apply And.intro | exact fin | fail)
  refine abs_loopN (ι := Nat) (fun j => [(1, .box 0 0), (29, wpsD S), (30, i64 S.length), (31, i64 j)]) (fun _ => [.mu (wrC S R)]) (fun _ => []) (fun j => j ≤ S.length) (fun j => S.length - j) (fun _ _ => ⟨rfl, rfl⟩) 0 (Nat.zero_le _) (le_of rfl (by try (refine sim ?_; try exact trivial); try simp) ⟨_, rfl⟩ ⟨_, rfl⟩) (fun j hj => ?_)
  by_cases hlt : j < S.length
  · have hs := h.s j hlt
    have c3 := win_yes (nth S j).1 0 10 hs.1
    have c4 := win_yes (nth S j).2 0 400 hs.2
    (refine sim ?_; try exact trivial)
    repeat' (first | refine st1 ?_ | ((first | refine abs_region fun K hK => ?_ | refine abs_draw Tryz.ty.mixed (by kernel_rfl) fun K hK => ?_ | refine abs_if ?_ | show retQ _ _ _ _ _ | refine callK (c3) ?_ | refine callK (c4) ?_); (refine sim ?_; try exact trivial)) | ((first | (refine hK _ ?_; clear hK K) | show thenQ _ _ _ _ | show blockQ _ _ _ _ | show noGoQ _ _ _); refine qst ?_) | (intro hg; try exact fin2) | apply And.intro | exact fin | fail)
    all_goals exact ⟨j + 1, by omega, by omega, le_of rfl (by try (refine sim ?_; try exact trivial); try simp) ⟨_, rfl⟩ ⟨_, rfl⟩⟩
  · obtain rfl : j = S.length := by omega
    (refine sim ?_; try exact trivial)
    repeat' (first | refine st1 ?_ | ((first | refine abs_region fun K hK => ?_ | refine abs_draw Tryz.ty.mixed (by kernel_rfl) fun K hK => ?_ | refine abs_if ?_ | show retQ _ _ _ _ _); (refine sim ?_; try exact trivial)) | ((first | (refine hK _ ?_; clear hK K) | show thenQ _ _ _ _ | show blockQ _ _ _ _ | show noGoQ _ _ _); refine qst ?_) | (intro hg; try exact fin2) | apply And.intro | exact fin | fail)
    refine abs_loopN (ι := Nat) (fun j => [(1, .box 0 0), (47, .list (R.map wpsD)), (48, i64 R.length), (49, i64 j)]) (fun _ => [.mu (wrC S R)]) (fun _ => []) (fun j => j ≤ R.length) (fun j => R.length - j) (fun _ _ => ⟨rfl, rfl⟩) 0 (Nat.zero_le _) (le_of rfl (by try (refine sim ?_; try exact trivial); try simp) ⟨_, rfl⟩ ⟨_, rfl⟩) (fun j hj => ?_)
    by_cases hlt : j < R.length
    · have hl := h.l j hlt
      have c5 := rcf_ok (nth R j) (by omega) (fun i hi => h.o j hlt i (by omega))
      (refine sim ?_; try exact trivial)
      repeat' (first | refine st1 ?_ | ((first | refine abs_region fun K hK => ?_ | refine abs_draw Tryz.ty.mixed (by kernel_rfl) fun K hK => ?_ | refine abs_if ?_ | show retQ _ _ _ _ _ | refine callK (c5) ?_); (refine sim ?_; try exact trivial)) | ((first | (refine hK _ ?_; clear hK K) | show thenQ _ _ _ _ | show blockQ _ _ _ _ | show noGoQ _ _ _); refine qst ?_) | (intro hg; try exact fin2) | apply And.intro | exact fin | fail)
      all_goals exact ⟨j + 1, by omega, by omega, le_of rfl (by try (refine sim ?_; try exact trivial); try simp) ⟨_, rfl⟩ ⟨_, rfl⟩⟩
    · obtain rfl : j = R.length := by omega
      (refine sim ?_; try exact trivial)
      repeat' (first | refine st1 ?_ | ((first | refine abs_region fun K hK => ?_ | refine abs_draw Tryz.ty.mixed (by kernel_rfl) fun K hK => ?_ | refine abs_if ?_ | show retQ _ _ _ _ _); (refine sim ?_; try exact trivial)) | ((first | (refine hK _ ?_; clear hK K) | show thenQ _ _ _ _ | show blockQ _ _ _ _ | show noGoQ _ _ _); refine qst ?_) | (intro hg; try exact fin2) | apply And.intro | exact fin | fail)
      all_goals rfl
end Go.Proofs.YtmnepfejoneghaaGreatDoor
namespace Go.Proofs.YtmnepfejoneghaaGreatDoor
open Go.Ab
attribute [local irreducible] Abs CallK CallR CallsTo CallsB IA
abbrev wnt (n : Nat) : D := i64 (n : Int)
abbrev ntD (l : List Nat) : D := .list (l.map wnt)
def wfrm (o : List Nat) : Nat → Nat
  | 0 => 0
  | k + 1 => nth o k + 1
def wrds (R : List (List (Int × Int))) (o : List Nat) : Nat → List (Int × Int)
  | 0 => []
  | k + 1 => wrds R o k ++ [nth (nth R (wfrm o k)) (nth o k + 1)]
theorem wrds_len (R : List (List (Int × Int))) (o : List Nat) : ∀ k, (wrds R o k).length = k
  | 0 => rfl
  | k + 1 => by simp [wrds, wrds_len R o k]
structure WOrd (S : List (Int × Int)) (o : List Nat) : Prop where
  l : o.length ≤ S.length
  n : ∀ i, i < o.length → nth o i < S.length
theorem wfrm_lt {S : List (Int × Int)} {R : List (List (Int × Int))} {o : List Nat} (h : WRd S R) (ho : WOrd S o) : ∀ k, k ≤ o.length → wfrm o k < R.length
  | 0, _ => by have := h.r; simp only [wfrm]; omega
  | k + 1, hk => by have := h.r; have := ho.n k (by omega); simp only [wfrm]; omega
set_option maxRecDepth 100000 in
set_option maxHeartbeats 4000000 in
theorem wroads_ok (S : List (Int × Int)) (R : List (List (Int × Int))) (h : WRd S R) (o : List Nat) (ho : WOrd S o) : CallsTo Tryz.prog 169 [.agg (wrC S R), ntD o] (wpsD (wrds R o o.length)) := by
  have hn := h.n
  have hr := h.r
  have hl := ho.l
  refine calls_abs Tryz.func169 Tryz.ntmps169 Tryz.results169 Tryz.call169 rfl (by simp) fun w0 S0 M0 => ?_
  repeat' (first | refine st1 ?_ | ((first | refine abs_region fun K hK => ?_ | refine abs_draw Tryz.ty.mixed (by kernel_rfl) fun K hK => ?_ | refine abs_if ?_ | show retQ _ _ _ _ _); (refine sim ?_; try exact trivial)) | ((first | (refine hK _ ?_; clear hK K) | show thenQ _ _ _ _ | show blockQ _ _ _ _ | show noGoQ _ _ _); refine qst ?_) | (intro hg; try exact fin2) | apply And.intro | exact fin | fail)
  refine abs_adopt 5 35 2 rfl ?_
  refine abs_loopN (ι := Nat) (fun j => [(2, .box 0 0), (5, .own 0), (6, i64 (wfrm o j : Nat)), (9, ntD o), (10, i64 o.length), (11, i64 j)]) (fun _ => [.mu (wrC S R)]) (fun j => [⟨true, 35, 2, (wrds R o j).map wpD⟩]) (fun j => j ≤ o.length) (fun j => o.length - j) (fun _ _ => ⟨rfl, rfl⟩) 0 (Nat.zero_le _) (le_of rfl (by try (refine sim ?_; try exact trivial); try simp [wfrm, wrds]) ⟨_, rfl⟩ ⟨_, rfl⟩) (fun j hj => ?_)
  have hwl := wrds_len R o j
  by_cases hlt : j < o.length
  · have f1 := wfrm_lt h ho j hj
    have f2 := ho.n j hlt
    have f3 := h.l _ f1
    have hX : ((nth o j : Nat) : Int) + 1 = ((nth o j + 1 : Nat) : Int) := rfl
    (refine withX (@hX) fun hX => ?_; refine simh ?_; clear hX; try exact trivial)
    repeat' (first | refine st1 ?_ | ((first | refine abs_region fun K hK => ?_ | refine abs_draw Tryz.ty.mixed (by kernel_rfl) fun K hK => ?_ | refine abs_if ?_ | show retQ _ _ _ _ _); (refine withX (@hX) fun hX => ?_; refine simh ?_; clear hX; try exact trivial)) | ((first | (refine hK _ ?_; clear hK K) | show thenQ _ _ _ _ | show blockQ _ _ _ _ | show noGoQ _ _ _); refine qst ?_) | (intro hg; try exact fin2) | apply And.intro | exact fin | fail)
    all_goals exact ⟨j + 1, by omega, by omega, le_of rfl (by try (refine withX (@hX) fun hX => ?_; refine simh ?_; clear hX; try exact trivial); try simp [wfrm]) ⟨_, rfl⟩ ⟨[], by simp [wrds]⟩⟩
  · obtain rfl : j = o.length := by omega
    (refine sim ?_; try exact trivial)
    repeat' (first | refine st1 ?_ | ((first | refine abs_region fun K hK => ?_ | refine abs_draw Tryz.ty.mixed (by kernel_rfl) fun K hK => ?_ | refine abs_if ?_ | show retQ _ _ _ _ _); (refine sim ?_; try exact trivial)) | ((first | (refine hK _ ?_; clear hK K) | show thenQ _ _ _ _ | show blockQ _ _ _ _ | show noGoQ _ _ _); refine qst ?_) | (intro hg; try exact fin2) | apply And.intro | exact fin | fail)
    all_goals rfl
def wday (S : List (Int × Int)) (o : List Nat) (g : List Int) : Nat → Int
  | 0 => 0
  | k + 1 => wday S o g k + nth g k + (nth S (nth o k)).1
def warr (S : List (Int × Int)) (o : List Nat) (g : List Int) : Nat → List Int
  | 0 => []
  | k + 1 => warr S o g k ++ [wday S o g k + nth g k]
theorem warr_len (S : List (Int × Int)) (o : List Nat) (g : List Int) : ∀ k, (warr S o g k).length = k
  | 0 => rfl
  | k + 1 => by simp [warr, warr_len S o g k]
theorem wday_b {S : List (Int × Int)} {R : List (List (Int × Int))} (h : WRd S R) {o : List Nat} (ho : WOrd S o) {g : List Int} (hg : ∀ i, i < o.length → 0 ≤ nth g i ∧ nth g i ≤ 60) : ∀ k, k ≤ o.length → 0 ≤ wday S o g k ∧ wday S o g k ≤ 70 * k
  | 0, _ => by simp [wday]
  | k + 1, hk => by
    have h1 := wday_b h ho hg k (by omega)
    have h2 := hg k (by omega)
    have h3 := (h.s (nth o k) (ho.n k (by omega))).1
    simp only [wday]; omega
set_option maxRecDepth 100000 in
set_option maxHeartbeats 4000000 in
theorem wtravel_ok (S : List (Int × Int)) (R : List (List (Int × Int))) (h : WRd S R) (o : List Nat) (ho : WOrd S o) (g : List Int) (hl : g.length = o.length) (hg : ∀ i, i < o.length → 0 ≤ nth g i ∧ nth g i ≤ 60) :
    CallsTo Tryz.prog 153 [.agg (wrC S R), ntD o, ints g] (.tup [ints (warr S o g o.length), i64 (wday S o g o.length)]) := by
  have hn := h.n
  have hl2 := ho.l
  refine calls_abs Tryz.func153 Tryz.ntmps153 Tryz.results153 Tryz.call153 rfl (by simp) fun w0 S0 M0 => ?_
  repeat' (first | refine st1 ?_ | ((first | refine abs_region fun K hK => ?_ | refine abs_draw Tryz.ty.mixed (by kernel_rfl) fun K hK => ?_ | refine abs_if ?_ | show retQ _ _ _ _ _); (refine sim ?_; try exact trivial)) | ((first | (refine hK _ ?_; clear hK K) | show thenQ _ _ _ _ | show blockQ _ _ _ _ | show noGoQ _ _ _); refine qst ?_) | (intro hg; try exact fin2) | apply And.intro | exact fin | fail)
  refine abs_adopt 8 3 1 rfl ?_
  refine abs_loopN (ι := Nat) (fun j => [(1, ntD o), (2, ints g), (3, .box 0 0), (8, .own 0), (9, i64 (wday S o g j)), (14, ntD o), (15, i64 o.length), (16, i64 j)]) (fun _ => [.mu (wrC S R)]) (fun j => [⟨true, 3, 1, (warr S o g j).map (D.int .i64)⟩]) (fun j => j ≤ o.length) (fun j => o.length - j) (fun _ _ => ⟨rfl, rfl⟩) 0 (Nat.zero_le _) (le_of rfl (by try (refine sim ?_; try exact trivial); try simp [wday, warr]) ⟨_, rfl⟩ ⟨_, rfl⟩) (fun j hj => ?_)
  have hwl := warr_len S o g j
  by_cases hlt : j < o.length
  · have f1 := wday_b h ho hg j hj
    have f2 := ho.n j hlt
    have f3 := hg j hlt
    have f4 := (h.s (nth o j) f2).1
    (refine sim ?_; try exact trivial)
    repeat' (first | refine st1 ?_ | ((first | refine abs_region fun K hK => ?_ | refine abs_draw Tryz.ty.mixed (by kernel_rfl) fun K hK => ?_ | refine abs_if ?_ | show retQ _ _ _ _ _); (refine sim ?_; try exact trivial)) | ((first | (refine hK _ ?_; clear hK K) | show thenQ _ _ _ _ | show blockQ _ _ _ _ | show noGoQ _ _ _); refine qst ?_) | (intro hg; try exact fin2) | apply And.intro | exact fin | fail)
    all_goals exact ⟨j + 1, by omega, by omega, le_of rfl (by try (refine sim ?_; try exact trivial); try simp [wday]) ⟨_, rfl⟩ ⟨[], by simp [warr]⟩⟩
  · obtain rfl : j = o.length := by omega
    (refine sim ?_; try exact trivial)
    repeat' (first | refine st1 ?_ | ((first | refine abs_region fun K hK => ?_ | refine abs_draw Tryz.ty.mixed (by kernel_rfl) fun K hK => ?_ | refine abs_if ?_ | show retQ _ _ _ _ _); (refine sim ?_; try exact trivial)) | ((first | (refine hK _ ?_; clear hK K) | show thenQ _ _ _ _ | show blockQ _ _ _ _ | show noGoQ _ _ _); refine qst ?_) | (intro hg; try exact fin2) | apply And.intro | exact fin | fail)
    all_goals rfl
end Go.Proofs.YtmnepfejoneghaaGreatDoor
