import Derived.Test.YtmnepfejoneghaaGreatDoorK26
import Derived.Test.YtmnepfejoneghaaGreatDoorK13
set_option linter.unusedVariables false
set_option linter.unusedSimpArgs false
namespace Go.Proofs.YtmnepfejoneghaaGreatDoor
open Go.Ab
attribute [local irreducible] Abs CallK CallR CallsTo CallsB IA
theorem lapp_cons {α : Type} {a : α} {l m : List α} : List.append (a :: l) m = a :: List.append l m := rfl
theorem lapp_nil {α : Type} {m : List α} : List.append ([] : List α) m = m := rfl
set_option maxRecDepth 100000 in
set_option maxHeartbeats 4000000 in
theorem cnvalid_ok (R : List Rep) (hn : R.length ≤ 9) (h : ∀ i, i < R.length → RepOk (nth R i)) : CallsTo Tryz.prog 60 [.agg (wC R)] (.bool true) := by
  have c1 := nin_yes 2 1 6 (by decide)
  have c2 := nin_yes 300 1 99999 (by decide)
  have c3 := nin_yes 360 1 2880 (by decide)
  have c4 := nin_yes 600 1 2880 (by decide)
  have c5 := cf1_ok R (by omega) h
  have c6 := cf2_ok 104 [.ro (wC R)] ⟨fun _ _ => rfl, fun _ _ => rfl⟩ false (v2_ok R)
  have c7 := cf3_ok
  refine calls_abs Tryz.func60 Tryz.ntmps60 Tryz.results60 Tryz.call60 rfl (by simp) fun w0 S0 M0 => ?_
  repeat' (first | (refine abs_freeze 0 _ _ rfl rfl ?_; simp only [basL, Nat.reduceAdd]) | refine st1 ?_ | ((first | refine abs_region fun K hK => ?_ | refine abs_draw Tryz.ty.mixed (by kernel_rfl) fun K hK => ?_ | refine abs_if ?_ | show retQ _ _ _ _ _ | refine callK (c1) ?_ | refine callK (c2) ?_ | refine callK (c3) ?_ | refine callK (c4) ?_ | refine callK (c5) ?_ | refine callK (c6) ?_ | refine callK (c7) ?_); (refine withX (And.intro @lapp_cons (@lapp_nil)) fun hX => ?_; refine simh ?_; clear hX; try exact trivial)) | ((first | (refine hK _ ?_; clear hK K) | show thenQ _ _ _ _ | show blockQ _ _ _ _ | show noGoQ _ _ _); refine qst ?_) | (intro hg; try exact fin2) | apply And.intro | exact fin | fail)
  all_goals first | rfl | skip
set_option maxRecDepth 100000 in
set_option maxHeartbeats 4000000 in
theorem nfar_ok (a b : Int) (ha : 0 ≤ a ∧ a ≤ 1000000) (hb : 0 ≤ b ∧ b ≤ 1000000) : CallsTo Tryz.prog 148 [i64 a, i64 b] (i64 (max (a - b) (b - a))) := by
  refine calls_abs Tryz.func148 Tryz.ntmps148 Tryz.results148 Tryz.call148 rfl (by simp) fun w0 S0 M0 => ?_
  repeat' (first | refine st1 ?_ | ((first | refine abs_region fun K hK => ?_ | refine abs_draw Tryz.ty.mixed (by kernel_rfl) fun K hK => ?_ | refine abs_if ?_ | show retQ _ _ _ _ _); (refine sim ?_; try exact trivial)) | ((first | (refine hK _ ?_; clear hK K) | show thenQ _ _ _ _ | show blockQ _ _ _ _ | show noGoQ _ _ _); refine qst ?_) | (intro hg; try exact fin2) | apply And.intro | exact fin | fail)
  all_goals first | rfl | omega | skip
def flB (a b : Rep) : Bool := decide (a.st = b.st) && decide (a.tk < b.tk) && decide (300 ≤ a.pr - b.pr)
def dfB (a b : Rep) : Bool := ((decide (0 = a.st) && decide (1 = b.st)) || (decide (0 = b.st) && decide (1 = a.st))) && decide (500 ≤ max (a.pr - b.pr) (b.pr - a.pr))
def alB (a b : Rep) : Bool := decide (max (a.tk - b.tk) (b.tk - a.tk) ≤ 360) && ((flB a b || flB b a) || dfB a b)
set_option maxRecDepth 100000 in
set_option maxHeartbeats 4000000 in
theorem nfalls_ok (R : List Rep) (a b : Rep) (ha : RepOk a) (hb : RepOk b) : CallsTo Tryz.prog 149 [.agg (wC R), repD a, repD b] (.bool (flB a b)) := by
  have h1 := ha.p
  have h2 := hb.p
  unfold flB
  by_cases g1 : a.st = b.st
  · by_cases g2 : a.tk < b.tk
    · rw [decide_eq_true g1, decide_eq_true g2]
      refine calls_abs Tryz.func149 Tryz.ntmps149 Tryz.results149 Tryz.call149 rfl (by simp) fun w0 S0 M0 => ?_
      repeat' (first | refine st1 ?_ | ((first | refine abs_region fun K hK => ?_ | refine abs_draw Tryz.ty.mixed (by kernel_rfl) fun K hK => ?_ | refine abs_if ?_ | show retQ _ _ _ _ _); (refine sim ?_; try exact trivial)) | ((first | (refine hK _ ?_; clear hK K) | show thenQ _ _ _ _ | show blockQ _ _ _ _ | show noGoQ _ _ _); refine qst ?_) | (intro hg; try exact fin2) | apply And.intro | exact fin | fail)
      all_goals first | (simp; done) | skip
    · rw [decide_eq_true g1, decide_eq_false g2]
      refine calls_abs Tryz.func149 Tryz.ntmps149 Tryz.results149 Tryz.call149 rfl (by simp) fun w0 S0 M0 => ?_
      repeat' (first | refine st1 ?_ | ((first | refine abs_region fun K hK => ?_ | refine abs_draw Tryz.ty.mixed (by kernel_rfl) fun K hK => ?_ | refine abs_if ?_ | show retQ _ _ _ _ _); (refine sim ?_; try exact trivial)) | ((first | (refine hK _ ?_; clear hK K) | show thenQ _ _ _ _ | show blockQ _ _ _ _ | show noGoQ _ _ _); refine qst ?_) | (intro hg; try exact fin2) | apply And.intro | exact fin | fail)
      all_goals first | (simp; done) | skip
  · rw [decide_eq_false g1]
    refine calls_abs Tryz.func149 Tryz.ntmps149 Tryz.results149 Tryz.call149 rfl (by simp) fun w0 S0 M0 => ?_
    repeat' (first | refine st1 ?_ | ((first | refine abs_region fun K hK => ?_ | refine abs_draw Tryz.ty.mixed (by kernel_rfl) fun K hK => ?_ | refine abs_if ?_ | show retQ _ _ _ _ _); (refine sim ?_; try exact trivial)) | ((first | (refine hK _ ?_; clear hK K) | show thenQ _ _ _ _ | show blockQ _ _ _ _ | show noGoQ _ _ _); refine qst ?_) | (intro hg; try exact fin2) | apply And.intro | exact fin | fail)
    all_goals first | (simp; done) | skip
end Go.Proofs.YtmnepfejoneghaaGreatDoor
namespace Go.Proofs.YtmnepfejoneghaaGreatDoor
open Go.Ab
attribute [local irreducible] Abs CallK CallR CallsTo CallsB IA
abbrev rpC (r : Rep) : List D := [i64 r.st, i64 r.tk, i64 r.pr, i64 r.dl, i64 r.dh, i64 r.ur, i64 r.co]
set_option maxRecDepth 100000 in
set_option maxHeartbeats 4000000 in
theorem ndif1_ok (a b : Rep) (ha : RepOk a) (hb : RepOk b) : CallsTo Tryz.prog 168 [lkD, .ro (rpC a), .ro (rpC b)] (.bool (dfB a b)) := by
  have h1 := ha.p
  have h2 := hb.p
  have h3 := ha.s
  have h4 := hb.s
  have c1 := nfar_ok a.pr b.pr (by omega) (by omega)
  unfold dfB
  by_cases g1 : (0 = a.st ∧ 1 = b.st) ∨ (0 = b.st ∧ 1 = a.st)
  · rw [show ((decide (0 = a.st) && decide (1 = b.st)) || (decide (0 = b.st) && decide (1 = a.st))) = true from by simpa using g1]
    refine calls_abs Tryz.func168 Tryz.ntmps168 Tryz.results168 Tryz.call168 rfl (by simp) fun w0 S0 M0 => ?_
    repeat' (first | refine st1 ?_ | ((first | refine abs_region fun K hK => ?_ | refine abs_draw Tryz.ty.mixed (by kernel_rfl) fun K hK => ?_ | refine abs_if ?_ | show retQ _ _ _ _ _ | refine callK (c1) ?_); (refine sim ?_; try exact trivial)) | ((first | (refine hK _ ?_; clear hK K) | show thenQ _ _ _ _ | show blockQ _ _ _ _ | show noGoQ _ _ _); refine qst ?_) | (intro hg; try exact fin2) | apply And.intro | exact fin | fail)
    all_goals first | (simp; done) | (simp; omega) | skip
  · rw [show ((decide (0 = a.st) && decide (1 = b.st)) || (decide (0 = b.st) && decide (1 = a.st))) = false from by simp only [Bool.or_eq_false_iff, Bool.and_eq_false_iff, decide_eq_false_iff_not]; omega]
    refine calls_abs Tryz.func168 Tryz.ntmps168 Tryz.results168 Tryz.call168 rfl (by simp) fun w0 S0 M0 => ?_
    repeat' (first | refine st1 ?_ | ((first | refine abs_region fun K hK => ?_ | refine abs_draw Tryz.ty.mixed (by kernel_rfl) fun K hK => ?_ | refine abs_if ?_ | show retQ _ _ _ _ _ | refine callK (c1) ?_); (refine sim ?_; try exact trivial)) | ((first | (refine hK _ ?_; clear hK K) | show thenQ _ _ _ _ | show blockQ _ _ _ _ | show noGoQ _ _ _); refine qst ?_) | (intro hg; try exact fin2) | apply And.intro | exact fin | fail)
    all_goals first | (simp; done) | (simp; omega) | skip
theorem rp_cl (a b : Rep) : Cl [.ro (rpC a), .ro (rpC b)] := ⟨fun _ _ => rfl, fun _ _ => rfl⟩
set_option maxRecDepth 100000 in
set_option maxHeartbeats 4000000 in
theorem ndif_ok (R : List Rep) (a b : Rep) (ha : RepOk a) (hb : RepOk b) : CallsTo Tryz.prog 150 [.agg (wC R), repD a, repD b] (.bool (dfB a b)) := by
  have c1 := cf2_ok 168 [.ro (rpC a), .ro (rpC b)] (rp_cl a b) (dfB a b) (ndif1_ok a b ha hb)
  refine calls_abs Tryz.func150 Tryz.ntmps150 Tryz.results150 Tryz.call150 rfl (by simp) fun w0 S0 M0 => ?_
  repeat' (first | (refine abs_freeze 1 _ _ rfl rfl ?_; simp only [basL, Nat.reduceAdd]) | (refine abs_freeze 2 _ _ rfl rfl ?_; simp only [basL, Nat.reduceAdd]) | refine st1 ?_ | ((first | refine abs_region fun K hK => ?_ | refine abs_draw Tryz.ty.mixed (by kernel_rfl) fun K hK => ?_ | refine abs_if ?_ | show retQ _ _ _ _ _ | refine callK (c1) ?_); (refine sim ?_; try exact trivial)) | ((first | (refine hK _ ?_; clear hK K) | show thenQ _ _ _ _ | show blockQ _ _ _ _ | show noGoQ _ _ _); refine qst ?_) | (intro hg; try exact fin2) | apply And.intro | exact fin | fail)
  all_goals first | rfl | skip
set_option maxRecDepth 100000 in
set_option maxHeartbeats 4000000 in
theorem nalarm_ok (R : List Rep) (a b : Rep) (ha : RepOk a) (hb : RepOk b) : CallsTo Tryz.prog 109 [.agg (wC R), repD a, repD b] (.bool (alB a b)) := by
  have h1 := ha.t
  have h2 := hb.t
  have c1 := nfar_ok a.tk b.tk (by omega) (by omega)
  have c2 := nfalls_ok R a b ha hb
  have c3 := nfalls_ok R b a hb ha
  have c4 := ndif_ok R a b ha hb
  unfold alB
  by_cases g1 : max (a.tk - b.tk) (b.tk - a.tk) ≤ 360
  · rw [decide_eq_true g1]
    cases e1 : flB a b
    · rw [e1] at c2
      cases e2 : flB b a
      · rw [e2] at c3
        refine calls_abs Tryz.func109 Tryz.ntmps109 Tryz.results109 Tryz.call109 rfl (by simp) fun w0 S0 M0 => ?_
        repeat' (first | refine st1 ?_ | ((first | refine abs_region fun K hK => ?_ | refine abs_draw Tryz.ty.mixed (by kernel_rfl) fun K hK => ?_ | refine abs_if ?_ | show retQ _ _ _ _ _ | refine callK (c1) ?_ | refine callK (c2) ?_ | refine callK (c3) ?_ | refine callK (c4) ?_); (refine sim ?_; try exact trivial)) | ((first | (refine hK _ ?_; clear hK K) | show thenQ _ _ _ _ | show blockQ _ _ _ _ | show noGoQ _ _ _); refine qst ?_) | (intro hg; try exact fin2) | apply And.intro | exact fin | fail)
        all_goals first | (simp; done) | skip
      · rw [e2] at c3
        refine calls_abs Tryz.func109 Tryz.ntmps109 Tryz.results109 Tryz.call109 rfl (by simp) fun w0 S0 M0 => ?_
        repeat' (first | refine st1 ?_ | ((first | refine abs_region fun K hK => ?_ | refine abs_draw Tryz.ty.mixed (by kernel_rfl) fun K hK => ?_ | refine abs_if ?_ | show retQ _ _ _ _ _ | refine callK (c1) ?_ | refine callK (c2) ?_ | refine callK (c3) ?_ | refine callK (c4) ?_); (refine sim ?_; try exact trivial)) | ((first | (refine hK _ ?_; clear hK K) | show thenQ _ _ _ _ | show blockQ _ _ _ _ | show noGoQ _ _ _); refine qst ?_) | (intro hg; try exact fin2) | apply And.intro | exact fin | fail)
        all_goals first | (simp; done) | skip
    · rw [e1] at c2
      refine calls_abs Tryz.func109 Tryz.ntmps109 Tryz.results109 Tryz.call109 rfl (by simp) fun w0 S0 M0 => ?_
      repeat' (first | refine st1 ?_ | ((first | refine abs_region fun K hK => ?_ | refine abs_draw Tryz.ty.mixed (by kernel_rfl) fun K hK => ?_ | refine abs_if ?_ | show retQ _ _ _ _ _ | refine callK (c1) ?_ | refine callK (c2) ?_ | refine callK (c3) ?_ | refine callK (c4) ?_); (refine sim ?_; try exact trivial)) | ((first | (refine hK _ ?_; clear hK K) | show thenQ _ _ _ _ | show blockQ _ _ _ _ | show noGoQ _ _ _); refine qst ?_) | (intro hg; try exact fin2) | apply And.intro | exact fin | fail)
      all_goals first | (simp; done) | skip
  · rw [decide_eq_false g1]
    refine calls_abs Tryz.func109 Tryz.ntmps109 Tryz.results109 Tryz.call109 rfl (by simp) fun w0 S0 M0 => ?_
    repeat' (first | refine st1 ?_ | ((first | refine abs_region fun K hK => ?_ | refine abs_draw Tryz.ty.mixed (by kernel_rfl) fun K hK => ?_ | refine abs_if ?_ | show retQ _ _ _ _ _ | refine callK (c1) ?_ | refine callK (c2) ?_ | refine callK (c3) ?_ | refine callK (c4) ?_); (refine sim ?_; try exact trivial)) | ((first | (refine hK _ ?_; clear hK K) | show thenQ _ _ _ _ | show blockQ _ _ _ _ | show noGoQ _ _ _); refine qst ?_) | (intro hg; try exact fin2) | apply And.intro | exact fin | fail)
    all_goals first | (simp; done) | skip
end Go.Proofs.YtmnepfejoneghaaGreatDoor
namespace Go.Ab
open Go.RowKit
section
variable {c : Ctx} {b : Nat} {s : St} {ks : List (List Int)}
/-- Code beside a map that is built, in the end of which the map is built. -/
def AbMC (c : Ctx) (b : Nat) (code : Code) (Q : Exit → St → Prop) (s : St) (ks : List (List Int)) : Prop :=
  ∀ a w, MR c b ks s a w → code.wpIn c.F 0 c.P (fun e a' w' => ∃ s', R c s' a' w' ∧ Q e s') a w
theorem absmc_seq {A B : Code} {Q : Exit → St → Prop} (h : AbM c b A (fun e s' ks' => e = .normal ∧ AbMC c b B Q s' ks') s ks) : AbMC c b (.seq A B) Q s ks := by
  intro a w hr
  refine wpIn_seq (wpIn_mono (h a w hr) ?_)
  rintro e a' w' ⟨s', ks', r, rfl, h3⟩
  exact h3 a' w' r
theorem absmc_close {code : Code} {Q' : Exit → St → Prop} (n : Nat) (kn : Nat) (f : List Int → List Int) (hs : s.sl n = .val (.map (some b))) (hks : ∀ k ∈ ks, k.length = kn ∧ (f k).headD 0 ≠ 0)
    (h : Abs c code Q' { s with sl := put s.sl n (.memo ⟨true, .yes, kn, f, ks⟩) }) : AbMC c b code Q' s ks := fun _ _ hr => absm_close n kn f hs hks h hr
theorem abs_openMC {y : Code} {t ty ty2 : TypeId} {d1 d2 : Tmp} {pos pos2 : String} {aft aft2 : Array Edge} {id : Nat} {Q' : Exit → St → Prop} (hd1 : dstOk s (some d1)) (hd2 : dstOk s (some d2))
    (h : ∀ b, AbMC c b y Q' ((s.put (some d1) (.val (.map (some b)))).put (some d2) (.val (.map (some b)))) []) :
    Abs c (.seq (.region id #[⟨some d1, .makeMap t none, ty, pos, aft, none⟩, ⟨some d2, .assign (.tmp d1), ty2, pos2, aft2, none⟩] false) y) Q' s := abs_openM hd1 hd2 fun b a w hr => h b a w hr
end
end Go.Ab
namespace Go.Proofs.YtmnepfejoneghaaGreatDoor
open Go.Ab
attribute [local irreducible] Abs CallK CallR CallsTo CallsB IA AbM AbMC
@[go_sem] theorem ky144 : KeyOk Tryz.prog 144 true 2 := key_struct (by kernel_rfl) (by kernel_rfl) (by kernel_rfl)
def ksI (R : List Rep) (i : Nat) : Nat → List (List Int)
  | 0 => []
  | m + 1 => ksI R i m ++ (if alB (nth R i) (nth R (i + 1 + m)) then [[(i : Int), ((i + 1 + m : Nat) : Int)]] else [])
def ksO (R : List Rep) : Nat → List (List Int)
  | 0 => []
  | i + 1 => ksO R i ++ ksI R i (R.length - (i + 1))
theorem ksI_mem {R : List Rep} {i : Nat} : ∀ {m : Nat} {k : List Int}, k ∈ ksI R i m → ∃ q, q < m ∧ k = [(i : Int), ((i + 1 + q : Nat) : Int)] ∧ alB (nth R i) (nth R (i + 1 + q)) = true
  | 0, k, h => by simp [ksI] at h
  | m + 1, k, h => by
    simp only [ksI, List.mem_append] at h
    rcases h with h | h
    · obtain ⟨q, h1, h2⟩ := ksI_mem h
      exact ⟨q, by omega, h2⟩
    · split at h
      · rename_i ha
        simp only [List.mem_singleton] at h
        exact ⟨m, by omega, h, ha⟩
      · simp at h
theorem ksO_mem {R : List Rep} : ∀ {i : Nat} {k : List Int}, k ∈ ksO R i → ∃ p q : Nat, p < i ∧ p < q ∧ q < R.length ∧ k = [(p : Int), (q : Int)] ∧ alB (nth R p) (nth R q) = true
  | 0, k, h => by simp [ksO] at h
  | i + 1, k, h => by
    simp only [ksO, List.mem_append] at h
    rcases h with h | h
    · obtain ⟨p, q, h1, h2⟩ := ksO_mem h
      exact ⟨p, q, by omega, h2⟩
    · obtain ⟨q, h1, h2, h3⟩ := ksI_mem h
      exact ⟨i, i + 1 + q, by omega, by omega, by omega, h2, h3⟩
theorem ks_fresh {R : List Rep} {i m : Nat} : [(i : Int), ((i + 1 + m : Nat) : Int)] ∉ ksO R i ++ ksI R i m := by
  intro h
  rcases List.mem_append.1 h with h | h
  · obtain ⟨p, q, h1, h2, h3, h4, _⟩ := ksO_mem h
    simp at h4; omega
  · obtain ⟨q, h1, h2, _⟩ := ksI_mem h
    simp at h2; omega
theorem ks_len {R : List Rep} {i m : Nat} : ∀ k ∈ ksO R i ++ ksI R i m, k.length = 2 := by
  intro k h
  rcases List.mem_append.1 h with h | h
  · obtain ⟨p, q, h1, h2, h3, rfl, _⟩ := ksO_mem h
    rfl
  · obtain ⟨q, h1, rfl, _⟩ := ksI_mem h
    rfl
def isF (ks : List (List Int)) (k : List Int) : List Int := if k ∈ ks then [1] else [0]
abbrev wlD (R : List Rep) (ks : List (List Int)) : D := .agg (wC R ++ [.memo ⟨true, .yes, 2, isF ks, ks⟩])
abbrev zl : List D := [i64 0, .val (.slice none 0 0), .val (.slice none 0 0), .val (.slice none 0 0), i64 0, i64 0, i64 0, i64 0, i64 0, .val (.map none)]
set_option maxRecDepth 100000 in
set_option maxHeartbeats 4000000 in
theorem nlook_ok (R : List Rep) (hn : R.length ≤ 9) (h : ∀ i, i < R.length → RepOk (nth R i)) : CallsTo Tryz.prog 61 [.agg (wC R)] (wlD R (ksO R R.length)) := by
  refine calls_abs Tryz.func61 Tryz.ntmps61 Tryz.results61 Tryz.call61 rfl (by simp) fun w0 S0 M0 => ?_
  repeat' (first | (refine abs_openMC ?_ ?_ (fun b => ?_)) | refine st1 ?_ | ((first | refine abs_region fun K hK => ?_ | refine abs_draw Tryz.ty.mixed (by kernel_rfl) fun K hK => ?_ | refine abs_if ?_ | show retQ _ _ _ _ _); (refine sim ?_; try exact trivial)) | ((first | (refine hK _ ?_; clear hK K) | show thenQ _ _ _ _ | show blockQ _ _ _ _ | show noGoQ _ _ _); refine qst ?_) | (intro hg; try exact fin2) | apply And.intro | exact fin | fail)
  · (refine sim ?_; try exact trivial)
  · (refine sim ?_; try exact trivial)
  refine absmc_seq ?_
  repeat' (first
      | refine absm_seq ?_
      | refine absm_block ?_
      | refine absm_skip ?_
      | refine absm_exit ?_
      | (refine absm_if ?_; (refine sim ?_; try exact trivial))
      | ((first | refine absm_piece fun w0 S0 M0 own β hβ => abs_region fun K hK => ?_ | refine absm_piece fun w0 S0 M0 own β hβ => abs_draw Tryz.ty.mixed (by kernel_rfl) fun K hK => ?_); (refine sim ?_; try exact trivial))
      | (refine hK _ ?_; clear hK K; simp only [thenM, blockM, if_true, Nat.reduceEqDiff, reduceIte])
      | ((first | show thenM _ _ _ _ _ | show blockM _ _ _ _ _); simp only [thenM, blockM, if_true, Nat.reduceEqDiff, reduceIte])
      | (intro hg; first | (exfalso; omega) | (exfalso; contradiction) | skip)
      | apply And.intro
      | (with_reducible rfl)
      | (clear hK; omega)
      | omega)
  refine absm_loop (ι := Nat) (fun j => [(1, .box 0 0), (2, .box 1 0), (3, .val (.map (some b))), (9, .list (R.map repD)), (10, i64 R.length), (11, i64 j)]) (fun _ => [.mu (wC R), .mu zl]) (fun j => ksO R j) (fun j => j ≤ R.length) (fun j => R.length - j) (fun _ _ => ⟨rfl, rfl⟩) (fun _ _ => Nat.zero_le _) 0 (Nat.zero_le _) rfl (le_of rfl (by try (refine sim ?_; try exact trivial); try simp) ⟨_, rfl⟩ ⟨_, rfl⟩) (fun i hi => ?_)
  by_cases hlt : i < R.length
  · have hri := h i hlt
    (refine sim ?_; try exact trivial)
    repeat' (first
        | refine absm_seq ?_
        | refine absm_block ?_
        | refine absm_skip ?_
        | refine absm_exit ?_
        | (refine absm_if ?_; (refine sim ?_; try exact trivial))
        | ((first | refine absm_piece fun w0 S0 M0 own β hβ => abs_region fun K hK => ?_ | refine absm_piece fun w0 S0 M0 own β hβ => abs_draw Tryz.ty.mixed (by kernel_rfl) fun K hK => ?_); (refine sim ?_; try exact trivial))
        | (refine hK _ ?_; clear hK K; simp only [thenM, blockM, if_true, Nat.reduceEqDiff, reduceIte])
        | ((first | show thenM _ _ _ _ _ | show blockM _ _ _ _ _); simp only [thenM, blockM, if_true, Nat.reduceEqDiff, reduceIte])
        | (intro hg; first | (exfalso; omega) | (exfalso; contradiction) | skip)
        | apply And.intro
        | (with_reducible rfl)
        | (clear hK; omega)
        | omega)
    refine absm_loop (ι := Nat) (fun m => [(1, .box 0 0), (2, .box 1 0), (3, .val (.map (some b))), (9, .list (R.map repD)), (10, i64 R.length), (11, i64 i), (4, i64 i), (5, .box 2 0), (6, i64 ((i + 1 + m : Nat) : Int))]) (fun _ => [.mu (wC R), .mu zl, .mu (rpC (nth R i))]) (fun m => ksO R i ++ ksI R i m) (fun m => i + 1 + m ≤ R.length) (fun m => R.length - m) (fun _ _ => ⟨rfl, rfl⟩) (fun _ _ => Nat.zero_le _) 0 (by omega) (by simp [ksI]) (le_of rfl (by try (refine sim ?_; try exact trivial); try simp) ⟨_, rfl⟩ ⟨_, rfl⟩) (fun m hm => ?_)
    by_cases hlt2 : i + 1 + m < R.length
    · have c1 := nalarm_ok R (nth R i) (nth R (i + 1 + m)) hri (h _ hlt2)
      cases e1 : alB (nth R i) (nth R (i + 1 + m))
      · rw [e1] at c1
        (refine sim ?_; try exact trivial)
        repeat' (first
            | refine absm_seq ?_
            | refine absm_block ?_
            | refine absm_skip ?_
            | refine absm_exit ?_
            | (refine absm_if ?_; (refine sim ?_; try exact trivial))
            | (refine callK (c1) ?_; (refine sim ?_; try exact trivial))
            | ((first | refine absm_piece fun w0 S0 M0 own β hβ => abs_region fun K hK => ?_ | refine absm_piece fun w0 S0 M0 own β hβ => abs_draw Tryz.ty.mixed (by kernel_rfl) fun K hK => ?_); (refine sim ?_; try exact trivial))
            | (refine hK _ ?_; clear hK K; simp only [thenM, blockM, if_true, Nat.reduceEqDiff, reduceIte])
            | ((first | show thenM _ _ _ _ _ | show blockM _ _ _ _ _); simp only [thenM, blockM, if_true, Nat.reduceEqDiff, reduceIte])
            | (intro hg; first | (exfalso; omega) | (exfalso; contradiction) | skip)
            | apply And.intro
            | (with_reducible rfl)
            | (clear hK; omega)
            | omega)
        all_goals exact ⟨m + 1, by omega, by omega, by simp [ksI, e1], le_of rfl (by try (refine sim ?_; try exact trivial); try simp; try omega) ⟨_, rfl⟩ ⟨_, rfl⟩⟩
      · rw [e1] at c1
        (refine sim ?_; try exact trivial)
        repeat' (first
            | refine absm_seq ?_
            | refine absm_block ?_
            | refine absm_skip ?_
            | refine absm_exit ?_
            | (refine absm_if ?_; (refine sim ?_; try exact trivial))
            | (refine callK (c1) ?_; (refine sim ?_; try exact trivial))
            | (refine absm_update (m := 4) rfl Tryz.ty.mp139 ky144 ks_len fun K hK => ?_; (refine sim ?_; try exact trivial))
            | ((first | refine absm_piece fun w0 S0 M0 own β hβ => abs_region fun K hK => ?_ | refine absm_piece fun w0 S0 M0 own β hβ => abs_draw Tryz.ty.mixed (by kernel_rfl) fun K hK => ?_); (refine sim ?_; try exact trivial))
            | (refine hK _ ?_; clear hK K; simp only [thenM, blockM, if_true, Nat.reduceEqDiff, reduceIte])
            | ((first | show thenM _ _ _ _ _ | show blockM _ _ _ _ _); simp only [thenM, blockM, if_true, Nat.reduceEqDiff, reduceIte])
            | (intro hg; first | (exfalso; omega) | (exfalso; contradiction) | skip)
            | apply And.intro
            | (with_reducible rfl)
            | (clear hK; omega)
            | omega)
        refine hK _ [(i : Int), ((i + 1 + m : Nat) : Int)] rfl rfl rfl ks_fresh ?_
        clear hK K
        repeat' (first
            | refine absm_seq ?_
            | refine absm_block ?_
            | refine absm_skip ?_
            | refine absm_exit ?_
            | (refine absm_if ?_; (refine sim ?_; try exact trivial))
            | ((first | refine absm_piece fun w0 S0 M0 own β hβ => abs_region fun K hK => ?_ | refine absm_piece fun w0 S0 M0 own β hβ => abs_draw Tryz.ty.mixed (by kernel_rfl) fun K hK => ?_); (refine sim ?_; try exact trivial))
            | (refine hK _ ?_; clear hK K; simp only [thenM, blockM, if_true, Nat.reduceEqDiff, reduceIte])
            | ((first | show thenM _ _ _ _ _ | show blockM _ _ _ _ _); simp only [thenM, blockM, if_true, Nat.reduceEqDiff, reduceIte])
            | (intro hg; first | (exfalso; omega) | (exfalso; contradiction) | skip)
            | apply And.intro
            | (with_reducible rfl)
            | (clear hK; omega)
            | omega)
        all_goals exact ⟨m + 1, by omega, by omega, by simp [ksI, e1], le_of rfl (by try (refine sim ?_; try exact trivial); try simp; try omega) ⟨_, rfl⟩ ⟨_, rfl⟩⟩
    · obtain rfl : m = R.length - (i + 1) := by omega
      (refine sim ?_; try exact trivial)
      repeat' (first
          | refine absm_seq ?_
          | refine absm_block ?_
          | refine absm_skip ?_
          | refine absm_exit ?_
          | (refine absm_if ?_; (refine sim ?_; try exact trivial))
          | ((first | refine absm_piece fun w0 S0 M0 own β hβ => abs_region fun K hK => ?_ | refine absm_piece fun w0 S0 M0 own β hβ => abs_draw Tryz.ty.mixed (by kernel_rfl) fun K hK => ?_); (refine sim ?_; try exact trivial))
          | (refine hK _ ?_; clear hK K; simp only [thenM, blockM, if_true, Nat.reduceEqDiff, reduceIte])
          | ((first | show thenM _ _ _ _ _ | show blockM _ _ _ _ _); simp only [thenM, blockM, if_true, Nat.reduceEqDiff, reduceIte])
          | (intro hg; first | (exfalso; omega) | (exfalso; contradiction) | skip)
          | apply And.intro
          | (with_reducible rfl)
          | (clear hK; omega)
          | omega)
      all_goals exact ⟨i + 1, by omega, by omega, rfl, le_of rfl (by try (refine sim ?_; try exact trivial); try simp; try omega) ⟨_, rfl⟩ ⟨_, rfl⟩⟩
  · obtain rfl : i = R.length := by omega
    (refine sim ?_; try exact trivial)
    repeat' (first
        | refine absm_seq ?_
        | refine absm_block ?_
        | refine absm_skip ?_
        | refine absm_exit ?_
        | (refine absm_if ?_; (refine sim ?_; try exact trivial))
        | ((first | refine absm_piece fun w0 S0 M0 own β hβ => abs_region fun K hK => ?_ | refine absm_piece fun w0 S0 M0 own β hβ => abs_draw Tryz.ty.mixed (by kernel_rfl) fun K hK => ?_); (refine sim ?_; try exact trivial))
        | (refine hK _ ?_; clear hK K; simp only [thenM, blockM, if_true, Nat.reduceEqDiff, reduceIte])
        | ((first | show thenM _ _ _ _ _ | show blockM _ _ _ _ _); simp only [thenM, blockM, if_true, Nat.reduceEqDiff, reduceIte])
        | (intro hg; first | (exfalso; omega) | (exfalso; contradiction) | skip)
        | apply And.intro
        | (with_reducible rfl)
        | (clear hK; omega)
        | omega)
    · trivial
    refine absmc_close 3 2 (isF (ksO R R.length)) ?_ ?_ ?_
    · (refine sim ?_; try exact trivial)
    · intro k hk
      obtain ⟨p, q, h1, h2, h3, rfl, _⟩ := ksO_mem hk
      exact ⟨rfl, by simp [isF, hk]⟩
    · (refine sim ?_; try exact trivial)
      repeat' (first | refine st1 ?_ | ((first | refine abs_region fun K hK => ?_ | refine abs_draw Tryz.ty.mixed (by kernel_rfl) fun K hK => ?_ | refine abs_if ?_ | show retQ _ _ _ _ _); (refine sim ?_; try exact trivial)) | ((first | (refine hK _ ?_; clear hK K) | show thenQ _ _ _ _ | show blockQ _ _ _ _ | show noGoQ _ _ _); refine qst ?_) | (intro hg; try exact fin2) | apply And.intro | exact fin | fail)
      all_goals rfl
end Go.Proofs.YtmnepfejoneghaaGreatDoor
namespace Go.Proofs.YtmnepfejoneghaaGreatDoor
open Go.Ab
attribute [local irreducible] Abs CallK CallR CallsTo CallsB IA AbM AbMC
def xsI (ks : List (List Int)) (i : Nat) : Nat → List (List D)
  | 0 => []
  | k + 1 => xsI ks i k ++ (if [(i : Int), (k : Int)] ∈ ks then [[.agg [i64 i, i64 k]]] else [])
def xsO (ks : List (List Int)) (n : Nat) : Nat → List (List D)
  | 0 => []
  | i + 1 => xsO ks n i ++ xsI ks i n
theorem xsI_pre (ks : List (List Int)) (i : Nat) {a b : Nat} (h : a ≤ b) : xsI ks i a <+: xsI ks i b := by
  induction h with
  | refl => exact List.prefix_refl _
  | step _ ih => exact ih.trans (List.prefix_append _ _)
theorem xsO_pre (ks : List (List Int)) (n : Nat) {a b : Nat} (h : a ≤ b) : xsO ks n a <+: xsO ks n b := by
  induction h with
  | refl => exact List.prefix_refl _
  | step _ ih => exact ih.trans (List.prefix_append _ _)
theorem xs_at (ks : List (List Int)) (n i k : Nat) (hi : i < n) (hk : k < n) (h : [(i : Int), (k : Int)] ∈ ks) : (xsO ks n n)[(xsO ks n i ++ xsI ks i k).length]? = some [.agg [i64 i, i64 k]] := by
  have h1 : xsO ks n (i + 1) <+: xsO ks n n := xsO_pre ks n hi
  have h2 : xsI ks i (k + 1) <+: xsI ks i n := xsI_pre ks i hk
  have h3 : (xsO ks n i ++ xsI ks i k) ++ [[.agg [i64 i, i64 k]]] <+: xsO ks n n := by
    refine List.IsPrefix.trans ?_ h1
    simp only [xsO, List.append_assoc]
    rw [List.prefix_append_right_inj]
    simpa [xsI, h] using h2
  obtain ⟨t, ht⟩ := h3
  rw [← ht]
  simp
theorem isF_yes {ks : List (List Int)} {k : List Int} (h : k ∈ ks) : ((isF ks k).headD 0 != 0) = true := by simp [isF, h]
theorem isF_no {ks : List (List Int)} {k : List Int} (h : k ∉ ks) : ((isF ks k).headD 0 != 0) = false := by simp [isF, h]
abbrev wlC (R : List Rep) (ks : List (List Int)) : List D := wC R ++ [.memo ⟨true, .yes, 2, isF ks, ks⟩]
set_option maxRecDepth 100000 in
set_option maxHeartbeats 4000000 in
theorem alarms_iter (R : List Rep) (hn : R.length ≤ 9) (ks : List (List Int)) : IterM Tryz.prog 62 [wlD R ks] (xsO ks R.length R.length) := by
  refine iterM_of_ia Tryz.func62 Tryz.ntmps62 Tryz.results62 Tryz.call62 rfl (by simp) fun l J Jx => ?_
  repeat' (first
      | refine ia_seq ?_
      | refine ia_block ?_
      | refine ia_scope ?_
      | refine ia_label ?_
      | refine ia_skip ?_
      | refine ia_exit ?_
      | refine ia_ret ?_
      | (refine ia_if ?_; (refine sim ?_; try exact trivial))
      | (refine ia_abs fun w0 S0 M0 oq => abs_region fun K hK => ?_; (refine sim ?_; try exact trivial))
      | (refine ia_abs fun w0 S0 M0 oq => abs_draw Tryz.ty.mixed (by kernel_rfl) fun K hK => ?_; (refine sim ?_; try exact trivial))
      | (refine hK _ ?_; clear hK K; simp only [thenI, blockI, if_true, Nat.reduceEqDiff, reduceIte])
      | (show thenI _ _ _ _ _; simp only [thenI, blockI, if_true, Nat.reduceEqDiff, reduceIte])
      | (show noGoI _ _ _ _; simp only [noGoI, thenI, blockI, if_true, Nat.reduceEqDiff, reduceIte])
      | (show blockI _ _ _ _ _; simp only [thenI, blockI, if_true, Nat.reduceEqDiff, reduceIte])
      | (intro hg; first | (exfalso; omega) | (exfalso; contradiction) | skip)
      | apply And.intro
      | (with_reducible rfl)
      | (clear hK; omega)
      | omega)
  refine ia_weak _ (fun x a w hr => R_pure 2 (.ro (wlC R ks)) rfl (R_freeze 0 _ _ rfl rfl hr)) ?_
  refine ia_loop (ι := Nat) (fun j => [(1, .val (.func (.yield l) #[] #[])), (2, .ro (wlC R ks)), (10, i64 R.length), (11, i64 j)]) (fun j => (true, (xsO ks R.length j).length)) (fun j => j ≤ R.length) (fun j => R.length - j) (fun _ _ => rfl) 0 (Nat.zero_le _) rfl (le_of rfl (by try (refine sim ?_; try exact trivial); try simp) ⟨_, rfl⟩ ⟨_, rfl⟩) (fun i hi => ?_)
  by_cases hlt : i < R.length
  · (refine sim ?_; try exact trivial)
    repeat' (first
        | refine ia_seq ?_
        | refine ia_block ?_
        | refine ia_scope ?_
        | refine ia_label ?_
        | refine ia_skip ?_
        | refine ia_exit ?_
        | refine ia_ret ?_
        | (refine ia_if ?_; (refine sim ?_; try exact trivial))
        | (refine ia_abs fun w0 S0 M0 oq => abs_region fun K hK => ?_; (refine sim ?_; try exact trivial))
        | (refine ia_abs fun w0 S0 M0 oq => abs_draw Tryz.ty.mixed (by kernel_rfl) fun K hK => ?_; (refine sim ?_; try exact trivial))
        | (refine hK _ ?_; clear hK K; simp only [thenI, blockI, if_true, Nat.reduceEqDiff, reduceIte])
        | (show thenI _ _ _ _ _; simp only [thenI, blockI, if_true, Nat.reduceEqDiff, reduceIte])
        | (show noGoI _ _ _ _; simp only [noGoI, thenI, blockI, if_true, Nat.reduceEqDiff, reduceIte])
        | (show blockI _ _ _ _ _; simp only [thenI, blockI, if_true, Nat.reduceEqDiff, reduceIte])
        | (intro hg; first | (exfalso; omega) | (exfalso; contradiction) | skip)
        | apply And.intro
        | (with_reducible rfl)
        | (clear hK; omega)
        | omega)
    refine ia_loop (ι := Nat) (fun k => [(1, .val (.func (.yield l) #[] #[])), (2, .ro (wlC R ks)), (10, i64 R.length), (11, i64 i), (4, i64 i), (17, i64 R.length), (18, i64 k)]) (fun k => (true, (xsO ks R.length i ++ xsI ks i k).length)) (fun k => k ≤ R.length) (fun k => R.length - k) (fun _ _ => rfl) 0 (Nat.zero_le _) (by simp [xsI]) (le_of rfl (by try (refine sim ?_; try exact trivial); try simp) ⟨_, rfl⟩ ⟨_, rfl⟩) (fun k hk => ?_)
    by_cases hlt2 : k < R.length
    · by_cases hin : [(i : Int), (k : Int)] ∈ ks
      · have hf := isF_yes hin
        have hat := xs_at ks R.length i k hlt hlt2 hin
        (refine withX (And.intro @hf (And.intro @hin (And.intro @not_true_eq_false (And.intro @false_imp_iff (@and_true))))) fun hX => ?_; refine simh ?_; clear hX; try exact trivial)
        repeat' (first
            | refine ia_seq ?_
            | refine ia_block ?_
            | refine ia_scope ?_
            | refine ia_label ?_
            | refine ia_skip ?_
            | refine ia_exit ?_
            | refine ia_ret ?_
            | (refine ia_if ?_; (refine withX (And.intro @hf (And.intro @hin (And.intro @not_true_eq_false (And.intro @false_imp_iff (@and_true))))) fun hX => ?_; refine simh ?_; clear hX; try exact trivial))
            | ((refine ia_yieldNAt 7 rfl fun K1 hK1 => ?_; (refine withX (And.intro @hf (And.intro @hin (And.intro @not_true_eq_false (And.intro @false_imp_iff (@and_true))))) fun hX => ?_; refine simh ?_; clear hX; try exact trivial)))
            | (refine ia_abs fun w0 S0 M0 oq => abs_region fun K hK => ?_; (refine withX (And.intro @hf (And.intro @hin (And.intro @not_true_eq_false (And.intro @false_imp_iff (@and_true))))) fun hX => ?_; refine simh ?_; clear hX; try exact trivial))
            | (refine ia_abs fun w0 S0 M0 oq => abs_draw Tryz.ty.mixed (by kernel_rfl) fun K hK => ?_; (refine withX (And.intro @hf (And.intro @hin (And.intro @not_true_eq_false (And.intro @false_imp_iff (@and_true))))) fun hX => ?_; refine simh ?_; clear hX; try exact trivial))
            | (refine hK _ ?_; clear hK K; simp only [thenI, blockI, if_true, Nat.reduceEqDiff, reduceIte])
            | (show thenI _ _ _ _ _; simp only [thenI, blockI, if_true, Nat.reduceEqDiff, reduceIte])
            | (show noGoI _ _ _ _; simp only [noGoI, thenI, blockI, if_true, Nat.reduceEqDiff, reduceIte])
            | (show blockI _ _ _ _ _; simp only [thenI, blockI, if_true, Nat.reduceEqDiff, reduceIte])
            | (intro hg; first | (exfalso; omega) | (exfalso; contradiction) | skip)
            | apply And.intro
            | (with_reducible rfl)
            | (clear hK; omega)
            | omega)
        all_goals
          refine hK1 _ _ rfl rfl ?_ ?_ ?_ (fun b => ?_)
          · first | exact hat | (rw [List.length_append] at hat; exact hat)
          · (refine withX (And.intro @hf (And.intro @hin (And.intro @not_true_eq_false (And.intro @false_imp_iff (@and_true))))) fun hX => ?_; refine simh ?_; clear hX; try exact trivial)
          · intro q b e
            cases e
            exact ⟨28, rfl, rfl⟩
          · clear hK1 K1
            (refine withX (And.intro @hf (And.intro @hin (And.intro @not_true_eq_false (And.intro @false_imp_iff (@and_true))))) fun hX => ?_; refine simh ?_; clear hX; try exact trivial)
            repeat' (first
                | refine ia_seq ?_
                | refine ia_block ?_
                | refine ia_scope ?_
                | refine ia_label ?_
                | refine ia_skip ?_
                | refine ia_exit ?_
                | refine ia_ret ?_
                | (refine ia_if ?_; (refine withX (And.intro @hf (And.intro @hin (And.intro @not_true_eq_false (And.intro @false_imp_iff (@and_true))))) fun hX => ?_; refine simh ?_; clear hX; try exact trivial))
                | (refine ia_abs fun w0 S0 M0 oq => abs_region fun K hK => ?_; (refine withX (And.intro @hf (And.intro @hin (And.intro @not_true_eq_false (And.intro @false_imp_iff (@and_true))))) fun hX => ?_; refine simh ?_; clear hX; try exact trivial))
                | (refine ia_abs fun w0 S0 M0 oq => abs_draw Tryz.ty.mixed (by kernel_rfl) fun K hK => ?_; (refine withX (And.intro @hf (And.intro @hin (And.intro @not_true_eq_false (And.intro @false_imp_iff (@and_true))))) fun hX => ?_; refine simh ?_; clear hX; try exact trivial))
                | (refine hK _ ?_; clear hK K; simp only [thenI, blockI, if_true, Nat.reduceEqDiff, reduceIte])
                | (show thenI _ _ _ _ _; simp only [thenI, blockI, if_true, Nat.reduceEqDiff, reduceIte])
                | (show noGoI _ _ _ _; simp only [noGoI, thenI, blockI, if_true, Nat.reduceEqDiff, reduceIte])
                | (show blockI _ _ _ _ _; simp only [thenI, blockI, if_true, Nat.reduceEqDiff, reduceIte])
                | (intro hg; first | (exfalso; omega) | (exfalso; contradiction) | skip)
                | apply And.intro
                | (with_reducible rfl)
                | (clear hK; omega)
                | omega)
            · simp_all
            · have hb : b = true := by simp_all
              subst hb
              exact ⟨k + 1, by omega, by omega, by simp [xsI, hin]; omega, le_of rfl (by try (refine withX (And.intro @hf (And.intro @hin (And.intro @not_true_eq_false (And.intro @false_imp_iff (@and_true))))) fun hX => ?_; refine simh ?_; clear hX; try exact trivial); try simp; try omega) ⟨_, rfl⟩ ⟨_, rfl⟩⟩
      · have hf := isF_no hin
        (refine withX (And.intro @hf (And.intro @hin (And.intro @not_false_eq_true (And.intro @true_imp_iff (@and_self))))) fun hX => ?_; refine simh ?_; clear hX; try exact trivial)
        repeat' (first
            | refine ia_seq ?_
            | refine ia_block ?_
            | refine ia_scope ?_
            | refine ia_label ?_
            | refine ia_skip ?_
            | refine ia_exit ?_
            | refine ia_ret ?_
            | (refine ia_if ?_; (refine withX (And.intro @hf (And.intro @hin (And.intro @not_false_eq_true (And.intro @true_imp_iff (@and_self))))) fun hX => ?_; refine simh ?_; clear hX; try exact trivial))
            | (refine ia_abs fun w0 S0 M0 oq => abs_region fun K hK => ?_; (refine withX (And.intro @hf (And.intro @hin (And.intro @not_false_eq_true (And.intro @true_imp_iff (@and_self))))) fun hX => ?_; refine simh ?_; clear hX; try exact trivial))
            | (refine ia_abs fun w0 S0 M0 oq => abs_draw Tryz.ty.mixed (by kernel_rfl) fun K hK => ?_; (refine withX (And.intro @hf (And.intro @hin (And.intro @not_false_eq_true (And.intro @true_imp_iff (@and_self))))) fun hX => ?_; refine simh ?_; clear hX; try exact trivial))
            | (refine hK _ ?_; clear hK K; simp only [thenI, blockI, if_true, Nat.reduceEqDiff, reduceIte])
            | (show thenI _ _ _ _ _; simp only [thenI, blockI, if_true, Nat.reduceEqDiff, reduceIte])
            | (show noGoI _ _ _ _; simp only [noGoI, thenI, blockI, if_true, Nat.reduceEqDiff, reduceIte])
            | (show blockI _ _ _ _ _; simp only [thenI, blockI, if_true, Nat.reduceEqDiff, reduceIte])
            | (intro hg; first | (exfalso; omega) | (exfalso; contradiction) | skip)
            | apply And.intro
            | (with_reducible rfl)
            | (clear hK; omega)
            | omega)
        all_goals exact ⟨k + 1, by omega, by omega, by simp [xsI, hin], le_of rfl (by try (refine withX (And.intro @hf (And.intro @hin (And.intro @not_false_eq_true (And.intro @true_imp_iff (@and_self))))) fun hX => ?_; refine simh ?_; clear hX; try exact trivial); try simp; try omega) ⟨_, rfl⟩ ⟨_, rfl⟩⟩
    · obtain rfl : k = R.length := by omega
      (refine sim ?_; try exact trivial)
      repeat' (first
          | refine ia_seq ?_
          | refine ia_block ?_
          | refine ia_scope ?_
          | refine ia_label ?_
          | refine ia_skip ?_
          | refine ia_exit ?_
          | refine ia_ret ?_
          | (refine ia_if ?_; (refine sim ?_; try exact trivial))
          | (refine ia_abs fun w0 S0 M0 oq => abs_region fun K hK => ?_; (refine sim ?_; try exact trivial))
          | (refine ia_abs fun w0 S0 M0 oq => abs_draw Tryz.ty.mixed (by kernel_rfl) fun K hK => ?_; (refine sim ?_; try exact trivial))
          | (refine hK _ ?_; clear hK K; simp only [thenI, blockI, if_true, Nat.reduceEqDiff, reduceIte])
          | (show thenI _ _ _ _ _; simp only [thenI, blockI, if_true, Nat.reduceEqDiff, reduceIte])
          | (show noGoI _ _ _ _; simp only [noGoI, thenI, blockI, if_true, Nat.reduceEqDiff, reduceIte])
          | (show blockI _ _ _ _ _; simp only [thenI, blockI, if_true, Nat.reduceEqDiff, reduceIte])
          | (intro hg; first | (exfalso; omega) | (exfalso; contradiction) | skip)
          | apply And.intro
          | (with_reducible rfl)
          | (clear hK; omega)
          | omega)
      all_goals exact ⟨i + 1, by omega, by omega, by simp [xsO], le_of rfl (by try (refine sim ?_; try exact trivial); try simp; try omega) ⟨_, rfl⟩ ⟨_, rfl⟩⟩
  · obtain rfl : i = R.length := by omega
    (refine sim ?_; try exact trivial)
    repeat' (first
        | refine ia_seq ?_
        | refine ia_block ?_
        | refine ia_scope ?_
        | refine ia_label ?_
        | refine ia_skip ?_
        | refine ia_exit ?_
        | refine ia_ret ?_
        | (refine ia_if ?_; (refine sim ?_; try exact trivial))
        | (refine ia_abs fun w0 S0 M0 oq => abs_region fun K hK => ?_; (refine sim ?_; try exact trivial))
        | (refine ia_abs fun w0 S0 M0 oq => abs_draw Tryz.ty.mixed (by kernel_rfl) fun K hK => ?_; (refine sim ?_; try exact trivial))
        | (refine hK _ ?_; clear hK K; simp only [thenI, blockI, if_true, Nat.reduceEqDiff, reduceIte])
        | (show thenI _ _ _ _ _; simp only [thenI, blockI, if_true, Nat.reduceEqDiff, reduceIte])
        | (show noGoI _ _ _ _; simp only [noGoI, thenI, blockI, if_true, Nat.reduceEqDiff, reduceIte])
        | (show blockI _ _ _ _ _; simp only [thenI, blockI, if_true, Nat.reduceEqDiff, reduceIte])
        | (intro hg; first | (exfalso; omega) | (exfalso; contradiction) | skip)
        | apply And.intro
        | (with_reducible rfl)
        | (clear hK; omega)
        | omega)
    all_goals skip
end Go.Proofs.YtmnepfejoneghaaGreatDoor
