import Derived.Test.YtmnepfejoneghaaGreatDoorK18
import Derived.Test.YtmnepfejoneghaaGreatDoorK10
import Derived.Test.YtmnepfejoneghaaGreatDoorK15
import Derived.Test.YtmnepfejoneghaaGreatDoorK17
set_option linter.unusedVariables false
set_option linter.unusedSimpArgs false
namespace Go.Proofs.YtmnepfejoneghaaGreatDoor
open Go.Ab
attribute [local irreducible] Abs CallK CallR CallsTo IA
/-- The error of what is asked of a station. -/
noncomputable def errN (s : Stn) (fine : Prop) [Decidable fine] : Int := if StOk s ∧ fine then (if NoClash s then 0 else 7) else 2
section
variable {s : Stn} {fine : Prop} [Decidable fine]
theorem errN_arg (h : ¬ (StOk s ∧ fine)) : errN s fine = 2 := by unfold errN; rw [if_neg h]
theorem errN_rule (h : StOk s ∧ fine) (hc : ¬ NoClash s) : errN s fine = 7 := by unfold errN; rw [if_pos h, if_neg hc]
theorem errN_ok (h : StOk s ∧ fine) (hc : NoClash s) : errN s fine = 0 := by unfold errN; rw [if_pos h, if_pos hc]
/-- What a question to a station answers, its comparisons ask. -/
theorem asked_ok (hl : s.ck.length ≤ 9223372036854775807) : CallsTo Tryz.prog 43 [stD s, .bool (decide fine)] (.tup [if errN s fine = 0 then stM s else noM, i64 (errN s fine)]) := by
  by_cases h : StOk s ∧ fine
  · by_cases hc : NoClash s
    · rw [errN_ok h hc, decide_eq_true h.2]; exact agreed_ok s h.1 hc
    · rw [errN_rule h hc, decide_eq_true h.2]; exact agreed_rule s h.1 hc
  · rw [errN_arg h]; exact agreed_arg s hl _ (by simpa using h)
theorem errN_zero (h : errN s fine = 0) : (StOk s ∧ fine) ∧ NoClash s := by
  unfold errN at h
  split at h
  · split at h
    · exact ⟨‹_›, ‹_›⟩
    · omega
  · omega
end
end Go.Proofs.YtmnepfejoneghaaGreatDoor
namespace Go.Proofs.YtmnepfejoneghaaGreatDoor
open Go.Ab
attribute [local irreducible] Abs CallK CallR CallsTo IA
/-- What Due answers. -/
noncomputable def dueD (s : Stn) (f w : Int) : D := if errN s ((0 ≤ f ∧ f ≤ 400) ∧ 0 ≤ w ∧ w ≤ 4000) = 0 then
  (if dueI s f w < 0 then .tup [i64 0, i64 5] else .tup [i64 (dueI s f w), i64 0]) else .tup [i64 0, i64 (errN s ((0 ≤ f ∧ f ≤ 400) ∧ 0 ≤ w ∧ w ≤ 4000))]
set_option maxRecDepth 100000 in
set_option maxHeartbeats 4000000 in
theorem gDue_ok (s : Stn) (hl : s.ck.length ≤ 9223372036854775807) (f w : Int) : CallsTo Tryz.prog 18 [stD s, i64 f, i64 w] (dueD s f w) := by
  have ha := asked_ok (s := s) (fine := (0 ≤ f ∧ f ≤ 400) ∧ 0 ≤ w ∧ w ≤ 4000) hl
  unfold dueD
  by_cases h : errN s ((0 ≤ f ∧ f ≤ 400) ∧ 0 ≤ w ∧ w ≤ 4000) = 0
  · have h2 := errN_zero h
    have hs := h2.1.1
    have hf := h2.1.2.1
    have hw := h2.1.2.2
    rw [h] at ha ⊢
    rw [if_pos rfl] at ha
    rw [if_pos rfl]
    rw [decide_eq_true h2.1.2] at ha
    have g1 : CallsTo Tryz.prog 54 [i64 f, i64 0, i64 400] (.bool true) := decide_eq_true hf ▸ gin_ok f 0 400
    have g2 : CallsTo Tryz.prog 54 [i64 w, i64 0, i64 4000] (.bool true) := decide_eq_true hw ▸ gin_ok w 0 4000
    refine calls_abs Tryz.func18 Tryz.ntmps18 Tryz.results18 Tryz.call18 rfl (by simp) fun w0 S0 M0 => ?_
    repeat' (first | refine st1 ?_ | ((first | (show Abs _ (.region 1 _ true) _ _; refine abs_drawD [(3, 8)] Tryz.ty.mixed (by kernel_rfl) fun K hK => ?_) | show Sep _ _ | refine abs_region fun K hK => ?_ | refine abs_draw Tryz.ty.mixed (by kernel_rfl) fun K hK => ?_ | refine abs_if ?_ | show retQ _ _ _ _ _ | refine callK (g1) ?_ | refine callK (g2) ?_ | refine callK (ha) ?_); (refine sim ?_; try exact trivial)) | ((first | (refine hK _ ?_; clear hK K) | show thenQ _ _ _ _ | show blockQ _ _ _ _ | show noGoQ _ _ _); refine qst ?_) | (intro hg; try exact fin2) | apply And.intro | exact fin | fail)
    refine abs_loopN (ι := Nat) (fun j => [(1, i64 f), (2, i64 w), (8, .box 1 0), (28, i64 (400 - f + 1)), (29, i64 j)]) (fun _ => [.mu (stC s), .mu (stMC s)]) (fun _ => [])
      (fun j => f + j ≤ 401 ∧ dueI s f w = dueK s w (401 - (f + j)).toNat (f + j)) (fun j => (401 - (f + j)).toNat) (fun _ _ => ⟨rfl, rfl⟩) 0 ⟨by omega, by rw [Int.natCast_zero, Int.add_zero]; rfl⟩ (le_of rfl (by try (refine sim ?_; try exact trivial); try simp) ⟨_, rfl⟩ ⟨_, rfl⟩) (fun j ⟨hj, hi⟩ => ?_)
    by_cases h4 : f + j ≤ 400
    · have b1 := ixL_bd hs (day := f + j) (by omega)
      have b2 := ixH_bd hs (day := f + j) (by omega)
      have e : (401 - (f + j)).toNat = (401 - (f + ((j + 1 : Nat) : Int))).toNat + 1 := by omega
      have e2 : f + ((j + 1 : Nat) : Int) = f + j + 1 := by omega
      rw [e] at hi
      simp only [dueK] at hi
      by_cases hw' : w < ixH s (f + j) - ixL s (f + j)
      · rw [if_pos hw'] at hi
        rw [hi, if_neg (by omega)]
        (refine sim ?_; try exact trivial)
        repeat' (first | refine st1 ?_ | ((first | refine abs_region fun K hK => ?_ | refine abs_draw Tryz.ty.mixed (by kernel_rfl) fun K hK => ?_ | refine abs_if ?_ | show retQ _ _ _ _ _ | refine callK (index_ok s hs (f + j) (by omega)) ?_); (refine sim ?_; try exact trivial)) | ((first | (refine hK _ ?_; clear hK K) | show thenQ _ _ _ _ | show blockQ _ _ _ _ | show noGoQ _ _ _); refine qst ?_) | (intro hg; try exact fin2) | apply And.intro | exact fin | fail)
        all_goals skip
      · rw [if_neg hw'] at hi
        (refine sim ?_; try exact trivial)
        repeat' (first | refine st1 ?_ | ((first | refine abs_region fun K hK => ?_ | refine abs_draw Tryz.ty.mixed (by kernel_rfl) fun K hK => ?_ | refine abs_if ?_ | show retQ _ _ _ _ _ | refine callK (index_ok s hs (f + j) (by omega)) ?_); (refine sim ?_; try exact trivial)) | ((first | (refine hK _ ?_; clear hK K) | show thenQ _ _ _ _ | show blockQ _ _ _ _ | show noGoQ _ _ _); refine qst ?_) | (intro hg; try exact fin2) | apply And.intro | exact fin | fail)
        refine ⟨j + 1, ⟨by omega, ?_⟩, by omega, le_of rfl (by try (refine sim ?_; try exact trivial); try simp; try omega) ⟨_, rfl⟩ ⟨_, rfl⟩⟩
        rw [hi, e2]
    · have e : (401 - (f + j)).toNat = 0 := by omega
      rw [e] at hi
      simp only [dueK] at hi
      rw [hi, if_pos (by omega)]
      (refine sim ?_; try exact trivial)
      repeat' (first | refine st1 ?_ | ((first | refine abs_region fun K hK => ?_ | refine abs_draw Tryz.ty.mixed (by kernel_rfl) fun K hK => ?_ | refine abs_if ?_ | show retQ _ _ _ _ _); (refine sim ?_; try exact trivial)) | ((first | (refine hK _ ?_; clear hK K) | show thenQ _ _ _ _ | show blockQ _ _ _ _ | show noGoQ _ _ _); refine qst ?_) | (intro hg; try exact fin2) | apply And.intro | exact fin | fail)
      all_goals skip
  · rw [if_neg h]
    by_cases hf : 0 ≤ f ∧ f ≤ 400
    · have g1 : CallsTo Tryz.prog 54 [i64 f, i64 0, i64 400] (.bool true) := decide_eq_true hf ▸ gin_ok f 0 400
      have e : decide ((0 ≤ f ∧ f ≤ 400) ∧ 0 ≤ w ∧ w ≤ 4000) = decide (0 ≤ w ∧ w ≤ 4000) := by simp [hf]
      rw [e] at ha
      generalize errN s ((0 ≤ f ∧ f ≤ 400) ∧ 0 ≤ w ∧ w ≤ 4000) = e at *
      rw [if_neg h] at ha
      refine calls_abs Tryz.func18 Tryz.ntmps18 Tryz.results18 Tryz.call18 rfl (by simp) fun w0 S0 M0 => ?_
      repeat' (first | refine st1 ?_ | ((first | (show Abs _ (.region 1 _ true) _ _; refine abs_drawD [(3, 8)] Tryz.ty.mixed (by kernel_rfl) fun K hK => ?_) | show Sep _ _ | refine abs_region fun K hK => ?_ | refine abs_draw Tryz.ty.mixed (by kernel_rfl) fun K hK => ?_ | refine abs_if ?_ | show retQ _ _ _ _ _ | refine callK (g1) ?_ | refine callK (gin_ok _ _ _) ?_ | refine callK (ha) ?_); (refine sim ?_; try exact trivial)) | ((first | (refine hK _ ?_; clear hK K) | show thenQ _ _ _ _ | show blockQ _ _ _ _ | show noGoQ _ _ _); refine qst ?_) | (exact (rfl : (Value.slice none 0 0).oneCell' = true)) | (exact (rfl : (Value.map none).oneCell' = true)) | (intro hg; try exact fin2) | apply And.intro | exact fin | fail)
    · have g1 : CallsTo Tryz.prog 54 [i64 f, i64 0, i64 400] (.bool false) := decide_eq_false hf ▸ gin_ok f 0 400
      have e : decide ((0 ≤ f ∧ f ≤ 400) ∧ 0 ≤ w ∧ w ≤ 4000) = false := by simp [hf]
      rw [e] at ha
      generalize errN s ((0 ≤ f ∧ f ≤ 400) ∧ 0 ≤ w ∧ w ≤ 4000) = e at *
      rw [if_neg h] at ha
      refine calls_abs Tryz.func18 Tryz.ntmps18 Tryz.results18 Tryz.call18 rfl (by simp) fun w0 S0 M0 => ?_
      repeat' (first | refine st1 ?_ | ((first | (show Abs _ (.region 1 _ true) _ _; refine abs_drawD [(3, 8)] Tryz.ty.mixed (by kernel_rfl) fun K hK => ?_) | show Sep _ _ | refine abs_region fun K hK => ?_ | refine abs_draw Tryz.ty.mixed (by kernel_rfl) fun K hK => ?_ | refine abs_if ?_ | show retQ _ _ _ _ _ | refine callK (g1) ?_ | refine callK (gin_ok _ _ _) ?_ | refine callK (ha) ?_); (refine sim ?_; try exact trivial)) | ((first | (refine hK _ ?_; clear hK K) | show thenQ _ _ _ _ | show blockQ _ _ _ _ | show noGoQ _ _ _); refine qst ?_) | (exact (rfl : (Value.slice none 0 0).oneCell' = true)) | (exact (rfl : (Value.map none).oneCell' = true)) | (intro hg; try exact fin2) | apply And.intro | exact fin | fail)
end Go.Proofs.YtmnepfejoneghaaGreatDoor
namespace Go.Proofs.YtmnepfejoneghaaGreatDoor
open Go.Ab
attribute [local irreducible] Abs CallK CallR CallsTo IA
end Go.Proofs.YtmnepfejoneghaaGreatDoor
namespace Go.Proofs.YtmnepfejoneghaaGreatDoor
open Go.Ab
attribute [local irreducible] Abs CallK CallR CallsTo IA
end Go.Proofs.YtmnepfejoneghaaGreatDoor
namespace Go.Proofs.YtmnepfejoneghaaGreatDoor
open Go.Ab
attribute [local irreducible] Abs CallK CallR CallsTo IA
set_option maxRecDepth 100000 in
set_option maxHeartbeats 4000000 in
theorem at_ok (a b : Int) (h : Bool) : CallsTo Tryz.prog 90 [spD a b, .bool h] (i64 (if h = true then a else b)) := by
  cases h
  · refine calls_abs Tryz.func90 Tryz.ntmps90 Tryz.results90 Tryz.call90 rfl (by simp) fun w0 S0 M0 => ?_
    repeat' (first | refine st1 ?_ | ((first | refine abs_region fun K hK => ?_ | refine abs_draw Tryz.ty.mixed (by kernel_rfl) fun K hK => ?_ | refine abs_if ?_ | show retQ _ _ _ _ _); (refine sim ?_; try exact trivial)) | ((first | (refine hK _ ?_; clear hK K) | show thenQ _ _ _ _ | show blockQ _ _ _ _ | show noGoQ _ _ _); refine qst ?_) | (intro hg; try exact fin2) | apply And.intro | exact fin | fail)
  · refine calls_abs Tryz.func90 Tryz.ntmps90 Tryz.results90 Tryz.call90 rfl (by simp) fun w0 S0 M0 => ?_
    repeat' (first | refine st1 ?_ | ((first | refine abs_region fun K hK => ?_ | refine abs_draw Tryz.ty.mixed (by kernel_rfl) fun K hK => ?_ | refine abs_if ?_ | show retQ _ _ _ _ _); (refine sim ?_; try exact trivial)) | ((first | (refine hK _ ?_; clear hK K) | show thenQ _ _ _ _ | show blockQ _ _ _ _ | show noGoQ _ _ _); refine qst ?_) | (intro hg; try exact fin2) | apply And.intro | exact fin | fail)
def endG (s : Stn) (r : Rdg) (lo he dr we : Bool) : Tru :=
  ⟨if (!lo) = true then ixL s r.day else ixH s r.day, if (!lo) = true then -s.rd else s.rd, if lo = true then s.gl else s.gh, if he = true then s.hl else s.hh, if (!lo) = true then r.al else r.ah, if dr = true then r.dl else r.dh, if we = true then r.wl else r.wh⟩
theorem endG_ok {s : Stn} {r : Rdg} (hs : StOk s) (hr : RdOk r) (hn : NoClash s) (lo he dr we : Bool) : TrOk s r (endG s r lo he dr we) := by
  have h1 := ix_le hs hn r.day
  have h3 := hs.h; have h4 := hs.g; have h5 := hs.r; have h6 := hr.a; have h7 := hr.y; have h8 := hr.w
  unfold Spn at *
  unfold TrOk endG
  simp only
  refine ⟨?_, ?_, ?_, ?_, ?_, ?_, ?_⟩ <;> split <;> omega
set_option maxRecDepth 100000 in
set_option maxHeartbeats 4000000 in
theorem end_ok (s : Stn) (hs : StOk s) (r : Rdg) (hr : RdOk r) (lo he dr we : Bool) : CallsTo Tryz.prog 48 [stM s, rdD r, .bool lo, .bool he, .bool dr, .bool we] (trD (endG s r lo he dr we)) := by
  have h5 := hs.r
  refine calls_abs Tryz.func48 Tryz.ntmps48 Tryz.results48 Tryz.call48 rfl (by simp) fun w0 S0 M0 => ?_
  repeat' (first | refine st1 ?_ | ((first | (show Abs _ (.region 3 _ true) _ _; refine abs_drawD [(13, 12), (26, 12), (30, 12), (38, 12), (44, 12), (49, 12), (55, 12), (60, 12)] Tryz.ty.mixed (by kernel_rfl) fun K hK => ?_) | show Sep _ _ | refine abs_region fun K hK => ?_ | refine abs_draw Tryz.ty.mixed (by kernel_rfl) fun K hK => ?_ | refine abs_if ?_ | show retQ _ _ _ _ _ | refine callK (index_ok s hs r.day hr.d) ?_ | refine callK (at_ok _ _ _) ?_); (refine sim ?_; try exact trivial)) | ((first | (refine hK _ ?_; clear hK K) | show thenQ _ _ _ _ | show blockQ _ _ _ _ | show noGoQ _ _ _); refine qst ?_) | (intro hg; try exact fin2) | apply And.intro | exact fin | fail)
  cases lo <;> rfl
abbrev rdC (r : Rdg) : List D := [i64 r.day, i64 r.min, i64 r.clk, i64 r.mer, i64 r.al, i64 r.ah, i64 r.dl, i64 r.dh, i64 r.wl, i64 r.wh]
set_option maxRecDepth 100000 in
set_option maxHeartbeats 4000000 in
theorem k2_ok (r : Rdg) (t : Tru) : CallsTo Tryz.prog 50 [wxD r t] (i64 (here r t)) := by
  refine calls_abs Tryz.func50 Tryz.ntmps50 Tryz.results50 Tryz.call50 rfl (by simp) fun w0 S0 M0 => ?_
  repeat' (first | refine st1 ?_ | ((first | refine abs_region fun K hK => ?_ | refine abs_draw Tryz.ty.mixed (by kernel_rfl) fun K hK => ?_ | refine abs_if ?_ | show retQ _ _ _ _ _); (refine sim ?_; try exact trivial)) | ((first | (refine hK _ ?_; clear hK K) | show thenQ _ _ _ _ | show blockQ _ _ _ _ | show noGoQ _ _ _); refine qst ?_) | (intro hg; try exact fin2) | apply And.intro | exact fin | fail)
set_option maxRecDepth 100000 in
set_option maxHeartbeats 4000000 in
theorem k3_ok (r : Rdg) (t : Tru) : CallsTo Tryz.prog 51 [wxD r t] (i64 (seaT r t)) := by
  refine calls_abs Tryz.func51 Tryz.ntmps51 Tryz.results51 Tryz.call51 rfl (by simp) fun w0 S0 M0 => ?_
  repeat' (first | refine st1 ?_ | ((first | refine abs_region fun K hK => ?_ | refine abs_draw Tryz.ty.mixed (by kernel_rfl) fun K hK => ?_ | refine abs_if ?_ | show retQ _ _ _ _ _); (refine sim ?_; try exact trivial)) | ((first | (refine hK _ ?_; clear hK K) | show thenQ _ _ _ _ | show blockQ _ _ _ _ | show noGoQ _ _ _); refine qst ?_) | (intro hg; try exact fin2) | apply And.intro | exact fin | fail)
set_option maxRecDepth 100000 in
set_option maxHeartbeats 4000000 in
theorem k4_ok (r : Rdg) (t : Tru) : CallsTo Tryz.prog 52 [wxD r t] (i64 (hum r t)) := by
  refine calls_abs Tryz.func52 Tryz.ntmps52 Tryz.results52 Tryz.call52 rfl (by simp) fun w0 S0 M0 => ?_
  repeat' (first | refine st1 ?_ | ((first | refine abs_region fun K hK => ?_ | refine abs_draw Tryz.ty.mixed (by kernel_rfl) fun K hK => ?_ | refine abs_if ?_ | show retQ _ _ _ _ _); (refine sim ?_; try exact trivial)) | ((first | (refine hK _ ?_; clear hK K) | show thenQ _ _ _ _ | show blockQ _ _ _ _ | show noGoQ _ _ _); refine qst ?_) | (intro hg; try exact fin2) | apply And.intro | exact fin | fail)
set_option maxRecDepth 100000 in
set_option maxHeartbeats 4000000 in
theorem k1_ok (r : Rdg) (hr : RdOk r) (t : Tru) (ht : TrB t) (w : FuncId) (n : Int) (h : CallsTo Tryz.prog w [wxD r t] (i64 n)) : CallsTo Tryz.prog 46 [trD t, .ro [.clo w []], .ro (rdC r)] (i64 n) := by
  refine calls_abs Tryz.func46 Tryz.ntmps46 Tryz.results46 Tryz.call46 rfl (by simp) fun w0 S0 M0 => ?_
  repeat' (first | refine st1 ?_ | ((first | refine abs_region fun K hK => ?_ | refine abs_draw Tryz.ty.mixed (by kernel_rfl) fun K hK => ?_ | refine abs_if ?_ | show retQ _ _ _ _ _ | refine callK (weather_ok r hr t ht) ?_ | refine callK (h) ?_); (refine sim ?_; try exact trivial)) | ((first | (refine hK _ ?_; clear hK K) | show thenQ _ _ _ _ | show blockQ _ _ _ _ | show noGoQ _ _ _); refine qst ?_) | (intro hg; try exact fin2) | apply And.intro | exact fin | fail)
set_option maxRecDepth 100000 in
set_option maxHeartbeats 4000000 in
theorem k0_ok (r : Rdg) (w : FuncId) : CallsTo Tryz.prog 45 [.clo w [], .ro (rdC r)] (.clo 46 [.ro [.clo w []], .ro (rdC r)]) := by
  refine calls_abs Tryz.func45 Tryz.ntmps45 Tryz.results45 Tryz.call45 rfl (by simp) fun w0 S0 M0 => ?_
  repeat' (first | (refine abs_freeze 0 _ _ rfl rfl ?_; simp only [basL, Nat.reduceAdd]) | refine st1 ?_ | ((first | refine abs_region fun K hK => ?_ | refine abs_draw Tryz.ty.mixed (by kernel_rfl) fun K hK => ?_ | refine abs_if ?_ | show retQ _ _ _ _ _); (refine sim ?_; try exact trivial)) | ((first | (refine hK _ ?_; clear hK K) | show thenQ _ _ _ _ | show blockQ _ _ _ _ | show noGoQ _ _ _); refine qst ?_) | (intro hg; try exact fin2) | apply And.intro | exact fin | fail)
set_option maxRecDepth 100000 in
set_option maxHeartbeats 4000000 in
theorem ends_ok (r : Rdg) (hr : RdOk r) (t u : Tru) (ht : TrB t) (hu : TrB u) (w : FuncId) (n m : Int) (h1 : CallsTo Tryz.prog w [wxD r t] (i64 n)) (h2 : CallsTo Tryz.prog w [wxD r u] (i64 m)) :
    CallsTo Tryz.prog 49 [trD t, trD u, .clo 46 [.ro [.clo w []], .ro (rdC r)]] (spD n m) := by
  refine calls_abs Tryz.func49 Tryz.ntmps49 Tryz.results49 Tryz.call49 rfl (by simp) fun w0 S0 M0 => ?_
  repeat' (first | refine st1 ?_ | ((first | refine abs_region fun K hK => ?_ | refine abs_draw Tryz.ty.mixed (by kernel_rfl) fun K hK => ?_ | refine abs_if ?_ | show retQ _ _ _ _ _ | refine callK (k1_ok r hr t ht w n h1) ?_ | refine callK (k1_ok r hr u hu w m h2) ?_); (refine sim ?_; try exact trivial)) | ((first | (refine hK _ ?_; clear hK K) | show thenQ _ _ _ _ | show blockQ _ _ _ _ | show noGoQ _ _ _); refine qst ?_) | (intro hg; try exact fin2) | apply And.intro | exact fin | fail)
set_option maxRecDepth 100000 in
set_option maxHeartbeats 4000000 in
theorem gKnow_ok (s : Stn) (hl : s.ck.length ≤ 9223372036854775807) (r : Rdg) : CallsTo Tryz.prog 15 [stD s, rdD r]
    (.tup [if errN s (RdOk r) = 0 then knD s r else .agg [i64 0, i64 0, i64 0, i64 0, i64 0, i64 0], i64 (errN s (RdOk r))]) := by
  have ha := asked_ok (s := s) (fine := RdOk r) hl
  by_cases h : errN s (RdOk r) = 0
  · have h2 := errN_zero h
    have hs := h2.1.1
    have hr := h2.1.2
    have b := fun lo he dr we => trB_of hs hr (endG_ok hs hr h2.2 lo he dr we)
    rw [h] at ha ⊢
    rw [if_pos rfl] at ha ⊢
    refine calls_abs Tryz.func15 Tryz.ntmps15 Tryz.results15 Tryz.call15 rfl (by simp) fun w0 S0 M0 => ?_
    repeat' (first | (refine abs_freeze 1 _ _ rfl rfl ?_; simp only [basL, Nat.reduceAdd]) | refine st1 ?_ | ((first | (show Abs _ (.region 1 _ true) _ _; refine abs_drawD [(2, 6), (3, 6)] Tryz.ty.mixed (by kernel_rfl) fun K hK => ?_) | (show Abs _ (.region 5 _ true) _ _; refine abs_drawP [(6, 9), (6, 10), (3, 9), (3, 10), (10, 9), (9, 10)] [0, 1, 2, 3, 4, 5] 6 7 [8, 9] Tryz.ty.mixed (by kernel_rfl) fun K hK => ?_) | (show Abs _ (.region 6 _ true) _ _; refine abs_drawP [(6, 11), (6, 12), (3, 11), (3, 12), (12, 11), (11, 12)] [0, 1, 2, 3, 4, 5] 6 7 [8, 9] Tryz.ty.mixed (by kernel_rfl) fun K hK => ?_) | (show Abs _ (.region 7 _ true) _ _; refine abs_drawD [(9, 4), (10, 4), (11, 4), (12, 4)] Tryz.ty.mixed (by kernel_rfl) fun K hK => ?_) | show Sep _ _ | refine abs_region fun K hK => ?_ | refine abs_draw Tryz.ty.mixed (by kernel_rfl) fun K hK => ?_ | refine abs_if ?_ | show retQ _ _ _ _ _ | refine callK (greading_ok _) ?_ | refine callK (ha) ?_ | refine callK (end_ok s hs r hr _ _ _ _) ?_ | refine callK (k0_ok r _) ?_ | refine callK (ends_ok r hr _ _ (b _ _ _ _) (b _ _ _ _) 50 _ _ (k2_ok r _) (k2_ok r _)) ?_ | refine callK (ends_ok r hr _ _ (b _ _ _ _) (b _ _ _ _) 51 _ _ (k3_ok r _) (k3_ok r _)) ?_ | refine callK (ends_ok r hr _ _ (b _ _ _ _) (b _ _ _ _) 52 _ _ (k4_ok r _) (k4_ok r _)) ?_); (refine sim ?_; try exact trivial)) | ((first | (refine hK _ ?_; clear hK K) | show thenQ _ _ _ _ | show blockQ _ _ _ _ | show noGoQ _ _ _); refine qst ?_) | (show SLe _ _; refine sle_of rfl ?_ ?_ rfl) | (show SlLe _ _; first | refine slle_none | refine slle_put ?_ ?_) | (show @Eq D _ _; (refine sim ?_; try exact trivial); done) | (show @Eq (List Bx) _ _; (refine sim ?_; try exact trivial); done) | (intro hg; try exact fin2) | apply And.intro | exact fin | fail)
    all_goals rfl
  · generalize errN s (RdOk r) = e at *
    rw [if_neg h] at ha ⊢
    refine calls_abs Tryz.func15 Tryz.ntmps15 Tryz.results15 Tryz.call15 rfl (by simp) fun w0 S0 M0 => ?_
    repeat' (first | refine st1 ?_ | ((first | (show Abs _ (.region 1 _ true) _ _; refine abs_drawD [(2, 6), (3, 6)] Tryz.ty.mixed (by kernel_rfl) fun K hK => ?_) | (show Abs _ (.region 5 _ true) _ _; refine abs_drawP [(6, 9), (6, 10), (3, 9), (3, 10), (10, 9), (9, 10)] [0, 1, 2, 3, 4, 5] 6 7 [8, 9] Tryz.ty.mixed (by kernel_rfl) fun K hK => ?_) | (show Abs _ (.region 6 _ true) _ _; refine abs_drawP [(6, 11), (6, 12), (3, 11), (3, 12), (12, 11), (11, 12)] [0, 1, 2, 3, 4, 5] 6 7 [8, 9] Tryz.ty.mixed (by kernel_rfl) fun K hK => ?_) | (show Abs _ (.region 7 _ true) _ _; refine abs_drawD [(9, 4), (10, 4), (11, 4), (12, 4)] Tryz.ty.mixed (by kernel_rfl) fun K hK => ?_) | show Sep _ _ | refine abs_region fun K hK => ?_ | refine abs_draw Tryz.ty.mixed (by kernel_rfl) fun K hK => ?_ | refine abs_if ?_ | show retQ _ _ _ _ _ | refine callK (greading_ok _) ?_ | refine callK (ha) ?_); (refine sim ?_; try exact trivial)) | ((first | (refine hK _ ?_; clear hK K) | show thenQ _ _ _ _ | show blockQ _ _ _ _ | show noGoQ _ _ _); refine qst ?_) | (show SLe _ _; refine sle_of rfl ?_ ?_ rfl) | (show SlLe _ _; first | refine slle_none | refine slle_put ?_ ?_) | (show @Eq D _ _; (refine sim ?_; try exact trivial); done) | (show @Eq (List Bx) _ _; (refine sim ?_; try exact trivial); done) | (exact (rfl : (Value.slice none 0 0).oneCell' = true)) | (exact (rfl : (Value.map none).oneCell' = true)) | (intro hg; try exact fin2) | apply And.intro | exact fin | fail)
end Go.Proofs.YtmnepfejoneghaaGreatDoor
namespace Go.Proofs.YtmnepfejoneghaaGreatDoor
open Go.Ab
attribute [local irreducible] Abs CallK CallR CallsTo IA
section
variable {s : Stn} {r : Rdg}
end
end Go.Proofs.YtmnepfejoneghaaGreatDoor
namespace Go.Proofs.YtmnepfejoneghaaGreatDoor
open Go.Ab
/-- A contract of a function that writes nothing that lay and returns one string. -/
theorem callsTo_str {f : FuncId} {ds : List D} {b : ByteArray} (hc : ∀ (args : Array Value) (w : World), (callFunc f args).run Tryz.prog w = .ok (.enter f args) w)
    (h : ∀ (S : Addr → Prop) (M : MM) (w : World) (args : List Value), Tab w → Go.Ab.Good w S → args.length = ds.length → (∀ q x, ds[q]? = some x → Rel w ⟨S, [], [], M⟩ (args.getD q Go.undef) x) →
      Calls Tryz.prog f args.toArray w fun e w' => e = .returned (.string b) ∧ Go.RowKit.Below w.heap.size w w') : CallsTo Tryz.prog f ds (.str b) := by
  refine ⟨hc, fun S M w args ht hg hM hl hr => (h S M w args ht hg hl hr).mono ?_⟩
  rintro e w' ⟨rfl, hb⟩
  refine ⟨_, S, M, rfl, ⟨.of hb, fun _ h => h, fun _ h => .inl h, fun _ _ h => h, fun _ _ h => .inl h, fun b f hf => ?_⟩, hg.below hb, .str _ _⟩
  obtain ⟨es, cl, h1, h2⟩ := hM b f hf
  exact ⟨es, cl, (hb.block b (Array.getElem?_eq_some_iff.1 h1).1).trans h1, h2⟩
theorem tab_is {w : World} (h : Tab w) : Lib.TabIs Tryz.prog w "internal/strconv.uint64pow10" .u64 Lib.pow10Tab := by
  obtain ⟨t, fz, e⟩ := h 1 _ rfl
  have hg : Tryz.prog.globalNamed "internal/strconv.uint64pow10" = some 1 := by kernel_rfl
  unfold Lib.TabIs World.var?
  rw [hg]
  simp only [Option.bind_some, e]
def itoa (n : Int) : ByteArray := ⟨(Lib.itoa n).toArray⟩
theorem itoa_ok (n : Int) (h0 : -9223372036854775808 ≤ n) (h1 : n ≤ 9223372036854775807) : CallsTo Tryz.prog 72 [i64 n] (.str (itoa n)) := by
  refine callsTo_str Tryz.call72 fun S M w args ht hg hl hr => ?_
  match args, hl with
  | [a], _ =>
    have h := hr 0 _ rfl
    cases h
    refine (Tryz.strconv_Itoa n h0 h1 w (tab_is ht)).mono ?_
    rintro e w' ⟨rfl, k, os, rfl⟩
    exact ⟨rfl, rfl, rfl, rfl, by simp [Go.Sort.grow], fun i hi => by simp [Go.Sort.grow, Array.getElem?_append_left hi]⟩
theorem flat_str : ∀ xs : List ByteArray, flat (xs.map D.str) = xs.map D.str
  | [] => rfl
  | x :: xs => by show D.cells (.str x) ++ flat (xs.map D.str) = _; rw [flat_str xs]; rfl
def joinB (xs : List ByteArray) (sep : ByteArray) : ByteArray := ⟨(Lib.join (xs.map (·.data.toList)) sep.data.toList).toArray⟩
theorem join_ok (xs : List ByteArray) (sep : ByteArray) (hne : xs ≠ []) (hN : xs.length ≤ 1000) (hlen : (Lib.join (xs.map (·.data.toList)) sep.data.toList).length ≤ 140737488355328) : CallsTo Tryz.prog 117 [.list (xs.map D.str), .str sep] (.str (joinB xs sep)) := by
  refine callsTo_str Tryz.call117 fun S M w args ht hg hl hr => ?_
  match args, hl with
  | [a, b], _ =>
    have h1 := hr 0 _ rfl
    have h2 := hr 1 _ rfl
    simp only [List.getD_cons_zero, List.getD_cons_succ] at h1 h2
    cases h2
    cases h1 with
    | list _ A n c _ sz u hn hsz hcap hm hrl =>
    have hfl := flat_str xs
    rw [hfl] at hm hrl
    have hpos : 0 < xs.length := List.length_pos_iff.2 hne
    obtain ⟨ad, rfl, hc0, _⟩ := hm 0 (by simpa using hpos)
    obtain ⟨bk, o, pt⟩ := ad
    have hp : pt = none := by
      cases pt with
      | none => rfl
      | some p =>
        unfold World.cell? at hc0
        split at hc0 <;> simp [Addr.add] at hc0
    subst hp
    have hn' : n = xs.length := by rw [hn]; simp
    subst hn'
    refine Tryz.strings_Join bk o c xs sep w (fun j x hx => ?_) (World.block_lt_of_cell? w _ hc0) (by omega) hcap hlen
    have hj := (List.getElem?_eq_some_iff.1 hx).1
    obtain ⟨ad2, e2, hc, _⟩ := hm j (by simpa using hj)
    cases e2
    have hv := hrl j (.str x) (by rw [List.getElem?_map, hx]; rfl)
    generalize u j = v at hc hv
    cases hv
    rw [add_block] at hc
    exact hc
abbrev sp : ByteArray := ⟨#[32]⟩
abbrev nl : ByteArray := ⟨#[10]⟩
set_option maxRecDepth 100000 in
set_option maxHeartbeats 4000000 in
theorem line_ok (xs : List ByteArray) (hne : xs ≠ []) (hN : xs.length ≤ 1000) (hlen : (Lib.join (xs.map (·.data.toList)) sp.data.toList).length ≤ 1000000) : CallsTo Tryz.prog 73 [.list (xs.map D.str)] (.str (joinB xs sp ++ nl)) := by
  have hs : (joinB xs sp).size ≤ 1000000 := by show (Lib.join (xs.map (·.data.toList)) sp.data.toList).toArray.size ≤ _; simpa using hlen
  have hs2 : nl.size = 1 := rfl
  refine calls_abs Tryz.func73 Tryz.ntmps73 Tryz.results73 Tryz.call73 rfl (by simp) fun w0 S0 M0 => ?_
  repeat' (first | refine st1 ?_ | ((first | refine abs_region fun K hK => ?_ | refine abs_draw Tryz.ty.mixed (by kernel_rfl) fun K hK => ?_ | refine abs_if ?_ | show retQ _ _ _ _ _ | refine callK (join_ok xs sp hne hN (by omega)) ?_); (refine sim ?_; try exact trivial)) | ((first | (refine hK _ ?_; clear hK K) | show thenQ _ _ _ _ | show blockQ _ _ _ _); refine qst0 ?_) | (intro hg; try exact fin2) | apply And.intro | exact fin | fail)
  show (joinB xs sp).size + 1 ≤ _
  omega
end Go.Proofs.YtmnepfejoneghaaGreatDoor
namespace Go.Proofs.YtmnepfejoneghaaGreatDoor
open Go.Ab
attribute [local irreducible] Abs CallK CallR CallsTo IA
abbrev rse : ByteArray := ⟨#[114, 115, 101]⟩
/-- The numbers that a reading's line ends with. -/
def numsR (r : Rdg) : List Int := [r.mer, r.al, r.ah, r.dl, r.dh, r.wl, r.wh]
def wordsK (r : Rdg) (j : Nat) : List ByteArray := [itoa r.day, itoa r.min, rse.extract (r.clk - 1).toNat (r.clk - 1 + 1).toNat] ++ ((numsR r).take j).map itoa
set_option maxRecDepth 100000 in
set_option maxHeartbeats 4000000 in
theorem written_ok (r : Rdg) (hr : RdOk r) (hlen : (Lib.join ((wordsK r 7).map (·.data.toList)) sp.data.toList).length ≤ 1000000) : CallsTo Tryz.prog 28 [rdD r] (.str (joinB (wordsK r 7) sp ++ nl)) := by
  have h1 := hr.d; have h2 := hr.m; have h3 := hr.c; have h4 := hr.q; have h5 := hr.a; have h6 := hr.y; have h7 := hr.w
  have h8 : rse.size = 3 := rfl
  unfold Spn at h5 h6 h7
  refine calls_abs Tryz.func28 Tryz.ntmps28 Tryz.results28 Tryz.call28 rfl (by simp) fun w0 S0 M0 => ?_
  repeat' (first | (show Abs _ (.region 2 _ true) _ _; refine abs_drawRow 10 Tryz.ty.mixed (by kernel_rfl) fun K hK => ?_; simp only [List.length_cons, List.length_nil, List.range'_succ, List.range'_zero]; (refine withX (And.intro @Int.natCast_zero (And.intro @Int.natCast_one (And.intro @Int.cast_ofNat_Int (@Tryz.underlying9)))) fun hX => ?_; refine simh ?_; clear hX; try exact trivial)) | refine st1 ?_ | ((first | refine abs_region fun K hK => ?_ | refine abs_draw Tryz.ty.mixed (by kernel_rfl) fun K hK => ?_ | refine abs_if ?_ | show retQ _ _ _ _ _ | refine callK (itoa_ok _ (by omega) (by omega)) ?_); (refine withX (And.intro @Int.natCast_zero (And.intro @Int.natCast_one (And.intro @Int.cast_ofNat_Int (@Tryz.underlying9)))) fun hX => ?_; refine simh ?_; clear hX; try exact trivial)) | ((first | (refine hK _ ?_; clear hK K) | show thenQ _ _ _ _ | show blockQ _ _ _ _ | show noGoQ _ _ _); refine qst ?_) | (intro hg; try exact fin2) | apply And.intro | exact fin | fail)
  · show r.clk - 1 + 1 ≤ 3
    omega
  refine abs_loopN (ι := Nat) (fun j => [(4, .own 0), (41, .agg [i64 r.mer, i64 r.al, i64 r.ah, i64 r.dl, i64 r.dh, i64 r.wl, i64 r.wh]), (42, i64 j)]) (fun _ => []) (fun j => [⟨true, 9, 1, (wordsK r j).map D.str⟩])
    (fun j => j ≤ 7) (fun j => 7 - j) (fun j _ => ⟨rfl, rfl⟩) 0 (Nat.zero_le _) (le_of rfl (by try (refine withX (And.intro @Int.natCast_zero (And.intro @Int.natCast_one (And.intro @Int.cast_ofNat_Int (@Tryz.underlying9)))) fun hX => ?_; refine simh ?_; clear hX; try exact trivial); try simp) ⟨_, rfl⟩ ⟨_, rfl⟩) (fun j hj => ?_)
  have hwl : (wordsK r j).length = 3 + j := by
    have : (numsR r).length = 7 := rfl
    simp only [wordsK, List.length_append, List.length_map, List.length_take, List.length_cons, List.length_nil, this]; omega
  match j, hj with
  | 0, _ =>
    (refine withX (And.intro @Int.natCast_zero (And.intro @Int.natCast_one (And.intro @Int.cast_ofNat_Int (@Tryz.underlying9)))) fun hX => ?_; refine simh ?_; clear hX; try exact trivial)
    repeat' (first | refine st1 ?_ | ((first | refine abs_region fun K hK => ?_ | refine abs_draw Tryz.ty.mixed (by kernel_rfl) fun K hK => ?_ | refine abs_if ?_ | show retQ _ _ _ _ _ | refine callK (itoa_ok _ (by omega) (by omega)) ?_); (refine withX (And.intro @Int.natCast_zero (And.intro @Int.natCast_one (And.intro @Int.cast_ofNat_Int (@Tryz.underlying9)))) fun hX => ?_; refine simh ?_; clear hX; try exact trivial)) | ((first | (refine hK _ ?_; clear hK K) | show thenQ _ _ _ _ | show blockQ _ _ _ _ | show noGoQ _ _ _); refine qst ?_) | (intro hg; try exact fin2) | apply And.intro | exact fin | fail)
    exact ⟨1, by omega, by omega, le_of rfl (by try (refine withX (And.intro @Int.natCast_zero (And.intro @Int.natCast_one (And.intro @Int.cast_ofNat_Int (@Tryz.underlying9)))) fun hX => ?_; refine simh ?_; clear hX; try exact trivial); try simp) ⟨_, rfl⟩ ⟨[], rfl⟩⟩
  | 1, _ =>
    (refine withX (And.intro @Int.natCast_zero (And.intro @Int.natCast_one (And.intro @Int.cast_ofNat_Int (@Tryz.underlying9)))) fun hX => ?_; refine simh ?_; clear hX; try exact trivial)
    repeat' (first | refine st1 ?_ | ((first | refine abs_region fun K hK => ?_ | refine abs_draw Tryz.ty.mixed (by kernel_rfl) fun K hK => ?_ | refine abs_if ?_ | show retQ _ _ _ _ _ | refine callK (itoa_ok _ (by omega) (by omega)) ?_); (refine withX (And.intro @Int.natCast_zero (And.intro @Int.natCast_one (And.intro @Int.cast_ofNat_Int (@Tryz.underlying9)))) fun hX => ?_; refine simh ?_; clear hX; try exact trivial)) | ((first | (refine hK _ ?_; clear hK K) | show thenQ _ _ _ _ | show blockQ _ _ _ _ | show noGoQ _ _ _); refine qst ?_) | (intro hg; try exact fin2) | apply And.intro | exact fin | fail)
    exact ⟨2, by omega, by omega, le_of rfl (by try (refine withX (And.intro @Int.natCast_zero (And.intro @Int.natCast_one (And.intro @Int.cast_ofNat_Int (@Tryz.underlying9)))) fun hX => ?_; refine simh ?_; clear hX; try exact trivial); try simp) ⟨_, rfl⟩ ⟨[], rfl⟩⟩
  | 2, _ =>
    (refine withX (And.intro @Int.natCast_zero (And.intro @Int.natCast_one (And.intro @Int.cast_ofNat_Int (@Tryz.underlying9)))) fun hX => ?_; refine simh ?_; clear hX; try exact trivial)
    repeat' (first | refine st1 ?_ | ((first | refine abs_region fun K hK => ?_ | refine abs_draw Tryz.ty.mixed (by kernel_rfl) fun K hK => ?_ | refine abs_if ?_ | show retQ _ _ _ _ _ | refine callK (itoa_ok _ (by omega) (by omega)) ?_); (refine withX (And.intro @Int.natCast_zero (And.intro @Int.natCast_one (And.intro @Int.cast_ofNat_Int (@Tryz.underlying9)))) fun hX => ?_; refine simh ?_; clear hX; try exact trivial)) | ((first | (refine hK _ ?_; clear hK K) | show thenQ _ _ _ _ | show blockQ _ _ _ _ | show noGoQ _ _ _); refine qst ?_) | (intro hg; try exact fin2) | apply And.intro | exact fin | fail)
    exact ⟨3, by omega, by omega, le_of rfl (by try (refine withX (And.intro @Int.natCast_zero (And.intro @Int.natCast_one (And.intro @Int.cast_ofNat_Int (@Tryz.underlying9)))) fun hX => ?_; refine simh ?_; clear hX; try exact trivial); try simp) ⟨_, rfl⟩ ⟨[], rfl⟩⟩
  | 3, _ =>
    (refine withX (And.intro @Int.natCast_zero (And.intro @Int.natCast_one (And.intro @Int.cast_ofNat_Int (@Tryz.underlying9)))) fun hX => ?_; refine simh ?_; clear hX; try exact trivial)
    repeat' (first | refine st1 ?_ | ((first | refine abs_region fun K hK => ?_ | refine abs_draw Tryz.ty.mixed (by kernel_rfl) fun K hK => ?_ | refine abs_if ?_ | show retQ _ _ _ _ _ | refine callK (itoa_ok _ (by omega) (by omega)) ?_); (refine withX (And.intro @Int.natCast_zero (And.intro @Int.natCast_one (And.intro @Int.cast_ofNat_Int (@Tryz.underlying9)))) fun hX => ?_; refine simh ?_; clear hX; try exact trivial)) | ((first | (refine hK _ ?_; clear hK K) | show thenQ _ _ _ _ | show blockQ _ _ _ _ | show noGoQ _ _ _); refine qst ?_) | (intro hg; try exact fin2) | apply And.intro | exact fin | fail)
    exact ⟨4, by omega, by omega, le_of rfl (by try (refine withX (And.intro @Int.natCast_zero (And.intro @Int.natCast_one (And.intro @Int.cast_ofNat_Int (@Tryz.underlying9)))) fun hX => ?_; refine simh ?_; clear hX; try exact trivial); try simp) ⟨_, rfl⟩ ⟨[], rfl⟩⟩
  | 4, _ =>
    (refine withX (And.intro @Int.natCast_zero (And.intro @Int.natCast_one (And.intro @Int.cast_ofNat_Int (@Tryz.underlying9)))) fun hX => ?_; refine simh ?_; clear hX; try exact trivial)
    repeat' (first | refine st1 ?_ | ((first | refine abs_region fun K hK => ?_ | refine abs_draw Tryz.ty.mixed (by kernel_rfl) fun K hK => ?_ | refine abs_if ?_ | show retQ _ _ _ _ _ | refine callK (itoa_ok _ (by omega) (by omega)) ?_); (refine withX (And.intro @Int.natCast_zero (And.intro @Int.natCast_one (And.intro @Int.cast_ofNat_Int (@Tryz.underlying9)))) fun hX => ?_; refine simh ?_; clear hX; try exact trivial)) | ((first | (refine hK _ ?_; clear hK K) | show thenQ _ _ _ _ | show blockQ _ _ _ _ | show noGoQ _ _ _); refine qst ?_) | (intro hg; try exact fin2) | apply And.intro | exact fin | fail)
    exact ⟨5, by omega, by omega, le_of rfl (by try (refine withX (And.intro @Int.natCast_zero (And.intro @Int.natCast_one (And.intro @Int.cast_ofNat_Int (@Tryz.underlying9)))) fun hX => ?_; refine simh ?_; clear hX; try exact trivial); try simp) ⟨_, rfl⟩ ⟨[], rfl⟩⟩
  | 5, _ =>
    (refine withX (And.intro @Int.natCast_zero (And.intro @Int.natCast_one (And.intro @Int.cast_ofNat_Int (@Tryz.underlying9)))) fun hX => ?_; refine simh ?_; clear hX; try exact trivial)
    repeat' (first | refine st1 ?_ | ((first | refine abs_region fun K hK => ?_ | refine abs_draw Tryz.ty.mixed (by kernel_rfl) fun K hK => ?_ | refine abs_if ?_ | show retQ _ _ _ _ _ | refine callK (itoa_ok _ (by omega) (by omega)) ?_); (refine withX (And.intro @Int.natCast_zero (And.intro @Int.natCast_one (And.intro @Int.cast_ofNat_Int (@Tryz.underlying9)))) fun hX => ?_; refine simh ?_; clear hX; try exact trivial)) | ((first | (refine hK _ ?_; clear hK K) | show thenQ _ _ _ _ | show blockQ _ _ _ _ | show noGoQ _ _ _); refine qst ?_) | (intro hg; try exact fin2) | apply And.intro | exact fin | fail)
    exact ⟨6, by omega, by omega, le_of rfl (by try (refine withX (And.intro @Int.natCast_zero (And.intro @Int.natCast_one (And.intro @Int.cast_ofNat_Int (@Tryz.underlying9)))) fun hX => ?_; refine simh ?_; clear hX; try exact trivial); try simp) ⟨_, rfl⟩ ⟨[], rfl⟩⟩
  | 6, _ =>
    (refine withX (And.intro @Int.natCast_zero (And.intro @Int.natCast_one (And.intro @Int.cast_ofNat_Int (@Tryz.underlying9)))) fun hX => ?_; refine simh ?_; clear hX; try exact trivial)
    repeat' (first | refine st1 ?_ | ((first | refine abs_region fun K hK => ?_ | refine abs_draw Tryz.ty.mixed (by kernel_rfl) fun K hK => ?_ | refine abs_if ?_ | show retQ _ _ _ _ _ | refine callK (itoa_ok _ (by omega) (by omega)) ?_); (refine withX (And.intro @Int.natCast_zero (And.intro @Int.natCast_one (And.intro @Int.cast_ofNat_Int (@Tryz.underlying9)))) fun hX => ?_; refine simh ?_; clear hX; try exact trivial)) | ((first | (refine hK _ ?_; clear hK K) | show thenQ _ _ _ _ | show blockQ _ _ _ _ | show noGoQ _ _ _); refine qst ?_) | (intro hg; try exact fin2) | apply And.intro | exact fin | fail)
    exact ⟨7, by omega, by omega, le_of rfl (by try (refine withX (And.intro @Int.natCast_zero (And.intro @Int.natCast_one (And.intro @Int.cast_ofNat_Int (@Tryz.underlying9)))) fun hX => ?_; refine simh ?_; clear hX; try exact trivial); try simp) ⟨_, rfl⟩ ⟨[], rfl⟩⟩
  | 7, _ =>
    have hne : wordsK r 7 ≠ [] := by simp [wordsK]
    (refine withX (And.intro @Int.natCast_zero (And.intro @Int.natCast_one (And.intro @Int.cast_ofNat_Int (@Tryz.underlying9)))) fun hX => ?_; refine simh ?_; clear hX; try exact trivial)
    repeat' (first | refine st1 ?_ | ((first | refine abs_region fun K hK => ?_ | refine abs_draw Tryz.ty.mixed (by kernel_rfl) fun K hK => ?_ | refine abs_if ?_ | show retQ _ _ _ _ _ | refine callK (line_ok (wordsK r 7) hne (by omega) hlen) ?_); (refine withX (And.intro @Int.natCast_zero (And.intro @Int.natCast_one (And.intro @Int.cast_ofNat_Int (@Tryz.underlying9)))) fun hX => ?_; refine simh ?_; clear hX; try exact trivial)) | ((first | (refine hK _ ?_; clear hK K) | show thenQ _ _ _ _ | show blockQ _ _ _ _ | show noGoQ _ _ _); refine qst ?_) | (intro hg; try exact fin2) | apply And.intro | exact fin | fail)
    all_goals skip
end Go.Proofs.YtmnepfejoneghaaGreatDoor
