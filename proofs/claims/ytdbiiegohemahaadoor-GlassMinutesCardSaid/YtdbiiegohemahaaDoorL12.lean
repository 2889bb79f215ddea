import Derived.Test.YtdbiiegohemahaaDoorM0
import Derived.Test.YtdbiiegohemahaaDoorB10
set_option linter.unusedVariables false
set_option linter.unusedSimpArgs false
namespace Go.Proofs.YtdbiiegohemahaaDoor
open Go.Ab
attribute [local irreducible] Abs CallK CallR CallsTo IA
set_option maxRecDepth 100000 in
set_option maxHeartbeats 4000000 in
theorem among_ok (n : Int) (L : List (Int × Int)) (hl : L.length ≤ 1000000) : CallsTo Tryd.prog 47 [i64 n, spans L] (.bool (L.any fun p => decide (p.1 ≤ n ∧ n ≤ p.2))) := by
  refine calls_abs Tryd.func47 Tryd.ntmps47 Tryd.results47 Tryd.call47 rfl (by simp) fun w0 S0 M0 => ?_
  repeat' (first
      | refine abs_seq ?_
      | refine abs_block ?_
      | refine abs_skip ?_
      | refine abs_scope ?_
      | refine abs_label ?_
      | refine abs_exit ?_
      | refine abs_ret ?_
      | ((first | refine abs_region fun K hK => ?_ | refine abs_draw Tryd.ty.mixed (by kernel_rfl) fun K hK => ?_ | refine abs_if ?_ | show retQ _ _ _ _ _); simp -implicitDefEqProofs only [go_sem, bas, basL, Nat.reduceAdd, Nat.reduceSub, Nat.reduceMul, Nat.reduceLT, Nat.reduceLeDiff, Nat.reduceEqDiff, Nat.reduceBEq, Int.reduceLT, Int.reduceLE, Int.reduceToNat, Int.reduceAdd, Int.reduceSub, Int.reduceMul, Int.reduceNeg, Int.reduceEq, reduceCtorEq, eq_self, ne_eq, not_false_eq_true, if_true, reduceIte])
      | ((first | (refine hK _ ?_; clear hK K) | show thenQ _ _ _ _ | show blockQ _ _ _ _ | show noGoQ _ _ _); simp only [noGoQ, thenQ, blockQ, if_true, Nat.reduceEqDiff, reduceIte])
      | (intro hg; first | (exfalso; omega) | (exfalso; contradiction) | skip)
      | apply And.intro
      | (with_reducible rfl)
      | (clear hK; omega)
      | omega)
  refine abs_loopN (ι := Nat) (fun j => [(0, i64 n), (1, spans L), (5, i64 j)]) (fun _ => []) (fun _ => [])
    (fun j => j ≤ L.length ∧ ∀ i, i < j → ¬ ((nth L i).1 ≤ n ∧ n ≤ (nth L i).2)) (fun j => L.length - j) (fun _ _ => ⟨rfl, rfl⟩) 0 ⟨Nat.zero_le _, fun i h => absurd h (Nat.not_lt_zero i)⟩ (le_of rfl (by try simp -implicitDefEqProofs only [go_sem, bas, basL, Nat.reduceAdd, Nat.reduceSub, Nat.reduceMul, Nat.reduceLT, Nat.reduceLeDiff, Nat.reduceEqDiff, Nat.reduceBEq, Int.reduceLT, Int.reduceLE, Int.reduceToNat, Int.reduceAdd, Int.reduceSub, Int.reduceMul, Int.reduceNeg, Int.reduceEq, reduceCtorEq, eq_self, ne_eq, not_false_eq_true, if_true, reduceIte]; try simp) ⟨_, rfl⟩ ⟨_, rfl⟩) (fun j ⟨hj, hi⟩ => ?_)
  by_cases hlt : j < L.length
  · by_cases hw : (nth L j).1 ≤ n ∧ n ≤ (nth L j).2
    · have w : CallsTo Tryd.prog 36 [i64 n, spD (nth L j).1 (nth L j).2] (.bool true) := decide_eq_true hw ▸ rwithin_ok _ _ _
      rw [any_nth.2 ⟨j, hlt, decide_eq_true hw⟩]
      simp -implicitDefEqProofs only [go_sem, bas, basL, Nat.reduceAdd, Nat.reduceSub, Nat.reduceMul, Nat.reduceLT, Nat.reduceLeDiff, Nat.reduceEqDiff, Nat.reduceBEq, Int.reduceLT, Int.reduceLE, Int.reduceToNat, Int.reduceAdd, Int.reduceSub, Int.reduceMul, Int.reduceNeg, Int.reduceEq, reduceCtorEq, eq_self, ne_eq, not_false_eq_true, if_true, reduceIte]
      repeat' (first
          | refine abs_seq ?_
          | refine abs_block ?_
          | refine abs_skip ?_
          | refine abs_scope ?_
          | refine abs_label ?_
          | refine abs_exit ?_
          | refine abs_ret ?_
          | ((first | refine abs_region fun K hK => ?_ | refine abs_draw Tryd.ty.mixed (by kernel_rfl) fun K hK => ?_ | refine abs_if ?_ | show retQ _ _ _ _ _ | refine callK (w) ?_); simp -implicitDefEqProofs only [go_sem, bas, basL, Nat.reduceAdd, Nat.reduceSub, Nat.reduceMul, Nat.reduceLT, Nat.reduceLeDiff, Nat.reduceEqDiff, Nat.reduceBEq, Int.reduceLT, Int.reduceLE, Int.reduceToNat, Int.reduceAdd, Int.reduceSub, Int.reduceMul, Int.reduceNeg, Int.reduceEq, reduceCtorEq, eq_self, ne_eq, not_false_eq_true, if_true, reduceIte])
          | ((first | (refine hK _ ?_; clear hK K) | show thenQ _ _ _ _ | show blockQ _ _ _ _ | show noGoQ _ _ _); simp only [noGoQ, thenQ, blockQ, if_true, Nat.reduceEqDiff, reduceIte])
          | (intro hg; first | (exfalso; omega) | (exfalso; contradiction) | skip)
          | apply And.intro
          | (with_reducible rfl)
          | (clear hK; omega)
          | omega)
    · have w : CallsTo Tryd.prog 36 [i64 n, spD (nth L j).1 (nth L j).2] (.bool false) := decide_eq_false hw ▸ rwithin_ok _ _ _
      simp -implicitDefEqProofs only [go_sem, bas, basL, Nat.reduceAdd, Nat.reduceSub, Nat.reduceMul, Nat.reduceLT, Nat.reduceLeDiff, Nat.reduceEqDiff, Nat.reduceBEq, Int.reduceLT, Int.reduceLE, Int.reduceToNat, Int.reduceAdd, Int.reduceSub, Int.reduceMul, Int.reduceNeg, Int.reduceEq, reduceCtorEq, eq_self, ne_eq, not_false_eq_true, if_true, reduceIte]
      repeat' (first
          | refine abs_seq ?_
          | refine abs_block ?_
          | refine abs_skip ?_
          | refine abs_scope ?_
          | refine abs_label ?_
          | refine abs_exit ?_
          | refine abs_ret ?_
          | ((first | refine abs_region fun K hK => ?_ | refine abs_draw Tryd.ty.mixed (by kernel_rfl) fun K hK => ?_ | refine abs_if ?_ | show retQ _ _ _ _ _ | refine callK (w) ?_); simp -implicitDefEqProofs only [go_sem, bas, basL, Nat.reduceAdd, Nat.reduceSub, Nat.reduceMul, Nat.reduceLT, Nat.reduceLeDiff, Nat.reduceEqDiff, Nat.reduceBEq, Int.reduceLT, Int.reduceLE, Int.reduceToNat, Int.reduceAdd, Int.reduceSub, Int.reduceMul, Int.reduceNeg, Int.reduceEq, reduceCtorEq, eq_self, ne_eq, not_false_eq_true, if_true, reduceIte])
          | ((first | (refine hK _ ?_; clear hK K) | show thenQ _ _ _ _ | show blockQ _ _ _ _ | show noGoQ _ _ _); simp only [noGoQ, thenQ, blockQ, if_true, Nat.reduceEqDiff, reduceIte])
          | (intro hg; first | (exfalso; omega) | (exfalso; contradiction) | skip)
          | apply And.intro
          | (with_reducible rfl)
          | (clear hK; omega)
          | omega)
      refine ⟨j + 1, ⟨by omega, fun i h1 => ?_⟩, by omega, le_of rfl (by try simp -implicitDefEqProofs only [go_sem, bas, basL, Nat.reduceAdd, Nat.reduceSub, Nat.reduceMul, Nat.reduceLT, Nat.reduceLeDiff, Nat.reduceEqDiff, Nat.reduceBEq, Int.reduceLT, Int.reduceLE, Int.reduceToNat, Int.reduceAdd, Int.reduceSub, Int.reduceMul, Int.reduceNeg, Int.reduceEq, reduceCtorEq, eq_self, ne_eq, not_false_eq_true, if_true, reduceIte]; try simp) ⟨_, rfl⟩ ⟨_, rfl⟩⟩
      rcases Nat.lt_or_eq_of_le (Nat.le_of_lt_succ h1) with h | h
      · exact hi i h
      · rw [h]; exact hw
  · have e : (L.any fun p => decide (p.1 ≤ n ∧ n ≤ p.2)) = false := by
      rw [Bool.eq_false_iff]
      intro h
      obtain ⟨i, h1, h2⟩ := any_nth.1 h
      exact hi i (by omega) (of_decide_eq_true h2)
    rw [e]
    simp -implicitDefEqProofs only [go_sem, bas, basL, Nat.reduceAdd, Nat.reduceSub, Nat.reduceMul, Nat.reduceLT, Nat.reduceLeDiff, Nat.reduceEqDiff, Nat.reduceBEq, Int.reduceLT, Int.reduceLE, Int.reduceToNat, Int.reduceAdd, Int.reduceSub, Int.reduceMul, Int.reduceNeg, Int.reduceEq, reduceCtorEq, eq_self, ne_eq, not_false_eq_true, if_true, reduceIte]
    repeat' (first
        | refine abs_seq ?_
        | refine abs_block ?_
        | refine abs_skip ?_
        | refine abs_scope ?_
        | refine abs_label ?_
        | refine abs_exit ?_
        | refine abs_ret ?_
        | ((first | refine abs_region fun K hK => ?_ | refine abs_draw Tryd.ty.mixed (by kernel_rfl) fun K hK => ?_ | refine abs_if ?_ | show retQ _ _ _ _ _); simp -implicitDefEqProofs only [go_sem, bas, basL, Nat.reduceAdd, Nat.reduceSub, Nat.reduceMul, Nat.reduceLT, Nat.reduceLeDiff, Nat.reduceEqDiff, Nat.reduceBEq, Int.reduceLT, Int.reduceLE, Int.reduceToNat, Int.reduceAdd, Int.reduceSub, Int.reduceMul, Int.reduceNeg, Int.reduceEq, reduceCtorEq, eq_self, ne_eq, not_false_eq_true, if_true, reduceIte])
        | ((first | (refine hK _ ?_; clear hK K) | show thenQ _ _ _ _ | show blockQ _ _ _ _ | show noGoQ _ _ _); simp only [noGoQ, thenQ, blockQ, if_true, Nat.reduceEqDiff, reduceIte])
        | (intro hg; first | (exfalso; omega) | (exfalso; contradiction) | skip)
        | apply And.intro
        | (with_reducible rfl)
        | (clear hK; omega)
        | omega)
theorem bqt : ∀ b : Bool, (b == true) = b := by decide
theorem bqf : ∀ b : Bool, (b == false) = !b := by decide
theorem beqf {a b : Bool} (h : (a == b) = false) (w : a = true ↔ b = true) : False := by
  have := Bool.eq_iff_iff.2 w
  subst this
  rw [beq_self_eq_true] at h
  exact absurd h (by decide)
theorem nth0 {α : Type} [Inhabited α] (a : α) (l : List α) : nth (a :: l) 0 = a := rfl
theorem nth1 {α : Type} [Inhabited α] (a b : α) (l : List α) : nth (a :: b :: l) 1 = b := rfl
section
variable {k : D → Prop} {a b : D} {l : List D}
theorem wm0 : wNth (a :: l) 0 k = k a := by unfold wNth; simp
theorem wm1 : wNth (a :: b :: l) 1 k = k b := by unfold wNth; simp
end
set_option maxRecDepth 100000 in
set_option maxHeartbeats 4000000 in
theorem minutes_law (s : Stn) (hl : s.ck.length ≤ 9223372036854775807) (r : Rdg) (sun : Bool) (wrong minute : Int) : CallsTo Tryd.prog 13 [stD s, rdD r, .bool sun, i64 wrong, i64 minute] (.bool true) := by
  by_cases h16 : (s.ck.length : Int) ≤ 16
  · have h1 : CallsTo Tryd.prog 24 [stD s] (.bool true) := decide_eq_true h16 ▸ short_ok s
    by_cases hs : StOk s
    · have h2 : CallsTo Tryd.prog 42 [stD s] (.bool true) := decide_eq_true hs ▸ station_ok s hl
      by_cases hr : RdOk r
      · have d1 : CallsTo Tryd.prog 31 [rdD r] (.bool true) := decide_eq_true hr ▸ reading_ok r
        have h4 := gWhen_ok s hl r
        rw [if_pos ⟨hs, hr⟩, if_pos ⟨hs, hr⟩] at h4
        have q1 := hr.d; have q2 := hr.m; have q3 := hs.e; have q4 := hs.sl
        have q5 : 0 ≤ railM r ∧ railM r ≤ 600000 := by unfold railM; omega
        have hc : r.clk = 1 ∨ r.clk = 2 ∨ r.clk = 3 := by have := hr.c; omega
        have k1 := rrail_ok r hr
        have k2 := rsun_ok s hs r hr
        obtain ⟨d, mi, c, q, al, ah, dl, dh, wl, wh⟩ := r
        simp only at hc
        rcases hc with hc | hc | hc <;> subst hc
        · rw [whenL_1 (r := ⟨d, mi, 1, q, al, ah, dl, dh, wl, wh⟩) rfl] at h4
          have am := fun n => among_ok n [(railM ⟨d, mi, 1, q, al, ah, dl, dh, wl, wh⟩ - s.sl, railM ⟨d, mi, 1, q, al, ah, dl, dh, wl, wh⟩ + s.sl)] (by simp)
          simp only [List.any_cons, List.any_nil, Bool.or_false] at am
          generalize railM ⟨d, mi, 1, q, al, ah, dl, dh, wl, wh⟩ = n at *
          cases sun
          · refine calls_abs Tryd.func13 Tryd.ntmps13 Tryd.results13 Tryd.call13 rfl (by simp) fun w0 S0 M0 => ?_
            repeat' (first
                | refine abs_seq ?_
                | refine abs_block ?_
                | refine abs_skip ?_
                | refine abs_scope ?_
                | refine abs_label ?_
                | refine abs_exit ?_
                | refine abs_ret ?_
                | ((first | refine abs_region fun K hK => ?_ | refine abs_draw Tryd.ty.mixed (by kernel_rfl) fun K hK => ?_ | refine abs_if ?_ | show retQ _ _ _ _ _ | refine callK (h1) ?_ | refine callK (h2) ?_ | refine callK (d1) ?_ | refine callK (h4) ?_ | refine callK (k1) ?_ | refine callK (k2) ?_ | refine callK (am _) ?_ | refine callK (known_ok) ?_); simp -implicitDefEqProofs only [go_sem, bas, basL, Nat.reduceAdd, Nat.reduceSub, Nat.reduceMul, Nat.reduceLT, Nat.reduceLeDiff, Nat.reduceEqDiff, Nat.reduceBEq, Int.reduceLT, Int.reduceLE, Int.reduceToNat, Int.reduceAdd, Int.reduceSub, Int.reduceMul, Int.reduceNeg, Int.reduceEq, reduceCtorEq, eq_self, ne_eq, not_false_eq_true, if_true, reduceIte, ↓wm0, ↓wm1, nth0, nth1, Tryd.underlying4, Bool.true_beq, Bool.false_beq, bqt, bqf, Bool.or_eq_true, Bool.or_eq_false_iff])
                | ((first | (refine hK _ ?_; clear hK K) | show thenQ _ _ _ _ | show blockQ _ _ _ _ | show noGoQ _ _ _); simp only [noGoQ, thenQ, blockQ, if_true, Nat.reduceEqDiff, reduceIte])
                | (intro hg; first | (exfalso; omega) | (exfalso; contradiction) | skip)
                | apply And.intro
                | (with_reducible rfl)
                | (clear hK; omega)
                | omega)
            all_goals (exfalso; first | exact beqf hg (by simp only [Bool.or_eq_true, decide_eq_true_eq]; omega) | (simp only [Bool.or_eq_true, Bool.or_eq_false_iff, decide_eq_true_eq, decide_eq_false_iff_not] at hg; omega) | skip)
          · refine calls_abs Tryd.func13 Tryd.ntmps13 Tryd.results13 Tryd.call13 rfl (by simp) fun w0 S0 M0 => ?_
            repeat' (first
                | refine abs_seq ?_
                | refine abs_block ?_
                | refine abs_skip ?_
                | refine abs_scope ?_
                | refine abs_label ?_
                | refine abs_exit ?_
                | refine abs_ret ?_
                | ((first | refine abs_region fun K hK => ?_ | refine abs_draw Tryd.ty.mixed (by kernel_rfl) fun K hK => ?_ | refine abs_if ?_ | show retQ _ _ _ _ _ | refine callK (h1) ?_ | refine callK (h2) ?_ | refine callK (d1) ?_ | refine callK (h4) ?_ | refine callK (k1) ?_ | refine callK (k2) ?_ | refine callK (am _) ?_ | refine callK (known_ok) ?_); simp -implicitDefEqProofs only [go_sem, bas, basL, Nat.reduceAdd, Nat.reduceSub, Nat.reduceMul, Nat.reduceLT, Nat.reduceLeDiff, Nat.reduceEqDiff, Nat.reduceBEq, Int.reduceLT, Int.reduceLE, Int.reduceToNat, Int.reduceAdd, Int.reduceSub, Int.reduceMul, Int.reduceNeg, Int.reduceEq, reduceCtorEq, eq_self, ne_eq, not_false_eq_true, if_true, reduceIte, ↓wm0, ↓wm1, nth0, nth1, Tryd.underlying4, Bool.true_beq, Bool.false_beq, bqt, bqf, Bool.or_eq_true, Bool.or_eq_false_iff])
                | ((first | (refine hK _ ?_; clear hK K) | show thenQ _ _ _ _ | show blockQ _ _ _ _ | show noGoQ _ _ _); simp only [noGoQ, thenQ, blockQ, if_true, Nat.reduceEqDiff, reduceIte])
                | (intro hg; first | (exfalso; omega) | (exfalso; contradiction) | skip)
                | apply And.intro
                | (with_reducible rfl)
                | (clear hK; omega)
                | omega)
            all_goals (exfalso; first | exact beqf hg (by simp only [Bool.or_eq_true, decide_eq_true_eq]; omega) | (simp only [Bool.or_eq_true, Bool.or_eq_false_iff, decide_eq_true_eq, decide_eq_false_iff_not] at hg; omega) | skip)
        · rw [whenL_2 (r := ⟨d, mi, 2, q, al, ah, dl, dh, wl, wh⟩) rfl] at h4
          have am := fun n => among_ok n [(railM ⟨d, mi, 2, q, al, ah, dl, dh, wl, wh⟩ - s.ea - s.sl, railM ⟨d, mi, 2, q, al, ah, dl, dh, wl, wh⟩ - s.ea + s.sl)] (by simp)
          simp only [List.any_cons, List.any_nil, Bool.or_false] at am
          generalize railM ⟨d, mi, 2, q, al, ah, dl, dh, wl, wh⟩ = n at *
          cases sun
          · refine calls_abs Tryd.func13 Tryd.ntmps13 Tryd.results13 Tryd.call13 rfl (by simp) fun w0 S0 M0 => ?_
            repeat' (first
                | refine abs_seq ?_
                | refine abs_block ?_
                | refine abs_skip ?_
                | refine abs_scope ?_
                | refine abs_label ?_
                | refine abs_exit ?_
                | refine abs_ret ?_
                | ((first | refine abs_region fun K hK => ?_ | refine abs_draw Tryd.ty.mixed (by kernel_rfl) fun K hK => ?_ | refine abs_if ?_ | show retQ _ _ _ _ _ | refine callK (h1) ?_ | refine callK (h2) ?_ | refine callK (d1) ?_ | refine callK (h4) ?_ | refine callK (k1) ?_ | refine callK (k2) ?_ | refine callK (am _) ?_ | refine callK (known_ok) ?_); simp -implicitDefEqProofs only [go_sem, bas, basL, Nat.reduceAdd, Nat.reduceSub, Nat.reduceMul, Nat.reduceLT, Nat.reduceLeDiff, Nat.reduceEqDiff, Nat.reduceBEq, Int.reduceLT, Int.reduceLE, Int.reduceToNat, Int.reduceAdd, Int.reduceSub, Int.reduceMul, Int.reduceNeg, Int.reduceEq, reduceCtorEq, eq_self, ne_eq, not_false_eq_true, if_true, reduceIte, ↓wm0, ↓wm1, nth0, nth1, Tryd.underlying4, Bool.true_beq, Bool.false_beq, bqt, bqf, Bool.or_eq_true, Bool.or_eq_false_iff])
                | ((first | (refine hK _ ?_; clear hK K) | show thenQ _ _ _ _ | show blockQ _ _ _ _ | show noGoQ _ _ _); simp only [noGoQ, thenQ, blockQ, if_true, Nat.reduceEqDiff, reduceIte])
                | (intro hg; first | (exfalso; omega) | (exfalso; contradiction) | skip)
                | apply And.intro
                | (with_reducible rfl)
                | (clear hK; omega)
                | omega)
            all_goals (exfalso; first | exact beqf hg (by simp only [Bool.or_eq_true, decide_eq_true_eq]; omega) | (simp only [Bool.or_eq_true, Bool.or_eq_false_iff, decide_eq_true_eq, decide_eq_false_iff_not] at hg; omega) | skip)
          · refine calls_abs Tryd.func13 Tryd.ntmps13 Tryd.results13 Tryd.call13 rfl (by simp) fun w0 S0 M0 => ?_
            repeat' (first
                | refine abs_seq ?_
                | refine abs_block ?_
                | refine abs_skip ?_
                | refine abs_scope ?_
                | refine abs_label ?_
                | refine abs_exit ?_
                | refine abs_ret ?_
                | ((first | refine abs_region fun K hK => ?_ | refine abs_draw Tryd.ty.mixed (by kernel_rfl) fun K hK => ?_ | refine abs_if ?_ | show retQ _ _ _ _ _ | refine callK (h1) ?_ | refine callK (h2) ?_ | refine callK (d1) ?_ | refine callK (h4) ?_ | refine callK (k1) ?_ | refine callK (k2) ?_ | refine callK (am _) ?_ | refine callK (known_ok) ?_); simp -implicitDefEqProofs only [go_sem, bas, basL, Nat.reduceAdd, Nat.reduceSub, Nat.reduceMul, Nat.reduceLT, Nat.reduceLeDiff, Nat.reduceEqDiff, Nat.reduceBEq, Int.reduceLT, Int.reduceLE, Int.reduceToNat, Int.reduceAdd, Int.reduceSub, Int.reduceMul, Int.reduceNeg, Int.reduceEq, reduceCtorEq, eq_self, ne_eq, not_false_eq_true, if_true, reduceIte, ↓wm0, ↓wm1, nth0, nth1, Tryd.underlying4, Bool.true_beq, Bool.false_beq, bqt, bqf, Bool.or_eq_true, Bool.or_eq_false_iff])
                | ((first | (refine hK _ ?_; clear hK K) | show thenQ _ _ _ _ | show blockQ _ _ _ _ | show noGoQ _ _ _); simp only [noGoQ, thenQ, blockQ, if_true, Nat.reduceEqDiff, reduceIte])
                | (intro hg; first | (exfalso; omega) | (exfalso; contradiction) | skip)
                | apply And.intro
                | (with_reducible rfl)
                | (clear hK; omega)
                | omega)
            all_goals (exfalso; first | exact beqf hg (by simp only [Bool.or_eq_true, decide_eq_true_eq]; omega) | (simp only [Bool.or_eq_true, Bool.or_eq_false_iff, decide_eq_true_eq, decide_eq_false_iff_not] at hg; omega) | skip)
        · by_cases hx : max (railM ⟨d, mi, 3, q, al, ah, dl, dh, wl, wh⟩) (railM ⟨d, mi, 3, q, al, ah, dl, dh, wl, wh⟩ - s.ea) - s.sl ≤ min (railM ⟨d, mi, 3, q, al, ah, dl, dh, wl, wh⟩) (railM ⟨d, mi, 3, q, al, ah, dl, dh, wl, wh⟩ - s.ea) + s.sl + 1
          · rw [whenL_x (r := ⟨d, mi, 3, q, al, ah, dl, dh, wl, wh⟩) rfl hx] at h4
            have am := fun n => among_ok n [(min (railM ⟨d, mi, 3, q, al, ah, dl, dh, wl, wh⟩) (railM ⟨d, mi, 3, q, al, ah, dl, dh, wl, wh⟩ - s.ea) - s.sl, max (railM ⟨d, mi, 3, q, al, ah, dl, dh, wl, wh⟩) (railM ⟨d, mi, 3, q, al, ah, dl, dh, wl, wh⟩ - s.ea) + s.sl)] (by simp)
            simp only [List.any_cons, List.any_nil, Bool.or_false] at am
            generalize railM ⟨d, mi, 3, q, al, ah, dl, dh, wl, wh⟩ = n at *
            cases sun
            · refine calls_abs Tryd.func13 Tryd.ntmps13 Tryd.results13 Tryd.call13 rfl (by simp) fun w0 S0 M0 => ?_
              repeat' (first
                  | refine abs_seq ?_
                  | refine abs_block ?_
                  | refine abs_skip ?_
                  | refine abs_scope ?_
                  | refine abs_label ?_
                  | refine abs_exit ?_
                  | refine abs_ret ?_
                  | ((first | refine abs_region fun K hK => ?_ | refine abs_draw Tryd.ty.mixed (by kernel_rfl) fun K hK => ?_ | refine abs_if ?_ | show retQ _ _ _ _ _ | refine callK (h1) ?_ | refine callK (h2) ?_ | refine callK (d1) ?_ | refine callK (h4) ?_ | refine callK (k1) ?_ | refine callK (k2) ?_ | refine callK (am _) ?_ | refine callK (known_ok) ?_); simp -implicitDefEqProofs only [go_sem, bas, basL, Nat.reduceAdd, Nat.reduceSub, Nat.reduceMul, Nat.reduceLT, Nat.reduceLeDiff, Nat.reduceEqDiff, Nat.reduceBEq, Int.reduceLT, Int.reduceLE, Int.reduceToNat, Int.reduceAdd, Int.reduceSub, Int.reduceMul, Int.reduceNeg, Int.reduceEq, reduceCtorEq, eq_self, ne_eq, not_false_eq_true, if_true, reduceIte, ↓wm0, ↓wm1, nth0, nth1, Tryd.underlying4, Bool.true_beq, Bool.false_beq, bqt, bqf, Bool.or_eq_true, Bool.or_eq_false_iff])
                  | ((first | (refine hK _ ?_; clear hK K) | show thenQ _ _ _ _ | show blockQ _ _ _ _ | show noGoQ _ _ _); simp only [noGoQ, thenQ, blockQ, if_true, Nat.reduceEqDiff, reduceIte])
                  | (intro hg; first | (exfalso; omega) | (exfalso; contradiction) | skip)
                  | apply And.intro
                  | (with_reducible rfl)
                  | (clear hK; omega)
                  | omega)
              all_goals (exfalso; first | exact beqf hg (by simp only [Bool.or_eq_true, decide_eq_true_eq]; omega) | (simp only [Bool.or_eq_true, Bool.or_eq_false_iff, decide_eq_true_eq, decide_eq_false_iff_not] at hg; omega) | skip)
            · refine calls_abs Tryd.func13 Tryd.ntmps13 Tryd.results13 Tryd.call13 rfl (by simp) fun w0 S0 M0 => ?_
              repeat' (first
                  | refine abs_seq ?_
                  | refine abs_block ?_
                  | refine abs_skip ?_
                  | refine abs_scope ?_
                  | refine abs_label ?_
                  | refine abs_exit ?_
                  | refine abs_ret ?_
                  | ((first | refine abs_region fun K hK => ?_ | refine abs_draw Tryd.ty.mixed (by kernel_rfl) fun K hK => ?_ | refine abs_if ?_ | show retQ _ _ _ _ _ | refine callK (h1) ?_ | refine callK (h2) ?_ | refine callK (d1) ?_ | refine callK (h4) ?_ | refine callK (k1) ?_ | refine callK (k2) ?_ | refine callK (am _) ?_ | refine callK (known_ok) ?_); simp -implicitDefEqProofs only [go_sem, bas, basL, Nat.reduceAdd, Nat.reduceSub, Nat.reduceMul, Nat.reduceLT, Nat.reduceLeDiff, Nat.reduceEqDiff, Nat.reduceBEq, Int.reduceLT, Int.reduceLE, Int.reduceToNat, Int.reduceAdd, Int.reduceSub, Int.reduceMul, Int.reduceNeg, Int.reduceEq, reduceCtorEq, eq_self, ne_eq, not_false_eq_true, if_true, reduceIte, ↓wm0, ↓wm1, nth0, nth1, Tryd.underlying4, Bool.true_beq, Bool.false_beq, bqt, bqf, Bool.or_eq_true, Bool.or_eq_false_iff])
                  | ((first | (refine hK _ ?_; clear hK K) | show thenQ _ _ _ _ | show blockQ _ _ _ _ | show noGoQ _ _ _); simp only [noGoQ, thenQ, blockQ, if_true, Nat.reduceEqDiff, reduceIte])
                  | (intro hg; first | (exfalso; omega) | (exfalso; contradiction) | skip)
                  | apply And.intro
                  | (with_reducible rfl)
                  | (clear hK; omega)
                  | omega)
              all_goals (exfalso; first | exact beqf hg (by simp only [Bool.or_eq_true, decide_eq_true_eq]; omega) | (simp only [Bool.or_eq_true, Bool.or_eq_false_iff, decide_eq_true_eq, decide_eq_false_iff_not] at hg; omega) | skip)
          · rw [whenL_y (r := ⟨d, mi, 3, q, al, ah, dl, dh, wl, wh⟩) rfl hx] at h4
            have am := fun n => among_ok n [(min (railM ⟨d, mi, 3, q, al, ah, dl, dh, wl, wh⟩) (railM ⟨d, mi, 3, q, al, ah, dl, dh, wl, wh⟩ - s.ea) - s.sl, min (railM ⟨d, mi, 3, q, al, ah, dl, dh, wl, wh⟩) (railM ⟨d, mi, 3, q, al, ah, dl, dh, wl, wh⟩ - s.ea) + s.sl), (max (railM ⟨d, mi, 3, q, al, ah, dl, dh, wl, wh⟩) (railM ⟨d, mi, 3, q, al, ah, dl, dh, wl, wh⟩ - s.ea) - s.sl, max (railM ⟨d, mi, 3, q, al, ah, dl, dh, wl, wh⟩) (railM ⟨d, mi, 3, q, al, ah, dl, dh, wl, wh⟩ - s.ea) + s.sl)] (by simp)
            simp only [List.any_cons, List.any_nil, Bool.or_false] at am
            generalize railM ⟨d, mi, 3, q, al, ah, dl, dh, wl, wh⟩ = n at *
            cases sun
            · refine calls_abs Tryd.func13 Tryd.ntmps13 Tryd.results13 Tryd.call13 rfl (by simp) fun w0 S0 M0 => ?_
              repeat' (first
                  | refine abs_seq ?_
                  | refine abs_block ?_
                  | refine abs_skip ?_
                  | refine abs_scope ?_
                  | refine abs_label ?_
                  | refine abs_exit ?_
                  | refine abs_ret ?_
                  | ((first | refine abs_region fun K hK => ?_ | refine abs_draw Tryd.ty.mixed (by kernel_rfl) fun K hK => ?_ | refine abs_if ?_ | show retQ _ _ _ _ _ | refine callK (h1) ?_ | refine callK (h2) ?_ | refine callK (d1) ?_ | refine callK (h4) ?_ | refine callK (k1) ?_ | refine callK (k2) ?_ | refine callK (am _) ?_ | refine callK (known_ok) ?_); simp -implicitDefEqProofs only [go_sem, bas, basL, Nat.reduceAdd, Nat.reduceSub, Nat.reduceMul, Nat.reduceLT, Nat.reduceLeDiff, Nat.reduceEqDiff, Nat.reduceBEq, Int.reduceLT, Int.reduceLE, Int.reduceToNat, Int.reduceAdd, Int.reduceSub, Int.reduceMul, Int.reduceNeg, Int.reduceEq, reduceCtorEq, eq_self, ne_eq, not_false_eq_true, if_true, reduceIte, ↓wm0, ↓wm1, nth0, nth1, Tryd.underlying4, Bool.true_beq, Bool.false_beq, bqt, bqf, Bool.or_eq_true, Bool.or_eq_false_iff])
                  | ((first | (refine hK _ ?_; clear hK K) | show thenQ _ _ _ _ | show blockQ _ _ _ _ | show noGoQ _ _ _); simp only [noGoQ, thenQ, blockQ, if_true, Nat.reduceEqDiff, reduceIte])
                  | (intro hg; first | (exfalso; omega) | (exfalso; contradiction) | skip)
                  | apply And.intro
                  | (with_reducible rfl)
                  | (clear hK; omega)
                  | omega)
              all_goals (exfalso; first | exact beqf hg (by simp only [Bool.or_eq_true, decide_eq_true_eq]; omega) | (simp only [Bool.or_eq_true, Bool.or_eq_false_iff, decide_eq_true_eq, decide_eq_false_iff_not] at hg; omega) | skip)
            · refine calls_abs Tryd.func13 Tryd.ntmps13 Tryd.results13 Tryd.call13 rfl (by simp) fun w0 S0 M0 => ?_
              repeat' (first
                  | refine abs_seq ?_
                  | refine abs_block ?_
                  | refine abs_skip ?_
                  | refine abs_scope ?_
                  | refine abs_label ?_
                  | refine abs_exit ?_
                  | refine abs_ret ?_
                  | ((first | refine abs_region fun K hK => ?_ | refine abs_draw Tryd.ty.mixed (by kernel_rfl) fun K hK => ?_ | refine abs_if ?_ | show retQ _ _ _ _ _ | refine callK (h1) ?_ | refine callK (h2) ?_ | refine callK (d1) ?_ | refine callK (h4) ?_ | refine callK (k1) ?_ | refine callK (k2) ?_ | refine callK (am _) ?_ | refine callK (known_ok) ?_); simp -implicitDefEqProofs only [go_sem, bas, basL, Nat.reduceAdd, Nat.reduceSub, Nat.reduceMul, Nat.reduceLT, Nat.reduceLeDiff, Nat.reduceEqDiff, Nat.reduceBEq, Int.reduceLT, Int.reduceLE, Int.reduceToNat, Int.reduceAdd, Int.reduceSub, Int.reduceMul, Int.reduceNeg, Int.reduceEq, reduceCtorEq, eq_self, ne_eq, not_false_eq_true, if_true, reduceIte, ↓wm0, ↓wm1, nth0, nth1, Tryd.underlying4, Bool.true_beq, Bool.false_beq, bqt, bqf, Bool.or_eq_true, Bool.or_eq_false_iff])
                  | ((first | (refine hK _ ?_; clear hK K) | show thenQ _ _ _ _ | show blockQ _ _ _ _ | show noGoQ _ _ _); simp only [noGoQ, thenQ, blockQ, if_true, Nat.reduceEqDiff, reduceIte])
                  | (intro hg; first | (exfalso; omega) | (exfalso; contradiction) | skip)
                  | apply And.intro
                  | (with_reducible rfl)
                  | (clear hK; omega)
                  | omega)
              all_goals (exfalso; first | exact beqf hg (by simp only [Bool.or_eq_true, decide_eq_true_eq]; omega) | (simp only [Bool.or_eq_true, Bool.or_eq_false_iff, decide_eq_true_eq, decide_eq_false_iff_not] at hg; omega) | skip)
      · have d1 : CallsTo Tryd.prog 31 [rdD r] (.bool false) := decide_eq_false hr ▸ reading_ok r
        refine calls_abs Tryd.func13 Tryd.ntmps13 Tryd.results13 Tryd.call13 rfl (by simp) fun w0 S0 M0 => ?_
        repeat' (first
            | refine abs_seq ?_
            | refine abs_block ?_
            | refine abs_skip ?_
            | refine abs_scope ?_
            | refine abs_label ?_
            | refine abs_exit ?_
            | refine abs_ret ?_
            | ((first | refine abs_region fun K hK => ?_ | refine abs_draw Tryd.ty.mixed (by kernel_rfl) fun K hK => ?_ | refine abs_if ?_ | show retQ _ _ _ _ _ | refine callK (h1) ?_ | refine callK (h2) ?_ | refine callK (d1) ?_ | refine callK (known_ok) ?_); simp -implicitDefEqProofs only [go_sem, bas, basL, Nat.reduceAdd, Nat.reduceSub, Nat.reduceMul, Nat.reduceLT, Nat.reduceLeDiff, Nat.reduceEqDiff, Nat.reduceBEq, Int.reduceLT, Int.reduceLE, Int.reduceToNat, Int.reduceAdd, Int.reduceSub, Int.reduceMul, Int.reduceNeg, Int.reduceEq, reduceCtorEq, eq_self, ne_eq, not_false_eq_true, if_true, reduceIte, ↓wm0, ↓wm1, nth0, nth1, Tryd.underlying4, Bool.true_beq, Bool.false_beq, bqt, bqf, Bool.or_eq_true, Bool.or_eq_false_iff])
            | ((first | (refine hK _ ?_; clear hK K) | show thenQ _ _ _ _ | show blockQ _ _ _ _ | show noGoQ _ _ _); simp only [noGoQ, thenQ, blockQ, if_true, Nat.reduceEqDiff, reduceIte])
            | (intro hg; first | (exfalso; omega) | (exfalso; contradiction) | skip)
            | apply And.intro
            | (with_reducible rfl)
            | (clear hK; omega)
            | omega)
    · have h2 : CallsTo Tryd.prog 42 [stD s] (.bool false) := decide_eq_false hs ▸ station_ok s hl
      refine calls_abs Tryd.func13 Tryd.ntmps13 Tryd.results13 Tryd.call13 rfl (by simp) fun w0 S0 M0 => ?_
      repeat' (first
          | refine abs_seq ?_
          | refine abs_block ?_
          | refine abs_skip ?_
          | refine abs_scope ?_
          | refine abs_label ?_
          | refine abs_exit ?_
          | refine abs_ret ?_
          | ((first | refine abs_region fun K hK => ?_ | refine abs_draw Tryd.ty.mixed (by kernel_rfl) fun K hK => ?_ | refine abs_if ?_ | show retQ _ _ _ _ _ | refine callK (h1) ?_ | refine callK (h2) ?_ | refine callK (known_ok) ?_); simp -implicitDefEqProofs only [go_sem, bas, basL, Nat.reduceAdd, Nat.reduceSub, Nat.reduceMul, Nat.reduceLT, Nat.reduceLeDiff, Nat.reduceEqDiff, Nat.reduceBEq, Int.reduceLT, Int.reduceLE, Int.reduceToNat, Int.reduceAdd, Int.reduceSub, Int.reduceMul, Int.reduceNeg, Int.reduceEq, reduceCtorEq, eq_self, ne_eq, not_false_eq_true, if_true, reduceIte, ↓wm0, ↓wm1, nth0, nth1, Tryd.underlying4, Bool.true_beq, Bool.false_beq, bqt, bqf, Bool.or_eq_true, Bool.or_eq_false_iff])
          | ((first | (refine hK _ ?_; clear hK K) | show thenQ _ _ _ _ | show blockQ _ _ _ _ | show noGoQ _ _ _); simp only [noGoQ, thenQ, blockQ, if_true, Nat.reduceEqDiff, reduceIte])
          | (intro hg; first | (exfalso; omega) | (exfalso; contradiction) | skip)
          | apply And.intro
          | (with_reducible rfl)
          | (clear hK; omega)
          | omega)
  · have h1 : CallsTo Tryd.prog 24 [stD s] (.bool false) := decide_eq_false h16 ▸ short_ok s
    refine calls_abs Tryd.func13 Tryd.ntmps13 Tryd.results13 Tryd.call13 rfl (by simp) fun w0 S0 M0 => ?_
    repeat' (first
        | refine abs_seq ?_
        | refine abs_block ?_
        | refine abs_skip ?_
        | refine abs_scope ?_
        | refine abs_label ?_
        | refine abs_exit ?_
        | refine abs_ret ?_
        | ((first | refine abs_region fun K hK => ?_ | refine abs_draw Tryd.ty.mixed (by kernel_rfl) fun K hK => ?_ | refine abs_if ?_ | show retQ _ _ _ _ _ | refine callK (h1) ?_ | refine callK (known_ok) ?_); simp -implicitDefEqProofs only [go_sem, bas, basL, Nat.reduceAdd, Nat.reduceSub, Nat.reduceMul, Nat.reduceLT, Nat.reduceLeDiff, Nat.reduceEqDiff, Nat.reduceBEq, Int.reduceLT, Int.reduceLE, Int.reduceToNat, Int.reduceAdd, Int.reduceSub, Int.reduceMul, Int.reduceNeg, Int.reduceEq, reduceCtorEq, eq_self, ne_eq, not_false_eq_true, if_true, reduceIte, ↓wm0, ↓wm1, nth0, nth1, Tryd.underlying4, Bool.true_beq, Bool.false_beq, bqt, bqf, Bool.or_eq_true, Bool.or_eq_false_iff])
        | ((first | (refine hK _ ?_; clear hK K) | show thenQ _ _ _ _ | show blockQ _ _ _ _ | show noGoQ _ _ _); simp only [noGoQ, thenQ, blockQ, if_true, Nat.reduceEqDiff, reduceIte])
        | (intro hg; first | (exfalso; omega) | (exfalso; contradiction) | skip)
        | apply And.intro
        | (with_reducible rfl)
        | (clear hK; omega)
        | omega)
end Go.Proofs.YtdbiiegohemahaaDoor
