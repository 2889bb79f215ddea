import Derived.Test.YtdbiiegohemahaaDoorM0
set_option linter.unusedVariables false
set_option linter.unusedSimpArgs false
namespace Go.Proofs.YtdbiiegohemahaaDoor
open Go.Ab
attribute [local irreducible] Abs CallK CallR CallsTo IA
/-- The index day by day. -/
def trW (n : Int) (l : List Int) : Nat → Int
  | 0 => n
  | d + 1 => trW n l d + (if d < l.length then nth l d else 0)
def trL (n : Int) (l : List Int) (j : Nat) : List Int := (List.range j).map (trW n l)
theorem trL_succ (n : Int) (l : List Int) (j : Nat) : trL n l (j + 1) = trL n l j ++ [trW n l j] := by simp [trL, List.range_succ]
theorem trL_len (n : Int) (l : List Int) (j : Nat) : (trL n l j).length = j := by simp [trL]
theorem trL_nth (n : Int) (l : List Int) {i j : Nat} (h : i < j) : nth (trL n l j) i = trW n l i := by
  unfold nth trL
  rw [List.getD_eq_getElem?_getD, List.getElem?_map, List.getElem?_range h]; rfl
theorem clash5 {s : Stn} (hs : StOk s) (hn : NoClash s) : CallsTo Tryd.prog 52 [stD s] (.tup [i64 0, i64 0, i64 5]) := by
  have h := gClash_ok s (by have := hs.n; omega)
  unfold gcD at h; rw [if_pos hs, clashP_none hn] at h; exact h
/-- How far the walk has come. -/
def TrP (s : Stn) (first : Int) (steps : List Int) (j : Nat) : Prop := j ≤ 401 ∧ (∀ d, d < j → -s.dr ≤ trW first steps (d + 1) - trW first steps d ∧ trW first steps (d + 1) - trW first steps d ≤ s.dr) ∧ ∀ d, d ≤ j → -2000 ≤ trW first steps d ∧ trW first steps d ≤ 2000
theorem TrP.succ {s : Stn} {first : Int} {steps : List Int} {j : Nat} (h : TrP s first steps j) (hj : j ≤ 400) {z : Int} (e : trW first steps (j + 1) = trW first steps j + z) (h1 : -s.dr ≤ z ∧ z ≤ s.dr) (h2 : -2000 ≤ trW first steps (j + 1) ∧ trW first steps (j + 1) ≤ 2000) : TrP s first steps (j + 1) := by
  refine ⟨by omega, fun d hd => ?_, fun d hd => ?_⟩
  · rcases Nat.lt_or_eq_of_le (Nat.le_of_lt_succ hd) with h' | h'
    · exact h.2.1 d h'
    · rw [h']; omega
  · rcases Nat.lt_or_eq_of_le hd with h' | h'
    · exact h.2.2 d (by omega)
    · rw [h']; exact h2
set_option maxRecDepth 100000 in
set_option maxHeartbeats 4000000 in
theorem true_law (s : Stn) (hl : s.ck.length ≤ 9223372036854775807) (first : Int) (steps : List Int) (hk : steps.length ≤ 9223372036854775807) (day : Int) : CallsTo Tryd.prog 16 [stD s, i64 first, ints steps, i64 day] (.bool true) := by
  by_cases h16 : (s.ck.length : Int) ≤ 16
  · have h1 : CallsTo Tryd.prog 24 [stD s] (.bool true) := decide_eq_true h16 ▸ short_ok s
    by_cases hs : StOk s
    · have h2 : CallsTo Tryd.prog 42 [stD s] (.bool true) := decide_eq_true hs ▸ station_ok s hl
      have hln := hs.n
      have hdr := hs.d
      by_cases hd : 0 ≤ day ∧ day ≤ 400
      · have d1 : CallsTo Tryd.prog 20 [i64 day] (.bool true) := decide_eq_true hd ▸ day_ok day
        by_cases hpre : steps.length ≤ 400 ∧ -2000 ≤ first ∧ first ≤ 2000
        · obtain ⟨p1, p2, p3⟩ := hpre
          have hi0 : TrP s first steps 0 := ⟨by omega, fun d h => absurd h (Nat.not_lt_zero d), fun d h => by
            obtain rfl : d = 0 := by omega
            exact ⟨p2, p3⟩⟩
          refine calls_abs Tryd.func16 Tryd.ntmps16 Tryd.results16 Tryd.call16 rfl (by simp) fun w0 S0 M0 => ?_
          repeat' (first
              | refine abs_seq ?_
              | refine abs_block ?_
              | refine abs_skip ?_
              | refine abs_scope ?_
              | refine abs_label ?_
              | refine abs_exit ?_
              | refine abs_ret ?_
              | ((first | refine abs_region fun K hK => ?_ | refine abs_draw Tryd.ty.mixed (by kernel_rfl) fun K hK => ?_ | refine abs_if ?_ | show retQ _ _ _ _ _ | refine callK (h1) ?_ | refine callK (h2) ?_ | refine callK (d1) ?_); simp -implicitDefEqProofs only [go_sem, bas, basL, Nat.reduceAdd, Nat.reduceSub, Nat.reduceMul, Nat.reduceLT, Nat.reduceLeDiff, Nat.reduceEqDiff, Nat.reduceBEq, Int.reduceLT, Int.reduceLE, Int.reduceToNat, Int.reduceAdd, Int.reduceSub, Int.reduceMul, Int.reduceNeg, Int.reduceEq, reduceCtorEq, eq_self, ne_eq, not_false_eq_true, if_true, reduceIte])
              | ((first | (refine hK _ ?_; clear hK K) | show thenQ _ _ _ _ | show blockQ _ _ _ _ | show noGoQ _ _ _); simp only [noGoQ, thenQ, blockQ, if_true, Nat.reduceEqDiff, reduceIte])
              | (intro hg; first | (exfalso; omega) | (exfalso; contradiction) | skip)
              | apply And.intro
              | (with_reducible rfl)
              | (clear hK; omega)
              | omega)
          refine abs_adopt 9 3 1 rfl ?_
          refine abs_loopN (ι := Nat) (fun j => [(2, ints steps), (3, i64 day), (4, .box 0 0), (9, .own 0), (10, i64 (trW first steps j)), (11, i64 j)]) (fun _ => [.mu (stC s)]) (fun j => [⟨true, 3, 1, (trL first steps j).map (D.int .i64)⟩])
            (fun j => TrP s first steps j) (fun j => 401 - j) (fun _ _ => ⟨rfl, rfl⟩) 0 hi0 (le_of rfl (by try simp -implicitDefEqProofs only [go_sem, bas, basL, Nat.reduceAdd, Nat.reduceSub, Nat.reduceMul, Nat.reduceLT, Nat.reduceLeDiff, Nat.reduceEqDiff, Nat.reduceBEq, Int.reduceLT, Int.reduceLE, Int.reduceToNat, Int.reduceAdd, Int.reduceSub, Int.reduceMul, Int.reduceNeg, Int.reduceEq, reduceCtorEq, eq_self, ne_eq, not_false_eq_true, if_true, reduceIte]; try simp [trW, trL]) ⟨_, rfl⟩ ⟨_, rfl⟩) (fun j hj => ?_)
          have hj1 := hj.1
          have hjw := hj.2.2 j (Nat.le_refl _)
          have hlen := trL_len first steps j
          have hsucc := trL_succ first steps j
          by_cases hlt : j < steps.length
          · have e1 : trW first steps (j + 1) = trW first steps j + nth steps j := by simp only [trW]; rw [if_pos hlt]
            have hstep := fun a b => hj.succ (z := nth steps j) (by omega) e1 a b
            rw [e1] at hstep
            generalize trW first steps j = w at *
            simp -implicitDefEqProofs only [go_sem, bas, basL, Nat.reduceAdd, Nat.reduceSub, Nat.reduceMul, Nat.reduceLT, Nat.reduceLeDiff, Nat.reduceEqDiff, Nat.reduceBEq, Int.reduceLT, Int.reduceLE, Int.reduceToNat, Int.reduceAdd, Int.reduceSub, Int.reduceMul, Int.reduceNeg, Int.reduceEq, reduceCtorEq, eq_self, ne_eq, not_false_eq_true, if_true, reduceIte]
            repeat' (first
                | refine abs_seq ?_
                | refine abs_block ?_
                | refine abs_skip ?_
                | refine abs_scope ?_
                | refine abs_label ?_
                | refine abs_exit ?_
                | refine abs_ret ?_
                | ((first | refine abs_region fun K hK => ?_ | refine abs_draw Tryd.ty.mixed (by kernel_rfl) fun K hK => ?_ | refine abs_if ?_ | show retQ _ _ _ _ _ | refine callK (known_ok) ?_); simp -implicitDefEqProofs only [go_sem, bas, basL, Nat.reduceAdd, Nat.reduceSub, Nat.reduceMul, Nat.reduceLT, Nat.reduceLeDiff, Nat.reduceEqDiff, Nat.reduceBEq, Int.reduceLT, Int.reduceLE, Int.reduceToNat, Int.reduceAdd, Int.reduceSub, Int.reduceMul, Int.reduceNeg, Int.reduceEq, reduceCtorEq, eq_self, ne_eq, not_false_eq_true, if_true, reduceIte])
                | ((first | (refine hK _ ?_; clear hK K) | show thenQ _ _ _ _ | show blockQ _ _ _ _ | show noGoQ _ _ _); simp only [noGoQ, thenQ, blockQ, if_true, Nat.reduceEqDiff, reduceIte])
                | (intro hg; first | (exfalso; omega) | (exfalso; contradiction) | skip)
                | apply And.intro
                | (with_reducible rfl)
                | (clear hK; omega)
                | omega)
            exact ⟨j + 1, hstep (by omega) (by omega), by omega, le_of rfl (by try simp -implicitDefEqProofs only [go_sem, bas, basL, Nat.reduceAdd, Nat.reduceSub, Nat.reduceMul, Nat.reduceLT, Nat.reduceLeDiff, Nat.reduceEqDiff, Nat.reduceBEq, Int.reduceLT, Int.reduceLE, Int.reduceToNat, Int.reduceAdd, Int.reduceSub, Int.reduceMul, Int.reduceNeg, Int.reduceEq, reduceCtorEq, eq_self, ne_eq, not_false_eq_true, if_true, reduceIte]; try simp [e1]) ⟨_, rfl⟩ ⟨[], by simp [hsucc]⟩⟩
          · by_cases hend : j ≤ 400
            · have e1 : trW first steps (j + 1) = trW first steps j + 0 := by simp only [trW]; rw [if_neg hlt]
              have hstep := fun a b => hj.succ (z := 0) (by omega) e1 a b
              rw [e1] at hstep
              simp -implicitDefEqProofs only [go_sem, bas, basL, Nat.reduceAdd, Nat.reduceSub, Nat.reduceMul, Nat.reduceLT, Nat.reduceLeDiff, Nat.reduceEqDiff, Nat.reduceBEq, Int.reduceLT, Int.reduceLE, Int.reduceToNat, Int.reduceAdd, Int.reduceSub, Int.reduceMul, Int.reduceNeg, Int.reduceEq, reduceCtorEq, eq_self, ne_eq, not_false_eq_true, if_true, reduceIte]
              repeat' (first
                  | refine abs_seq ?_
                  | refine abs_block ?_
                  | refine abs_skip ?_
                  | refine abs_scope ?_
                  | refine abs_label ?_
                  | refine abs_exit ?_
                  | refine abs_ret ?_
                  | ((first | refine abs_region fun K hK => ?_ | refine abs_draw Tryd.ty.mixed (by kernel_rfl) fun K hK => ?_ | refine abs_if ?_ | show retQ _ _ _ _ _ | refine callK (known_ok) ?_); simp -implicitDefEqProofs only [go_sem, bas, basL, Nat.reduceAdd, Nat.reduceSub, Nat.reduceMul, Nat.reduceLT, Nat.reduceLeDiff, Nat.reduceEqDiff, Nat.reduceBEq, Int.reduceLT, Int.reduceLE, Int.reduceToNat, Int.reduceAdd, Int.reduceSub, Int.reduceMul, Int.reduceNeg, Int.reduceEq, reduceCtorEq, eq_self, ne_eq, not_false_eq_true, if_true, reduceIte])
                  | ((first | (refine hK _ ?_; clear hK K) | show thenQ _ _ _ _ | show blockQ _ _ _ _ | show noGoQ _ _ _); simp only [noGoQ, thenQ, blockQ, if_true, Nat.reduceEqDiff, reduceIte])
                  | (intro hg; first | (exfalso; omega) | (exfalso; contradiction) | skip)
                  | apply And.intro
                  | (with_reducible rfl)
                  | (clear hK; omega)
                  | omega)
              exact ⟨j + 1, hstep (by omega) (by omega), by omega, le_of rfl (by try simp -implicitDefEqProofs only [go_sem, bas, basL, Nat.reduceAdd, Nat.reduceSub, Nat.reduceMul, Nat.reduceLT, Nat.reduceLeDiff, Nat.reduceEqDiff, Nat.reduceBEq, Int.reduceLT, Int.reduceLE, Int.reduceToNat, Int.reduceAdd, Int.reduceSub, Int.reduceMul, Int.reduceNeg, Int.reduceEq, reduceCtorEq, eq_self, ne_eq, not_false_eq_true, if_true, reduceIte]; try simp [e1]) ⟨_, rfl⟩ ⟨[], by simp [hsucc]⟩⟩
            · obtain rfl : j = 401 := by omega
              have hread : ∀ d : Int, 0 ≤ d → d ≤ 400 → nth (trL first steps 401) d.toNat = trW first steps d.toNat := fun d h1 h2 => trL_nth first steps (by omega)
              simp -implicitDefEqProofs only [go_sem, bas, basL, Nat.reduceAdd, Nat.reduceSub, Nat.reduceMul, Nat.reduceLT, Nat.reduceLeDiff, Nat.reduceEqDiff, Nat.reduceBEq, Int.reduceLT, Int.reduceLE, Int.reduceToNat, Int.reduceAdd, Int.reduceSub, Int.reduceMul, Int.reduceNeg, Int.reduceEq, reduceCtorEq, eq_self, ne_eq, not_false_eq_true, if_true, reduceIte]
              repeat' (first
                  | refine abs_seq ?_
                  | refine abs_block ?_
                  | refine abs_skip ?_
                  | refine abs_scope ?_
                  | refine abs_label ?_
                  | refine abs_exit ?_
                  | refine abs_ret ?_
                  | ((first | refine abs_region fun K hK => ?_ | refine abs_draw Tryd.ty.mixed (by kernel_rfl) fun K hK => ?_ | refine abs_if ?_ | show retQ _ _ _ _ _); simp -implicitDefEqProofs only [go_sem, bas, basL, Nat.reduceAdd, Nat.reduceSub, Nat.reduceMul, Nat.reduceLT, Nat.reduceLeDiff, Nat.reduceEqDiff, Nat.reduceBEq, Int.reduceLT, Int.reduceLE, Int.reduceToNat, Int.reduceAdd, Int.reduceSub, Int.reduceMul, Int.reduceNeg, Int.reduceEq, reduceCtorEq, eq_self, ne_eq, not_false_eq_true, if_true, reduceIte])
                  | ((first | (refine hK _ ?_; clear hK K) | show thenQ _ _ _ _ | show blockQ _ _ _ _ | show noGoQ _ _ _); simp only [noGoQ, thenQ, blockQ, if_true, Nat.reduceEqDiff, reduceIte])
                  | (intro hg; first | (exfalso; omega) | (exfalso; contradiction) | skip)
                  | apply And.intro
                  | (with_reducible rfl)
                  | (clear hK; omega)
                  | omega)
              refine abs_loopN (ι := Nat) (fun k => [(3, i64 day), (4, .box 0 0), (9, .own 0), (12, i64 k)]) (fun _ => [.mu (stC s)]) (fun _ => [⟨true, 3, 1, (trL first steps 401).map (D.int .i64)⟩])
                (fun k => k ≤ s.ck.length ∧ ∀ i, i < k → (nth s.ck i).lo ≤ trW first steps (nth s.ck i).day.toNat ∧ trW first steps (nth s.ck i).day.toNat ≤ (nth s.ck i).hi) (fun k => s.ck.length - k) (fun _ _ => ⟨rfl, rfl⟩) 0 ⟨Nat.zero_le _, fun i h => absurd h (Nat.not_lt_zero i)⟩ (le_of rfl (by try simp -implicitDefEqProofs only [go_sem, bas, basL, Nat.reduceAdd, Nat.reduceSub, Nat.reduceMul, Nat.reduceLT, Nat.reduceLeDiff, Nat.reduceEqDiff, Nat.reduceBEq, Int.reduceLT, Int.reduceLE, Int.reduceToNat, Int.reduceAdd, Int.reduceSub, Int.reduceMul, Int.reduceNeg, Int.reduceEq, reduceCtorEq, eq_self, ne_eq, not_false_eq_true, if_true, reduceIte]; try simp) ⟨_, rfl⟩ ⟨_, rfl⟩) (fun k ⟨hk1, hk2⟩ => ?_)
              by_cases hkt : k < s.ck.length
              · have hc := hs.c k hkt
                have hcd := hc.1
                have e7 := hread (nth s.ck k).day hcd.1 hcd.2
                have hnext : (nth s.ck k).lo ≤ trW first steps (nth s.ck k).day.toNat ∧ trW first steps (nth s.ck k).day.toNat ≤ (nth s.ck k).hi → ∀ i, i < k + 1 → (nth s.ck i).lo ≤ trW first steps (nth s.ck i).day.toNat ∧ trW first steps (nth s.ck i).day.toNat ≤ (nth s.ck i).hi := fun h i hi => by
                  rcases Nat.lt_or_eq_of_le (Nat.le_of_lt_succ hi) with h' | h'
                  · exact hk2 i h'
                  · rw [h']; exact h
                simp -implicitDefEqProofs only [go_sem, bas, basL, Nat.reduceAdd, Nat.reduceSub, Nat.reduceMul, Nat.reduceLT, Nat.reduceLeDiff, Nat.reduceEqDiff, Nat.reduceBEq, Int.reduceLT, Int.reduceLE, Int.reduceToNat, Int.reduceAdd, Int.reduceSub, Int.reduceMul, Int.reduceNeg, Int.reduceEq, reduceCtorEq, eq_self, ne_eq, not_false_eq_true, if_true, reduceIte, e7]
                repeat' (first
                    | refine abs_seq ?_
                    | refine abs_block ?_
                    | refine abs_skip ?_
                    | refine abs_scope ?_
                    | refine abs_label ?_
                    | refine abs_exit ?_
                    | refine abs_ret ?_
                    | ((first | refine abs_region fun K hK => ?_ | refine abs_draw Tryd.ty.mixed (by kernel_rfl) fun K hK => ?_ | refine abs_if ?_ | show retQ _ _ _ _ _ | refine callK (known_ok) ?_); simp -implicitDefEqProofs only [go_sem, bas, basL, Nat.reduceAdd, Nat.reduceSub, Nat.reduceMul, Nat.reduceLT, Nat.reduceLeDiff, Nat.reduceEqDiff, Nat.reduceBEq, Int.reduceLT, Int.reduceLE, Int.reduceToNat, Int.reduceAdd, Int.reduceSub, Int.reduceMul, Int.reduceNeg, Int.reduceEq, reduceCtorEq, eq_self, ne_eq, not_false_eq_true, if_true, reduceIte, e7])
                    | ((first | (refine hK _ ?_; clear hK K) | show thenQ _ _ _ _ | show blockQ _ _ _ _ | show noGoQ _ _ _); simp only [noGoQ, thenQ, blockQ, if_true, Nat.reduceEqDiff, reduceIte])
                    | (intro hg; first | (exfalso; omega) | (exfalso; contradiction) | skip)
                    | apply And.intro
                    | (with_reducible rfl)
                    | (clear hK; omega)
                    | omega)
                exact ⟨k + 1, ⟨by omega, hnext (by omega)⟩, by omega, le_of rfl (by try simp -implicitDefEqProofs only [go_sem, bas, basL, Nat.reduceAdd, Nat.reduceSub, Nat.reduceMul, Nat.reduceLT, Nat.reduceLeDiff, Nat.reduceEqDiff, Nat.reduceBEq, Int.reduceLT, Int.reduceLE, Int.reduceToNat, Int.reduceAdd, Int.reduceSub, Int.reduceMul, Int.reduceNeg, Int.reduceEq, reduceCtorEq, eq_self, ne_eq, not_false_eq_true, if_true, reduceIte, e7]; try simp) ⟨_, rfl⟩ ⟨_, rfl⟩⟩
              · obtain rfl : k = s.ck.length := by omega
                obtain ⟨hn, hix⟩ := true_ix hs (f := trW first steps) (fun d hd => hj.2.1 d (by omega)) (fun d hd => hj.2.2 d (by omega)) hk2
                have g1 := gIndex0 hs hn hd
                have g2 := clash5 hs hn
                have e8 := hread day hd.1 hd.2
                have e9 := hix day.toNat (by omega)
                rw [show ((day.toNat : Nat) : Int) = day by omega] at e9
                simp -implicitDefEqProofs only [go_sem, bas, basL, Nat.reduceAdd, Nat.reduceSub, Nat.reduceMul, Nat.reduceLT, Nat.reduceLeDiff, Nat.reduceEqDiff, Nat.reduceBEq, Int.reduceLT, Int.reduceLE, Int.reduceToNat, Int.reduceAdd, Int.reduceSub, Int.reduceMul, Int.reduceNeg, Int.reduceEq, reduceCtorEq, eq_self, ne_eq, not_false_eq_true, if_true, reduceIte, e8]
                repeat' (first
                    | refine abs_seq ?_
                    | refine abs_block ?_
                    | refine abs_skip ?_
                    | refine abs_scope ?_
                    | refine abs_label ?_
                    | refine abs_exit ?_
                    | refine abs_ret ?_
                    | ((first | refine abs_region fun K hK => ?_ | refine abs_draw Tryd.ty.mixed (by kernel_rfl) fun K hK => ?_ | refine abs_if ?_ | show retQ _ _ _ _ _ | refine callK (g1) ?_ | refine callK (g2) ?_ | refine callK (known_ok) ?_); simp -implicitDefEqProofs only [go_sem, bas, basL, Nat.reduceAdd, Nat.reduceSub, Nat.reduceMul, Nat.reduceLT, Nat.reduceLeDiff, Nat.reduceEqDiff, Nat.reduceBEq, Int.reduceLT, Int.reduceLE, Int.reduceToNat, Int.reduceAdd, Int.reduceSub, Int.reduceMul, Int.reduceNeg, Int.reduceEq, reduceCtorEq, eq_self, ne_eq, not_false_eq_true, if_true, reduceIte, e8])
                    | ((first | (refine hK _ ?_; clear hK K) | show thenQ _ _ _ _ | show blockQ _ _ _ _ | show noGoQ _ _ _); simp only [noGoQ, thenQ, blockQ, if_true, Nat.reduceEqDiff, reduceIte])
                    | (intro hg; first | (exfalso; omega) | (exfalso; contradiction) | skip)
                    | apply And.intro
                    | (with_reducible rfl)
                    | (clear hK; omega)
                    | omega)
        · refine calls_abs Tryd.func16 Tryd.ntmps16 Tryd.results16 Tryd.call16 rfl (by simp) fun w0 S0 M0 => ?_
          repeat' (first
              | refine abs_seq ?_
              | refine abs_block ?_
              | refine abs_skip ?_
              | refine abs_scope ?_
              | refine abs_label ?_
              | refine abs_exit ?_
              | refine abs_ret ?_
              | ((first | refine abs_region fun K hK => ?_ | refine abs_draw Tryd.ty.mixed (by kernel_rfl) fun K hK => ?_ | refine abs_if ?_ | show retQ _ _ _ _ _ | refine callK (h1) ?_ | refine callK (h2) ?_ | refine callK (d1) ?_ | refine callK (known_ok) ?_); simp -implicitDefEqProofs only [go_sem, bas, basL, Nat.reduceAdd, Nat.reduceSub, Nat.reduceMul, Nat.reduceLT, Nat.reduceLeDiff, Nat.reduceEqDiff, Nat.reduceBEq, Int.reduceLT, Int.reduceLE, Int.reduceToNat, Int.reduceAdd, Int.reduceSub, Int.reduceMul, Int.reduceNeg, Int.reduceEq, reduceCtorEq, eq_self, ne_eq, not_false_eq_true, if_true, reduceIte])
              | ((first | (refine hK _ ?_; clear hK K) | show thenQ _ _ _ _ | show blockQ _ _ _ _ | show noGoQ _ _ _); simp only [noGoQ, thenQ, blockQ, if_true, Nat.reduceEqDiff, reduceIte])
              | (intro hg; first | (exfalso; omega) | (exfalso; contradiction) | skip)
              | apply And.intro
              | (with_reducible rfl)
              | (clear hK; omega)
              | omega)
      · have d1 : CallsTo Tryd.prog 20 [i64 day] (.bool false) := decide_eq_false hd ▸ day_ok day
        refine calls_abs Tryd.func16 Tryd.ntmps16 Tryd.results16 Tryd.call16 rfl (by simp) fun w0 S0 M0 => ?_
        repeat' (first
            | refine abs_seq ?_
            | refine abs_block ?_
            | refine abs_skip ?_
            | refine abs_scope ?_
            | refine abs_label ?_
            | refine abs_exit ?_
            | refine abs_ret ?_
            | ((first | refine abs_region fun K hK => ?_ | refine abs_draw Tryd.ty.mixed (by kernel_rfl) fun K hK => ?_ | refine abs_if ?_ | show retQ _ _ _ _ _ | refine callK (h1) ?_ | refine callK (h2) ?_ | refine callK (d1) ?_ | refine callK (known_ok) ?_); simp -implicitDefEqProofs only [go_sem, bas, basL, Nat.reduceAdd, Nat.reduceSub, Nat.reduceMul, Nat.reduceLT, Nat.reduceLeDiff, Nat.reduceEqDiff, Nat.reduceBEq, Int.reduceLT, Int.reduceLE, Int.reduceToNat, Int.reduceAdd, Int.reduceSub, Int.reduceMul, Int.reduceNeg, Int.reduceEq, reduceCtorEq, eq_self, ne_eq, not_false_eq_true, if_true, reduceIte])
            | ((first | (refine hK _ ?_; clear hK K) | show thenQ _ _ _ _ | show blockQ _ _ _ _ | show noGoQ _ _ _); simp only [noGoQ, thenQ, blockQ, if_true, Nat.reduceEqDiff, reduceIte])
            | (intro hg; first | (exfalso; omega) | (exfalso; contradiction) | skip)
            | apply And.intro
            | (with_reducible rfl)
            | (clear hK; omega)
            | omega)
    · have h2 : CallsTo Tryd.prog 42 [stD s] (.bool false) := decide_eq_false hs ▸ station_ok s hl
      refine calls_abs Tryd.func16 Tryd.ntmps16 Tryd.results16 Tryd.call16 rfl (by simp) fun w0 S0 M0 => ?_
      repeat' (first
          | refine abs_seq ?_
          | refine abs_block ?_
          | refine abs_skip ?_
          | refine abs_scope ?_
          | refine abs_label ?_
          | refine abs_exit ?_
          | refine abs_ret ?_
          | ((first | refine abs_region fun K hK => ?_ | refine abs_draw Tryd.ty.mixed (by kernel_rfl) fun K hK => ?_ | refine abs_if ?_ | show retQ _ _ _ _ _ | refine callK (h1) ?_ | refine callK (h2) ?_ | refine callK (known_ok) ?_); simp -implicitDefEqProofs only [go_sem, bas, basL, Nat.reduceAdd, Nat.reduceSub, Nat.reduceMul, Nat.reduceLT, Nat.reduceLeDiff, Nat.reduceEqDiff, Nat.reduceBEq, Int.reduceLT, Int.reduceLE, Int.reduceToNat, Int.reduceAdd, Int.reduceSub, Int.reduceMul, Int.reduceNeg, Int.reduceEq, reduceCtorEq, eq_self, ne_eq, not_false_eq_true, if_true, reduceIte])
          | ((first | (refine hK _ ?_; clear hK K) | show thenQ _ _ _ _ | show blockQ _ _ _ _ | show noGoQ _ _ _); simp only [noGoQ, thenQ, blockQ, if_true, Nat.reduceEqDiff, reduceIte])
          | (intro hg; first | (exfalso; omega) | (exfalso; contradiction) | skip)
          | apply And.intro
          | (with_reducible rfl)
          | (clear hK; omega)
          | omega)
  · have h1 : CallsTo Tryd.prog 24 [stD s] (.bool false) := decide_eq_false h16 ▸ short_ok s
    refine calls_abs Tryd.func16 Tryd.ntmps16 Tryd.results16 Tryd.call16 rfl (by simp) fun w0 S0 M0 => ?_
    repeat' (first
        | refine abs_seq ?_
        | refine abs_block ?_
        | refine abs_skip ?_
        | refine abs_scope ?_
        | refine abs_label ?_
        | refine abs_exit ?_
        | refine abs_ret ?_
        | ((first | refine abs_region fun K hK => ?_ | refine abs_draw Tryd.ty.mixed (by kernel_rfl) fun K hK => ?_ | refine abs_if ?_ | show retQ _ _ _ _ _ | refine callK (h1) ?_ | refine callK (known_ok) ?_); simp -implicitDefEqProofs only [go_sem, bas, basL, Nat.reduceAdd, Nat.reduceSub, Nat.reduceMul, Nat.reduceLT, Nat.reduceLeDiff, Nat.reduceEqDiff, Nat.reduceBEq, Int.reduceLT, Int.reduceLE, Int.reduceToNat, Int.reduceAdd, Int.reduceSub, Int.reduceMul, Int.reduceNeg, Int.reduceEq, reduceCtorEq, eq_self, ne_eq, not_false_eq_true, if_true, reduceIte])
        | ((first | (refine hK _ ?_; clear hK K) | show thenQ _ _ _ _ | show blockQ _ _ _ _ | show noGoQ _ _ _); simp only [noGoQ, thenQ, blockQ, if_true, Nat.reduceEqDiff, reduceIte])
        | (intro hg; first | (exfalso; omega) | (exfalso; contradiction) | skip)
        | apply And.intro
        | (with_reducible rfl)
        | (clear hK; omega)
        | omega)
end Go.Proofs.YtdbiiegohemahaaDoor
