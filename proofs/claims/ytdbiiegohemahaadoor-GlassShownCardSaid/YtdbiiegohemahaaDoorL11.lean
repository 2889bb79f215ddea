import Derived.Test.YtdbiiegohemahaaDoorL0
import Derived.Test.YtdbiiegohemahaaDoorM0
set_option linter.unusedVariables false
set_option linter.unusedSimpArgs false
namespace Go.Proofs.YtdbiiegohemahaaDoor
open Go.Ab
attribute [local irreducible] Abs CallK CallR CallsTo IA
set_option maxRecDepth 100000 in
set_option maxHeartbeats 4000000 in
theorem only_ok (s : Stn) (i k : Nat) (hi : i < s.ck.length) (hk : k < s.ck.length) : CallsTo Tryd.prog 54 [stD s, i64 i, i64 k] (stD (onlyC s i k)) := by
  refine calls_abs Tryd.func54 Tryd.ntmps54 Tryd.results54 Tryd.call54 rfl (by simp) fun w0 S0 M0 => ?_
  repeat' (first
      | refine abs_seq ?_
      | refine abs_block ?_
      | refine abs_skip ?_
      | refine abs_scope ?_
      | refine abs_label ?_
      | refine abs_exit ?_
      | refine abs_ret ?_
      | ((first | (show Abs _ (.region 2 _ true) _ _; refine abs_drawD [(9, 20), (12, 20), (14, 20), (17, 20)] Tryd.ty.mixed (by kernel_rfl) fun K hK => ?_) | show Sep _ _ | refine abs_region fun K hK => ?_ | refine abs_draw Tryd.ty.mixed (by kernel_rfl) fun K hK => ?_ | refine abs_if ?_ | show retQ _ _ _ _ _); simp -implicitDefEqProofs only [go_sem, bas, basL, Nat.reduceAdd, Nat.reduceSub, Nat.reduceMul, Nat.reduceLT, Nat.reduceLeDiff, Nat.reduceEqDiff, Nat.reduceBEq, Int.reduceLT, Int.reduceLE, Int.reduceToNat, Int.reduceAdd, Int.reduceSub, Int.reduceMul, Int.reduceNeg, Int.reduceEq, reduceCtorEq, eq_self, ne_eq, not_false_eq_true, if_true, reduceIte])
      | ((first | (refine hK _ ?_; clear hK K) | show thenQ _ _ _ _ | show blockQ _ _ _ _ | show noGoQ _ _ _); simp only [noGoQ, thenQ, blockQ, if_true, Nat.reduceEqDiff, reduceIte])
      | (intro hg; first | (exfalso; omega) | (exfalso; contradiction) | skip)
      | apply And.intro
      | (with_reducible rfl)
      | (clear hK; omega)
      | omega)
  all_goals try rfl
  all_goals skip
set_option maxRecDepth 100000 in
set_option maxHeartbeats 4000000 in
theorem shown_law (s : Stn) (hl : s.ck.length ≤ 9223372036854775807) (i k : Int) : CallsTo Tryd.prog 18 [stD s, i64 i, i64 k] (.bool true) := by
  by_cases h16 : (s.ck.length : Int) ≤ 16
  · have h1 : CallsTo Tryd.prog 24 [stD s] (.bool true) := decide_eq_true h16 ▸ short_ok s
    by_cases hs : StOk s
    · have h2 : CallsTo Tryd.prog 42 [stD s] (.bool true) := decide_eq_true hs ▸ station_ok s hl
      have hln := hs.n
      by_cases hik : 0 ≤ i ∧ i < k ∧ k < s.ck.length
      · obtain ⟨i, rfl⟩ : ∃ n : Nat, i = n := ⟨i.toNat, by omega⟩
        obtain ⟨k, rfl⟩ : ∃ n : Nat, k = n := ⟨k.toNat, by omega⟩
        have hi : i < s.ck.length := by omega
        have hk : k < s.ck.length := by omega
        have ho := only_ok s i k hi hk
        have hso := stOk_only hs hi hk
        have z : (0 : Int) ≤ 0 ∧ (0 : Int) ≤ 400 := by decide
        rcases clash_or s with hn | ⟨a, b, hc⟩
        · have h3 : CallsTo Tryd.prog 52 [stD s] (.tup [i64 0, i64 0, i64 5]) := by
            have h := gClash_ok s hl
            unfold gcD at h; rw [if_pos hs, clashP_none hn] at h; exact h
          have g1 := gIndex0 hs hn z
          have g2 := gIndex0 hso (only_iff.2 (hn i k (by omega) hk)) z
          refine calls_abs Tryd.func18 Tryd.ntmps18 Tryd.results18 Tryd.call18 rfl (by simp) fun w0 S0 M0 => ?_
          repeat' (first
              | refine abs_seq ?_
              | refine abs_block ?_
              | refine abs_skip ?_
              | refine abs_scope ?_
              | refine abs_label ?_
              | refine abs_exit ?_
              | refine abs_ret ?_
              | ((first | refine abs_region fun K hK => ?_ | refine abs_draw Tryd.ty.mixed (by kernel_rfl) fun K hK => ?_ | refine abs_if ?_ | show retQ _ _ _ _ _ | refine callK (h1) ?_ | refine callK (h2) ?_ | refine callK (h3) ?_ | refine callK (g1) ?_ | refine callK (g2) ?_ | refine callK (ho) ?_ | refine callK (known_ok) ?_); simp -implicitDefEqProofs only [go_sem, bas, basL, Nat.reduceAdd, Nat.reduceSub, Nat.reduceMul, Nat.reduceLT, Nat.reduceLeDiff, Nat.reduceEqDiff, Nat.reduceBEq, Int.reduceLT, Int.reduceLE, Int.reduceToNat, Int.reduceAdd, Int.reduceSub, Int.reduceMul, Int.reduceNeg, Int.reduceEq, reduceCtorEq, eq_self, ne_eq, not_false_eq_true, if_true, reduceIte])
              | ((first | (refine hK _ ?_; clear hK K) | show thenQ _ _ _ _ | show blockQ _ _ _ _ | show noGoQ _ _ _); simp only [noGoQ, thenQ, blockQ, if_true, Nat.reduceEqDiff, reduceIte])
              | (intro hg; first | (exfalso; omega) | (exfalso; contradiction) | skip)
              | apply And.intro
              | (with_reducible rfl)
              | (clear hK; omega)
              | omega)
        · have h3 : CallsTo Tryd.prog 52 [stD s] (.tup [i64 a, i64 b, i64 0]) := by
            have h := gClash_ok s hl
            unfold gcD at h; rw [if_pos hs, clashP_some hc] at h; exact h
          have g1 := gIndex7 hs hc.no z
          have ha : a < s.ck.length := by have := hc.1; have := hc.2.1; omega
          have hb : b < s.ck.length := hc.2.1
          have hab := hc.1
          have ho2 := only_ok s a b ha hb
          have g3 := gIndex7 (stOk_only hs ha hb) (fun h => only_iff.1 h hc.2.2.1) z
          by_cases hcon : Con s i k
          · have g2 := gIndex7 hso (fun h => only_iff.1 h hcon) z
            have hbf : ¬ (i < a ∨ i = a ∧ k < b) := fun e => hc.2.2.2 i k (by omega) hk e hcon
            refine calls_abs Tryd.func18 Tryd.ntmps18 Tryd.results18 Tryd.call18 rfl (by simp) fun w0 S0 M0 => ?_
            repeat' (first
                | refine abs_seq ?_
                | refine abs_block ?_
                | refine abs_skip ?_
                | refine abs_scope ?_
                | refine abs_label ?_
                | refine abs_exit ?_
                | refine abs_ret ?_
                | ((first | refine abs_region fun K hK => ?_ | refine abs_draw Tryd.ty.mixed (by kernel_rfl) fun K hK => ?_ | refine abs_if ?_ | show retQ _ _ _ _ _ | refine callK (h1) ?_ | refine callK (h2) ?_ | refine callK (h3) ?_ | refine callK (g1) ?_ | refine callK (g2) ?_ | refine callK (g3) ?_ | refine callK (ho) ?_ | refine callK (ho2) ?_ | refine callK (known_ok) ?_); simp -implicitDefEqProofs only [go_sem, bas, basL, Nat.reduceAdd, Nat.reduceSub, Nat.reduceMul, Nat.reduceLT, Nat.reduceLeDiff, Nat.reduceEqDiff, Nat.reduceBEq, Int.reduceLT, Int.reduceLE, Int.reduceToNat, Int.reduceAdd, Int.reduceSub, Int.reduceMul, Int.reduceNeg, Int.reduceEq, reduceCtorEq, eq_self, ne_eq, not_false_eq_true, if_true, reduceIte])
                | ((first | (refine hK _ ?_; clear hK K) | show thenQ _ _ _ _ | show blockQ _ _ _ _ | show noGoQ _ _ _); simp only [noGoQ, thenQ, blockQ, if_true, Nat.reduceEqDiff, reduceIte])
                | (intro hg; first | (exfalso; omega) | (exfalso; contradiction) | skip)
                | apply And.intro
                | (with_reducible rfl)
                | (clear hK; omega)
                | omega)
            all_goals skip
          · have g2 := gIndex0 hso (only_iff.2 hcon) z
            refine calls_abs Tryd.func18 Tryd.ntmps18 Tryd.results18 Tryd.call18 rfl (by simp) fun w0 S0 M0 => ?_
            repeat' (first
                | refine abs_seq ?_
                | refine abs_block ?_
                | refine abs_skip ?_
                | refine abs_scope ?_
                | refine abs_label ?_
                | refine abs_exit ?_
                | refine abs_ret ?_
                | ((first | refine abs_region fun K hK => ?_ | refine abs_draw Tryd.ty.mixed (by kernel_rfl) fun K hK => ?_ | refine abs_if ?_ | show retQ _ _ _ _ _ | refine callK (h1) ?_ | refine callK (h2) ?_ | refine callK (h3) ?_ | refine callK (g1) ?_ | refine callK (g2) ?_ | refine callK (g3) ?_ | refine callK (ho) ?_ | refine callK (ho2) ?_ | refine callK (known_ok) ?_); simp -implicitDefEqProofs only [go_sem, bas, basL, Nat.reduceAdd, Nat.reduceSub, Nat.reduceMul, Nat.reduceLT, Nat.reduceLeDiff, Nat.reduceEqDiff, Nat.reduceBEq, Int.reduceLT, Int.reduceLE, Int.reduceToNat, Int.reduceAdd, Int.reduceSub, Int.reduceMul, Int.reduceNeg, Int.reduceEq, reduceCtorEq, eq_self, ne_eq, not_false_eq_true, if_true, reduceIte])
                | ((first | (refine hK _ ?_; clear hK K) | show thenQ _ _ _ _ | show blockQ _ _ _ _ | show noGoQ _ _ _); simp only [noGoQ, thenQ, blockQ, if_true, Nat.reduceEqDiff, reduceIte])
                | (intro hg; first | (exfalso; omega) | (exfalso; contradiction) | skip)
                | apply And.intro
                | (with_reducible rfl)
                | (clear hK; omega)
                | omega)
            all_goals skip
      · refine calls_abs Tryd.func18 Tryd.ntmps18 Tryd.results18 Tryd.call18 rfl (by simp) fun w0 S0 M0 => ?_
        repeat' (first
            | refine abs_seq ?_
            | refine abs_block ?_
            | refine abs_skip ?_
            | refine abs_scope ?_
            | refine abs_label ?_
            | refine abs_exit ?_
            | refine abs_ret ?_
            | ((first | refine abs_region fun K hK => ?_ | refine abs_draw Tryd.ty.mixed (by kernel_rfl) fun K hK => ?_ | refine abs_if ?_ | show retQ _ _ _ _ _ | refine callK (h1) ?_ | refine callK (h2) ?_ | refine callK (known_ok) ?_); simp -implicitDefEqProofs only [go_sem, bas, basL, Nat.reduceAdd, Nat.reduceSub, Nat.reduceMul, Nat.reduceLT, Nat.reduceLeDiff, Nat.reduceEqDiff, Nat.reduceBEq, Int.reduceLT, Int.reduceLE, Int.reduceToNat, Int.reduceAdd, Int.reduceSub, Int.reduceMul, Int.reduceNeg, Int.reduceEq, reduceCtorEq, eq_self, ne_eq, not_false_eq_true, if_true, reduceIte])
            | ((first | (refine hK _ ?_; clear hK K) | show thenQ _ _ _ _ | show blockQ _ _ _ _ | show noGoQ _ _ _); simp only [noGoQ, thenQ, blockQ, if_true, Nat.reduceEqDiff, reduceIte])
            | (intro hg; first | (exfalso; omega) | (exfalso; contradiction) | skip)
            | apply And.intro
            | (with_reducible rfl)
            | (clear hK; omega)
            | omega)
    · have h2 : CallsTo Tryd.prog 42 [stD s] (.bool false) := decide_eq_false hs ▸ station_ok s hl
      refine calls_abs Tryd.func18 Tryd.ntmps18 Tryd.results18 Tryd.call18 rfl (by simp) fun w0 S0 M0 => ?_
      repeat' (first
          | refine abs_seq ?_
          | refine abs_block ?_
          | refine abs_skip ?_
          | refine abs_scope ?_
          | refine abs_label ?_
          | refine abs_exit ?_
          | refine abs_ret ?_
          | ((first | refine abs_region fun K hK => ?_ | refine abs_draw Tryd.ty.mixed (by kernel_rfl) fun K hK => ?_ | refine abs_if ?_ | show retQ _ _ _ _ _ | refine callK (h1) ?_ | refine callK (h2) ?_ | refine callK (known_ok) ?_); simp -implicitDefEqProofs only [go_sem, bas, basL, Nat.reduceAdd, Nat.reduceSub, Nat.reduceMul, Nat.reduceLT, Nat.reduceLeDiff, Nat.reduceEqDiff, Nat.reduceBEq, Int.reduceLT, Int.reduceLE, Int.reduceToNat, Int.reduceAdd, Int.reduceSub, Int.reduceMul, Int.reduceNeg, Int.reduceEq, reduceCtorEq, eq_self, ne_eq, not_false_eq_true, if_true, reduceIte])
          | ((first | (refine hK _ ?_; clear hK K) | show thenQ _ _ _ _ | show blockQ _ _ _ _ | show noGoQ _ _ _); simp only [noGoQ, thenQ, blockQ, if_true, Nat.reduceEqDiff, reduceIte])
          | (intro hg; first | (exfalso; omega) | (exfalso; contradiction) | skip)
          | apply And.intro
          | (with_reducible rfl)
          | (clear hK; omega)
          | omega)
  · have h1 : CallsTo Tryd.prog 24 [stD s] (.bool false) := decide_eq_false h16 ▸ short_ok s
    refine calls_abs Tryd.func18 Tryd.ntmps18 Tryd.results18 Tryd.call18 rfl (by simp) fun w0 S0 M0 => ?_
    repeat' (first
        | refine abs_seq ?_
        | refine abs_block ?_
        | refine abs_skip ?_
        | refine abs_scope ?_
        | refine abs_label ?_
        | refine abs_exit ?_
        | refine abs_ret ?_
        | ((first | refine abs_region fun K hK => ?_ | refine abs_draw Tryd.ty.mixed (by kernel_rfl) fun K hK => ?_ | refine abs_if ?_ | show retQ _ _ _ _ _ | refine callK (h1) ?_ | refine callK (known_ok) ?_); simp -implicitDefEqProofs only [go_sem, bas, basL, Nat.reduceAdd, Nat.reduceSub, Nat.reduceMul, Nat.reduceLT, Nat.reduceLeDiff, Nat.reduceEqDiff, Nat.reduceBEq, Int.reduceLT, Int.reduceLE, Int.reduceToNat, Int.reduceAdd, Int.reduceSub, Int.reduceMul, Int.reduceNeg, Int.reduceEq, reduceCtorEq, eq_self, ne_eq, not_false_eq_true, if_true, reduceIte])
        | ((first | (refine hK _ ?_; clear hK K) | show thenQ _ _ _ _ | show blockQ _ _ _ _ | show noGoQ _ _ _); simp only [noGoQ, thenQ, blockQ, if_true, Nat.reduceEqDiff, reduceIte])
        | (intro hg; first | (exfalso; omega) | (exfalso; contradiction) | skip)
        | apply And.intro
        | (with_reducible rfl)
        | (clear hK; omega)
        | omega)
end Go.Proofs.YtdbiiegohemahaaDoor
