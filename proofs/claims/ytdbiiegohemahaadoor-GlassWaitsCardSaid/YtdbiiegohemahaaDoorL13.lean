import Derived.Test.YtdbiiegohemahaaDoorM0
set_option linter.unusedVariables false
set_option linter.unusedSimpArgs false
namespace Go.Proofs.YtdbiiegohemahaaDoor
open Go.Ab
attribute [local irreducible] Abs CallK CallR CallsTo IA
theorem lapp_cons {α : Type} (a : α) (l l' : List α) : List.append (a :: l) l' = a :: List.append l l' := rfl
theorem lapp_nil {α : Type} (l' : List α) : List.append [] l' = l' := rfl
/-- Where a comparison is found, its bounds no further apart than before: no day up to then is due. -/
theorem due_later {s : Stn} (hs : StOk s) {f w d low : Int} (hl : ixL s d ≤ low) (hh : low + w ≤ ixH s d) (hmin : ∀ e, f ≤ e → e < d → ixH s e - ixL s e ≤ w) {n : Int} (h1 : f ≤ n)
    (hw : w < ixH (addC s ⟨d, low, low + w⟩) n - ixL (addC s ⟨d, low, low + w⟩) n) : d < n := by
  rw [ixL_add, ixH_add] at hw
  simp only at hw
  rcases Int.lt_trichotomy n d with h | h | h
  · have := hmin n h1 h; omega
  · subst h; rw [far_self, Int.mul_zero] at hw; omega
  · exact h
theorem stD_add (s : Stn) (d a b : Int) : stD (addC s ⟨d, a, b⟩) = .agg [i64 s.hl, i64 s.hh, i64 s.gl, i64 s.gh, i64 s.dr, i64 s.rd, i64 s.ea, i64 s.sl, .list (s.ck.map ckD ++ [.agg [i64 d, i64 a, i64 b]])] := by
  unfold addC
  simp only [stD, List.map_append, List.map_cons, List.map_nil, ckD]
set_option maxRecDepth 100000 in
set_option maxHeartbeats 4000000 in
theorem waits_law (s : Stn) (hl : s.ck.length ≤ 9223372036854775807) (f w day p : Int) : CallsTo Tryd.prog 5 [stD s, i64 f, i64 w, i64 day, i64 p] (.bool true) := by
  by_cases hag : StOk s ∧ NoClash s
  · have hs := hag.1
    have hn := hag.2
    have h1 := agr1 hs hn
    have hln := hs.n
    by_cases hf : 0 ≤ f ∧ f ≤ 400
    · have d1 : CallsTo Tryd.prog 20 [i64 f] (.bool true) := decide_eq_true hf ▸ day_ok f
      by_cases hw : 0 ≤ w ∧ w ≤ 4000
      · have d2 : CallsTo Tryd.prog 27 [i64 w] (.bool true) := decide_eq_true hw ▸ width_ok w
        by_cases hd : 0 ≤ day ∧ day ≤ 400
        · have d3 : CallsTo Tryd.prog 20 [i64 day] (.bool true) := decide_eq_true hd ▸ day_ok day
          by_cases hrest : s.ck.length < 12 ∧ f ≤ day ∧ 0 ≤ p ∧ p ≤ 100
          · obtain ⟨hlt, hfd, hp⟩ := hrest
            have g1 := gIndex0 hs hn hd
            have b1 := ixL_bd hs hd; have b2 := ixH_bd hs hd
            have l1 := ix_le hs hn day
            have s1 : CallsTo Tryd.prog 23 [spD (ixL s day) (ixH s day), i64 (-2000), i64 2000] (.bool true) := decide_eq_true (show Spn (ixL s day) (ixH s day) (-2000) 2000 from ⟨by omega, by omega, by omega⟩) ▸ span_ok _ _ _ _
            have h4 := gDue_ok s hl f w
            unfold dueD at h4
            rw [errN_ok ⟨hs, hf, hw⟩ hn, if_pos rfl] at h4
            rcases dueI_cases s f w hf with ⟨hd0, hno⟩ | ⟨q1, q2, q3, q4⟩
            · have hwd := hno day hfd hd.2
              rw [if_pos (by omega)] at h4
              refine calls_abs Tryd.func5 Tryd.ntmps5 Tryd.results5 Tryd.call5 rfl (by simp) fun w0 S0 M0 => ?_
              repeat' (first
                  | refine abs_seq ?_
                  | refine abs_block ?_
                  | refine abs_skip ?_
                  | refine abs_scope ?_
                  | refine abs_label ?_
                  | refine abs_exit ?_
                  | refine abs_ret ?_
                  | ((first | refine abs_region fun K hK => ?_ | refine abs_draw Tryd.ty.mixed (by kernel_rfl) fun K hK => ?_ | refine abs_if ?_ | show retQ _ _ _ _ _ | refine callK (h1) ?_ | refine callK (d1) ?_ | refine callK (d2) ?_ | refine callK (d3) ?_ | refine callK (g1) ?_ | refine callK (s1) ?_ | refine callK (h4) ?_ | refine callK (known_ok) ?_); simp -implicitDefEqProofs only [go_sem, bas, basL, Nat.reduceAdd, Nat.reduceSub, Nat.reduceMul, Nat.reduceLT, Nat.reduceLeDiff, Nat.reduceEqDiff, Nat.reduceBEq, Int.reduceLT, Int.reduceLE, Int.reduceToNat, Int.reduceAdd, Int.reduceSub, Int.reduceMul, Int.reduceNeg, Int.reduceEq, reduceCtorEq, eq_self, ne_eq, not_false_eq_true, if_true, reduceIte, lapp_cons, lapp_nil])
                  | ((first | (refine hK _ ?_; clear hK K) | show thenQ _ _ _ _ | show blockQ _ _ _ _ | show noGoQ _ _ _); simp only [noGoQ, thenQ, blockQ, if_true, Nat.reduceEqDiff, reduceIte])
                  | (intro hg; first | (exfalso; omega) | (exfalso; contradiction) | skip)
                  | apply And.intro
                  | (with_reducible rfl)
                  | (clear hK; omega)
                  | omega)
            · rw [if_neg (by omega)] at h4
              generalize dueI s f w = d at *
              have hdd : 0 ≤ d ∧ d ≤ 400 := by omega
              have d4 : CallsTo Tryd.prog 20 [i64 d] (.bool true) := decide_eq_true hdd ▸ day_ok d
              have g2 := gIndex0 hs hn hdd
              have b3 := ixL_bd hs hdd; have b4 := ixH_bd hs hdd
              have s2 : CallsTo Tryd.prog 23 [spD (ixL s d) (ixH s d), i64 (-2000), i64 2000] (.bool true) := decide_eq_true (show Spn (ixL s d) (ixH s d) (-2000) 2000 from ⟨by omega, by omega, by omega⟩) ▸ span_ok _ _ _ _
              have hx := fun h => q4 day hfd h
              have m1 := mul_bd (A := 4000) (B := 100) (a := ixH s d - ixL s d - w) (b := p) (by omega) (by omega) hp.1 hp.2
              have e1 := Int.tdiv_eq_ediv_of_nonneg (b := 100) m1.1
              have m2 : (ixH s d - ixL s d - w) * p / 100 ≤ ixH s d - ixL s d - w := Int.ediv_le_of_le_mul (by decide) (Int.mul_le_mul_of_nonneg_left hp.2 (by omega))
              have m3 : 0 ≤ (ixH s d - ixL s d - w) * p / 100 := Int.ediv_nonneg m1.1 (by decide)
              obtain ⟨low, hlow⟩ : ∃ low, low = ixL s d + (ixH s d - ixL s d - w) * p / 100 := ⟨_, rfl⟩
              have hck : CkOk ⟨d, low, low + w⟩ := ⟨hdd, by unfold Spn; simp only; omega⟩
              have hs2 := stOk_add (c := ⟨d, low, low + w⟩) hs hck hlt
              have hn2 := noClash_add (c := ⟨d, low, low + w⟩) hs hn (by simp only; omega) (by simp only; omega) (by simp only; omega)
              have h5 := gDue_ok (addC s ⟨d, low, low + w⟩) (by have := hs2.n; omega) f w
              unfold dueD at h5
              rw [errN_ok ⟨hs2, hf, hw⟩ hn2, if_pos rfl] at h5
              have hlater := fun (n : Int) (a : f ≤ n) => due_later (n := n) hs (w := w) (low := low) (d := d) (f := f) (by omega) (by omega) q4 a
              have e2 : ixL s d + (ixH s d - ixL s d - w) * p / 100 = low := hlow.symm
              rcases dueI_cases (addC s ⟨d, low, low + w⟩) f w hf with ⟨z0, _⟩ | ⟨z1, z2, z3, _⟩
              · rw [if_pos (by omega)] at h5
                rw [stD_add] at h5
                clear hlow hlater
                refine calls_abs Tryd.func5 Tryd.ntmps5 Tryd.results5 Tryd.call5 rfl (by simp) fun w0 S0 M0 => ?_
                repeat' (first
                    | refine abs_seq ?_
                    | refine abs_block ?_
                    | refine abs_skip ?_
                    | refine abs_scope ?_
                    | refine abs_label ?_
                    | refine abs_exit ?_
                    | refine abs_ret ?_
                    | ((first | refine abs_region fun K hK => ?_ | refine abs_draw Tryd.ty.mixed (by kernel_rfl) fun K hK => ?_ | refine abs_if ?_ | show retQ _ _ _ _ _ | refine callK (h1) ?_ | refine callK (d1) ?_ | refine callK (d2) ?_ | refine callK (d3) ?_ | refine callK (d4) ?_ | refine callK (g1) ?_ | refine callK (g2) ?_ | refine callK (s1) ?_ | refine callK (s2) ?_ | refine callK (sp_ok _ _) ?_ | refine callK (h4) ?_ | refine callK (h5) ?_ | refine callK (known_ok) ?_); simp -implicitDefEqProofs only [go_sem, bas, basL, Nat.reduceAdd, Nat.reduceSub, Nat.reduceMul, Nat.reduceLT, Nat.reduceLeDiff, Nat.reduceEqDiff, Nat.reduceBEq, Int.reduceLT, Int.reduceLE, Int.reduceToNat, Int.reduceAdd, Int.reduceSub, Int.reduceMul, Int.reduceNeg, Int.reduceEq, reduceCtorEq, eq_self, ne_eq, not_false_eq_true, if_true, reduceIte, lapp_cons, lapp_nil, e1, e2])
                    | ((first | (refine hK _ ?_; clear hK K) | show thenQ _ _ _ _ | show blockQ _ _ _ _ | show noGoQ _ _ _); simp only [noGoQ, thenQ, blockQ, if_true, Nat.reduceEqDiff, reduceIte])
                    | ((intro y hy; obtain ⟨c, _, rfl⟩ := List.mem_map.1 hy; rfl))
                    | (intro hg; first | (exfalso; omega) | (exfalso; contradiction) | skip)
                    | apply And.intro
                    | (with_reducible rfl)
                    | (clear hK; omega)
                    | omega)
                all_goals skip
              · have hnx := hlater _ z1 z3
                rw [if_neg (by omega)] at h5
                generalize dueI (addC s ⟨d, low, low + w⟩) f w = n2 at *
                rw [stD_add] at h5
                clear hlow hlater
                refine calls_abs Tryd.func5 Tryd.ntmps5 Tryd.results5 Tryd.call5 rfl (by simp) fun w0 S0 M0 => ?_
                repeat' (first
                    | refine abs_seq ?_
                    | refine abs_block ?_
                    | refine abs_skip ?_
                    | refine abs_scope ?_
                    | refine abs_label ?_
                    | refine abs_exit ?_
                    | refine abs_ret ?_
                    | ((first | refine abs_region fun K hK => ?_ | refine abs_draw Tryd.ty.mixed (by kernel_rfl) fun K hK => ?_ | refine abs_if ?_ | show retQ _ _ _ _ _ | refine callK (h1) ?_ | refine callK (d1) ?_ | refine callK (d2) ?_ | refine callK (d3) ?_ | refine callK (d4) ?_ | refine callK (g1) ?_ | refine callK (g2) ?_ | refine callK (s1) ?_ | refine callK (s2) ?_ | refine callK (sp_ok _ _) ?_ | refine callK (h4) ?_ | refine callK (h5) ?_ | refine callK (known_ok) ?_); simp -implicitDefEqProofs only [go_sem, bas, basL, Nat.reduceAdd, Nat.reduceSub, Nat.reduceMul, Nat.reduceLT, Nat.reduceLeDiff, Nat.reduceEqDiff, Nat.reduceBEq, Int.reduceLT, Int.reduceLE, Int.reduceToNat, Int.reduceAdd, Int.reduceSub, Int.reduceMul, Int.reduceNeg, Int.reduceEq, reduceCtorEq, eq_self, ne_eq, not_false_eq_true, if_true, reduceIte, lapp_cons, lapp_nil, e1, e2])
                    | ((first | (refine hK _ ?_; clear hK K) | show thenQ _ _ _ _ | show blockQ _ _ _ _ | show noGoQ _ _ _); simp only [noGoQ, thenQ, blockQ, if_true, Nat.reduceEqDiff, reduceIte])
                    | ((intro y hy; obtain ⟨c, _, rfl⟩ := List.mem_map.1 hy; rfl))
                    | (intro hg; first | (exfalso; omega) | (exfalso; contradiction) | skip)
                    | apply And.intro
                    | (with_reducible rfl)
                    | (clear hK; omega)
                    | omega)
                all_goals skip
          · refine calls_abs Tryd.func5 Tryd.ntmps5 Tryd.results5 Tryd.call5 rfl (by simp) fun w0 S0 M0 => ?_
            repeat' (first
                | refine abs_seq ?_
                | refine abs_block ?_
                | refine abs_skip ?_
                | refine abs_scope ?_
                | refine abs_label ?_
                | refine abs_exit ?_
                | refine abs_ret ?_
                | ((first | refine abs_region fun K hK => ?_ | refine abs_draw Tryd.ty.mixed (by kernel_rfl) fun K hK => ?_ | refine abs_if ?_ | show retQ _ _ _ _ _ | refine callK (h1) ?_ | refine callK (d1) ?_ | refine callK (d2) ?_ | refine callK (d3) ?_ | refine callK (known_ok) ?_); simp -implicitDefEqProofs only [go_sem, bas, basL, Nat.reduceAdd, Nat.reduceSub, Nat.reduceMul, Nat.reduceLT, Nat.reduceLeDiff, Nat.reduceEqDiff, Nat.reduceBEq, Int.reduceLT, Int.reduceLE, Int.reduceToNat, Int.reduceAdd, Int.reduceSub, Int.reduceMul, Int.reduceNeg, Int.reduceEq, reduceCtorEq, eq_self, ne_eq, not_false_eq_true, if_true, reduceIte, lapp_cons, lapp_nil])
                | ((first | (refine hK _ ?_; clear hK K) | show thenQ _ _ _ _ | show blockQ _ _ _ _ | show noGoQ _ _ _); simp only [noGoQ, thenQ, blockQ, if_true, Nat.reduceEqDiff, reduceIte])
                | (intro hg; first | (exfalso; omega) | (exfalso; contradiction) | skip)
                | apply And.intro
                | (with_reducible rfl)
                | (clear hK; omega)
                | omega)
        · have d3 : CallsTo Tryd.prog 20 [i64 day] (.bool false) := decide_eq_false hd ▸ day_ok day
          refine calls_abs Tryd.func5 Tryd.ntmps5 Tryd.results5 Tryd.call5 rfl (by simp) fun w0 S0 M0 => ?_
          repeat' (first
              | refine abs_seq ?_
              | refine abs_block ?_
              | refine abs_skip ?_
              | refine abs_scope ?_
              | refine abs_label ?_
              | refine abs_exit ?_
              | refine abs_ret ?_
              | ((first | refine abs_region fun K hK => ?_ | refine abs_draw Tryd.ty.mixed (by kernel_rfl) fun K hK => ?_ | refine abs_if ?_ | show retQ _ _ _ _ _ | refine callK (h1) ?_ | refine callK (d1) ?_ | refine callK (d2) ?_ | refine callK (d3) ?_ | refine callK (known_ok) ?_); simp -implicitDefEqProofs only [go_sem, bas, basL, Nat.reduceAdd, Nat.reduceSub, Nat.reduceMul, Nat.reduceLT, Nat.reduceLeDiff, Nat.reduceEqDiff, Nat.reduceBEq, Int.reduceLT, Int.reduceLE, Int.reduceToNat, Int.reduceAdd, Int.reduceSub, Int.reduceMul, Int.reduceNeg, Int.reduceEq, reduceCtorEq, eq_self, ne_eq, not_false_eq_true, if_true, reduceIte, lapp_cons, lapp_nil])
              | ((first | (refine hK _ ?_; clear hK K) | show thenQ _ _ _ _ | show blockQ _ _ _ _ | show noGoQ _ _ _); simp only [noGoQ, thenQ, blockQ, if_true, Nat.reduceEqDiff, reduceIte])
              | (intro hg; first | (exfalso; omega) | (exfalso; contradiction) | skip)
              | apply And.intro
              | (with_reducible rfl)
              | (clear hK; omega)
              | omega)
      · have d2 : CallsTo Tryd.prog 27 [i64 w] (.bool false) := decide_eq_false hw ▸ width_ok w
        refine calls_abs Tryd.func5 Tryd.ntmps5 Tryd.results5 Tryd.call5 rfl (by simp) fun w0 S0 M0 => ?_
        repeat' (first
            | refine abs_seq ?_
            | refine abs_block ?_
            | refine abs_skip ?_
            | refine abs_scope ?_
            | refine abs_label ?_
            | refine abs_exit ?_
            | refine abs_ret ?_
            | ((first | refine abs_region fun K hK => ?_ | refine abs_draw Tryd.ty.mixed (by kernel_rfl) fun K hK => ?_ | refine abs_if ?_ | show retQ _ _ _ _ _ | refine callK (h1) ?_ | refine callK (d1) ?_ | refine callK (d2) ?_ | refine callK (known_ok) ?_); simp -implicitDefEqProofs only [go_sem, bas, basL, Nat.reduceAdd, Nat.reduceSub, Nat.reduceMul, Nat.reduceLT, Nat.reduceLeDiff, Nat.reduceEqDiff, Nat.reduceBEq, Int.reduceLT, Int.reduceLE, Int.reduceToNat, Int.reduceAdd, Int.reduceSub, Int.reduceMul, Int.reduceNeg, Int.reduceEq, reduceCtorEq, eq_self, ne_eq, not_false_eq_true, if_true, reduceIte, lapp_cons, lapp_nil])
            | ((first | (refine hK _ ?_; clear hK K) | show thenQ _ _ _ _ | show blockQ _ _ _ _ | show noGoQ _ _ _); simp only [noGoQ, thenQ, blockQ, if_true, Nat.reduceEqDiff, reduceIte])
            | (intro hg; first | (exfalso; omega) | (exfalso; contradiction) | skip)
            | apply And.intro
            | (with_reducible rfl)
            | (clear hK; omega)
            | omega)
    · have d1 : CallsTo Tryd.prog 20 [i64 f] (.bool false) := decide_eq_false hf ▸ day_ok f
      refine calls_abs Tryd.func5 Tryd.ntmps5 Tryd.results5 Tryd.call5 rfl (by simp) fun w0 S0 M0 => ?_
      repeat' (first
          | refine abs_seq ?_
          | refine abs_block ?_
          | refine abs_skip ?_
          | refine abs_scope ?_
          | refine abs_label ?_
          | refine abs_exit ?_
          | refine abs_ret ?_
          | ((first | refine abs_region fun K hK => ?_ | refine abs_draw Tryd.ty.mixed (by kernel_rfl) fun K hK => ?_ | refine abs_if ?_ | show retQ _ _ _ _ _ | refine callK (h1) ?_ | refine callK (d1) ?_ | refine callK (known_ok) ?_); simp -implicitDefEqProofs only [go_sem, bas, basL, Nat.reduceAdd, Nat.reduceSub, Nat.reduceMul, Nat.reduceLT, Nat.reduceLeDiff, Nat.reduceEqDiff, Nat.reduceBEq, Int.reduceLT, Int.reduceLE, Int.reduceToNat, Int.reduceAdd, Int.reduceSub, Int.reduceMul, Int.reduceNeg, Int.reduceEq, reduceCtorEq, eq_self, ne_eq, not_false_eq_true, if_true, reduceIte, lapp_cons, lapp_nil])
          | ((first | (refine hK _ ?_; clear hK K) | show thenQ _ _ _ _ | show blockQ _ _ _ _ | show noGoQ _ _ _); simp only [noGoQ, thenQ, blockQ, if_true, Nat.reduceEqDiff, reduceIte])
          | (intro hg; first | (exfalso; omega) | (exfalso; contradiction) | skip)
          | apply And.intro
          | (with_reducible rfl)
          | (clear hK; omega)
          | omega)
  · have h1 := agr0 hl hag
    refine calls_abs Tryd.func5 Tryd.ntmps5 Tryd.results5 Tryd.call5 rfl (by simp) fun w0 S0 M0 => ?_
    repeat' (first
        | refine abs_seq ?_
        | refine abs_block ?_
        | refine abs_skip ?_
        | refine abs_scope ?_
        | refine abs_label ?_
        | refine abs_exit ?_
        | refine abs_ret ?_
        | ((first | refine abs_region fun K hK => ?_ | refine abs_draw Tryd.ty.mixed (by kernel_rfl) fun K hK => ?_ | refine abs_if ?_ | show retQ _ _ _ _ _ | refine callK (h1) ?_ | refine callK (known_ok) ?_); simp -implicitDefEqProofs only [go_sem, bas, basL, Nat.reduceAdd, Nat.reduceSub, Nat.reduceMul, Nat.reduceLT, Nat.reduceLeDiff, Nat.reduceEqDiff, Nat.reduceBEq, Int.reduceLT, Int.reduceLE, Int.reduceToNat, Int.reduceAdd, Int.reduceSub, Int.reduceMul, Int.reduceNeg, Int.reduceEq, reduceCtorEq, eq_self, ne_eq, not_false_eq_true, if_true, reduceIte, lapp_cons, lapp_nil])
        | ((first | (refine hK _ ?_; clear hK K) | show thenQ _ _ _ _ | show blockQ _ _ _ _ | show noGoQ _ _ _); simp only [noGoQ, thenQ, blockQ, if_true, Nat.reduceEqDiff, reduceIte])
        | (intro hg; first | (exfalso; omega) | (exfalso; contradiction) | skip)
        | apply And.intro
        | (with_reducible rfl)
        | (clear hK; omega)
        | omega)
end Go.Proofs.YtdbiiegohemahaaDoor
