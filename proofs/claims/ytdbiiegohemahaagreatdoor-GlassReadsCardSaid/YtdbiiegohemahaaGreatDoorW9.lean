import Derived.Test.YtdbiiegohemahaaGreatDoorW8
set_option linter.unusedVariables false
set_option linter.unusedSimpArgs false
namespace Go.Proofs.YtdbiiegohemahaaGreatDoor
open Go.Ab Go.Sheet
attribute [local irreducible] Abs CallK CallR CallsTo CallsE IA
theorem bodyO_size (t : ByteArray) : (bodyO t).size ≤ t.size := by
  rw [d_size, d_size t]; unfold bodyO Go.Lib.trimSuffix; rw [mk_list]
  split
  · rw [List.length_take]; omega
  · exact Nat.le_refl _
theorem rread_any (t : ByteArray) (ht : t.size ≤ 3100) : ∃ (xs : List D) (b : Bool), CallsTo Tryz.prog 12 [.str t] (.tup [.list xs, .bool b]) := by
  by_cases h : okR t
  · exact ⟨_, _, rread_ok t ht _ (fun _ => rfl) (fun g => absurd h g)⟩
  · exact ⟨_, _, rread_ok t ht _ (fun g => absurd g h) (fun _ => rfl)⟩
theorem rread_not (t : ByteArray) (ht : t.size ≤ 3100) (h : ¬ okO t) : ∃ xs : List D, CallsTo Tryz.prog 12 [.str t] (.tup [.list xs, .bool false]) := by
  by_cases g : okR t
  · refine ⟨_, rread_ok t ht (.tup [.list ((rdsR t).map rdD), .bool false]) (fun _ => ?_) (fun g2 => absurd g g2)⟩
    rw [show ((sheetB (rdsR t)).toList == t.toList) = false from beq_eq_false_iff_ne.2 fun e => h (R_okO g (d_ext (by rw [Go.Lib.toList_data, Go.Lib.toList_data] at e; exact e)))]
  · exact ⟨_, rread_ok t ht _ (fun g2 => absurd g2 g) (fun _ => rfl)⟩
theorem rread_yes (t : ByteArray) (ht : t.size ≤ 3100) (h : okO t) : CallsTo Tryz.prog 12 [.str t] (.tup [.list ((rdsO t).map rdD), .bool true]) := by
  obtain ⟨g, hr, hs⟩ := okO_R h
  refine rread_ok t ht _ (fun _ => ?_) (fun g2 => absurd g g2)
  rw [hs, hr, beq_self_eq_true]
set_option maxRecDepth 100000 in
set_option maxHeartbeats 4000000 in
theorem reads_law (t : ByteArray) : CallsTo Tryz.prog 4 [.str t] (.bool true) := by
  by_cases hA : (1200 < t.size ∧ t.size ≤ 3000) ∨ 3100 < t.size
  · refine calls_abs Tryz.func4 Tryz.ntmps4 Tryz.results4 Tryz.call4 rfl (by simp) fun w0 S0 M0 => ?_
    repeat' (first | refine abs_seq ?_ | refine abs_block ?_ | refine abs_skip ?_ | refine abs_scope ?_ | refine abs_label ?_ | refine abs_exit ?_ | refine abs_ret ?_ | ((first | refine abs_region fun K hK => ?_ | refine abs_draw Tryz.ty.mixed (by kernel_rfl) fun K hK => ?_ | refine abs_if ?_ | show retQ _ _ _ _ _ | refine callK (known_ok) ?_); simp -implicitDefEqProofs only [go_sem, bas, basL, Nat.reduceAdd, Nat.reduceSub, Nat.reduceMul, Nat.reduceLT, Nat.reduceLeDiff, Nat.reduceEqDiff, Nat.reduceBEq, Int.reduceLT, Int.reduceLE, Int.reduceToNat, Int.reduceAdd, Int.reduceSub, Int.reduceMul, Int.reduceNeg, Int.reduceEq, reduceCtorEq, eq_self, ne_eq, not_false_eq_true, if_true, reduceIte, Tryz.underlying9, beq_self_eq_true]) | ((first | (refine hK _ ?_; clear hK K) | show thenQ _ _ _ _ | show blockQ _ _ _ _ | show noGoQ _ _ _); simp only [noGoQ, thenQ, blockQ, if_true, Nat.reduceEqDiff, reduceIte]) | (intro hg; first | (exfalso; omega) | (exfalso; contradiction) | skip) | apply And.intro | (with_reducible rfl) | (clear hK; omega) | omega)
    all_goals skip
  · by_cases hB : 3000 < t.size
    · have p9 := gRead_long t hB (by omega)
      obtain ⟨xs, b, p12⟩ := rread_any t (by omega)
      refine calls_abs Tryz.func4 Tryz.ntmps4 Tryz.results4 Tryz.call4 rfl (by simp) fun w0 S0 M0 => ?_
      repeat' (first | refine abs_seq ?_ | refine abs_block ?_ | refine abs_skip ?_ | refine abs_scope ?_ | refine abs_label ?_ | refine abs_exit ?_ | refine abs_ret ?_ | ((first | refine abs_region fun K hK => ?_ | refine abs_draw Tryz.ty.mixed (by kernel_rfl) fun K hK => ?_ | refine abs_if ?_ | show retQ _ _ _ _ _ | refine callK (p9) ?_ | refine callK (p12) ?_ | refine callK (known_ok) ?_); simp -implicitDefEqProofs only [go_sem, bas, basL, Nat.reduceAdd, Nat.reduceSub, Nat.reduceMul, Nat.reduceLT, Nat.reduceLeDiff, Nat.reduceEqDiff, Nat.reduceBEq, Int.reduceLT, Int.reduceLE, Int.reduceToNat, Int.reduceAdd, Int.reduceSub, Int.reduceMul, Int.reduceNeg, Int.reduceEq, reduceCtorEq, eq_self, ne_eq, not_false_eq_true, if_true, reduceIte, Tryz.underlying9, beq_self_eq_true]) | ((first | (refine hK _ ?_; clear hK K) | show thenQ _ _ _ _ | show blockQ _ _ _ _ | show noGoQ _ _ _); simp only [noGoQ, thenQ, blockQ, if_true, Nat.reduceEqDiff, reduceIte]) | (intro hg; first | (exfalso; omega) | (exfalso; contradiction) | skip) | apply And.intro | (with_reducible rfl) | (clear hK; omega) | omega)
      all_goals skip
    · have hs : t.size ≤ 1200 := by omega
      by_cases hok : okO t
      · have p12 := rread_yes t (by omega) hok
        have hR := (read_E t (by omega) _ (fun _ => rfl) (fun g => absurd hok g)).calls
        obtain ⟨_, hsh⟩ := okO_sheet hok
        have hE := formedE_ok (rdsO t) (by rw [rds_len]; have := parts_count 10 (bodyO t); have := bodyO_size t; unfold nO' lsO; omega)
        have hlen : (rdsO t).length ≤ 9223372036854775807 := by rw [rds_len]; have := parts_count 10 (bodyO t); have := bodyO_size t; unfold nO' lsO; omega
        have p8 := sheet_ok (rdsO t) hlen
        by_cases h0 : fmE (rdsO t) = 0
        · obtain ⟨h20, hs2⟩ := fmE_zero.1 h0
          rw [decide_eq_true hs2] at p8
          have p9 := gRead_ok t (by omega) _ 0 rfl hR (by rw [h0] at hE; exact hE)
          have p7 := gprint0 (rdsO t) h20 hs2
          have p11 := sameR_ok (rdsO t) (by omega)
          rw [← hsh] at p7
          refine calls_abs Tryz.func4 Tryz.ntmps4 Tryz.results4 Tryz.call4 rfl (by simp) fun w0 S0 M0 => ?_
          repeat' (first | refine abs_seq ?_ | refine abs_block ?_ | refine abs_skip ?_ | refine abs_scope ?_ | refine abs_label ?_ | refine abs_exit ?_ | refine abs_ret ?_ | ((first | refine abs_region fun K hK => ?_ | refine abs_draw Tryz.ty.mixed (by kernel_rfl) fun K hK => ?_ | refine abs_if ?_ | show retQ _ _ _ _ _ | refine callK (p9) ?_ | refine callK (p12) ?_ | refine callK (p8) ?_ | refine callK (p7) ?_ | refine callK (p11) ?_ | refine callK (known_ok) ?_); simp -implicitDefEqProofs only [go_sem, bas, basL, Nat.reduceAdd, Nat.reduceSub, Nat.reduceMul, Nat.reduceLT, Nat.reduceLeDiff, Nat.reduceEqDiff, Nat.reduceBEq, Int.reduceLT, Int.reduceLE, Int.reduceToNat, Int.reduceAdd, Int.reduceSub, Int.reduceMul, Int.reduceNeg, Int.reduceEq, reduceCtorEq, eq_self, ne_eq, not_false_eq_true, if_true, reduceIte, Tryz.underlying9, beq_self_eq_true]) | ((first | (refine hK _ ?_; clear hK K) | show thenQ _ _ _ _ | show blockQ _ _ _ _ | show noGoQ _ _ _); simp only [noGoQ, thenQ, blockQ, if_true, Nat.reduceEqDiff, reduceIte]) | (intro hg; first | (exfalso; omega) | (exfalso; contradiction) | skip) | apply And.intro | (with_reducible rfl) | (clear hK; omega) | omega)
          all_goals skip
        · have p9 := gRead_bad t (by omega) _ (fmE (rdsO t)) h0 hR hE
          by_cases h20 : 20 < (rdsO t).length
          · rw [show fmE (rdsO t) = 3 from if_pos h20] at p9
            refine calls_abs Tryz.func4 Tryz.ntmps4 Tryz.results4 Tryz.call4 rfl (by simp) fun w0 S0 M0 => ?_
            repeat' (first | refine abs_seq ?_ | refine abs_block ?_ | refine abs_skip ?_ | refine abs_scope ?_ | refine abs_label ?_ | refine abs_exit ?_ | refine abs_ret ?_ | ((first | refine abs_region fun K hK => ?_ | refine abs_draw Tryz.ty.mixed (by kernel_rfl) fun K hK => ?_ | refine abs_if ?_ | show retQ _ _ _ _ _ | refine callK (p9) ?_ | refine callK (p12) ?_ | refine callK (known_ok) ?_); simp -implicitDefEqProofs only [go_sem, bas, basL, Nat.reduceAdd, Nat.reduceSub, Nat.reduceMul, Nat.reduceLT, Nat.reduceLeDiff, Nat.reduceEqDiff, Nat.reduceBEq, Int.reduceLT, Int.reduceLE, Int.reduceToNat, Int.reduceAdd, Int.reduceSub, Int.reduceMul, Int.reduceNeg, Int.reduceEq, reduceCtorEq, eq_self, ne_eq, not_false_eq_true, if_true, reduceIte, Tryz.underlying9, beq_self_eq_true]) | ((first | (refine hK _ ?_; clear hK K) | show thenQ _ _ _ _ | show blockQ _ _ _ _ | show noGoQ _ _ _); simp only [noGoQ, thenQ, blockQ, if_true, Nat.reduceEqDiff, reduceIte]) | (intro hg; first | (exfalso; omega) | (exfalso; contradiction) | skip) | apply And.intro | (with_reducible rfl) | (clear hK; omega) | omega)
            all_goals skip
          · have hs2 : ¬ ShOk (rdsO t) := fun hs2 => h0 (fmE_zero.2 ⟨by omega, hs2⟩)
            rw [decide_eq_false hs2] at p8
            rw [show fmE (rdsO t) = 2 by unfold fmE; rw [if_neg h20, if_neg hs2]] at p9
            refine calls_abs Tryz.func4 Tryz.ntmps4 Tryz.results4 Tryz.call4 rfl (by simp) fun w0 S0 M0 => ?_
            repeat' (first | refine abs_seq ?_ | refine abs_block ?_ | refine abs_skip ?_ | refine abs_scope ?_ | refine abs_label ?_ | refine abs_exit ?_ | refine abs_ret ?_ | ((first | refine abs_region fun K hK => ?_ | refine abs_draw Tryz.ty.mixed (by kernel_rfl) fun K hK => ?_ | refine abs_if ?_ | show retQ _ _ _ _ _ | refine callK (p9) ?_ | refine callK (p12) ?_ | refine callK (p8) ?_ | refine callK (known_ok) ?_); simp -implicitDefEqProofs only [go_sem, bas, basL, Nat.reduceAdd, Nat.reduceSub, Nat.reduceMul, Nat.reduceLT, Nat.reduceLeDiff, Nat.reduceEqDiff, Nat.reduceBEq, Int.reduceLT, Int.reduceLE, Int.reduceToNat, Int.reduceAdd, Int.reduceSub, Int.reduceMul, Int.reduceNeg, Int.reduceEq, reduceCtorEq, eq_self, ne_eq, not_false_eq_true, if_true, reduceIte, Tryz.underlying9, beq_self_eq_true]) | ((first | (refine hK _ ?_; clear hK K) | show thenQ _ _ _ _ | show blockQ _ _ _ _ | show noGoQ _ _ _); simp only [noGoQ, thenQ, blockQ, if_true, Nat.reduceEqDiff, reduceIte]) | (intro hg; first | (exfalso; omega) | (exfalso; contradiction) | skip) | apply And.intro | (with_reducible rfl) | (clear hK; omega) | omega)
            all_goals skip
      · obtain ⟨xs, p12⟩ := rread_not t (by omega) hok
        have hR : CallsE Tryz.prog 29 [.str t] 72 none := read_E t (by omega) none (fun h => absurd h hok) (fun _ => rfl)
        have p9 := gRead_no t (by omega) hR
        refine calls_abs Tryz.func4 Tryz.ntmps4 Tryz.results4 Tryz.call4 rfl (by simp) fun w0 S0 M0 => ?_
        repeat' (first | refine abs_seq ?_ | refine abs_block ?_ | refine abs_skip ?_ | refine abs_scope ?_ | refine abs_label ?_ | refine abs_exit ?_ | refine abs_ret ?_ | ((first | refine abs_region fun K hK => ?_ | refine abs_draw Tryz.ty.mixed (by kernel_rfl) fun K hK => ?_ | refine abs_if ?_ | show retQ _ _ _ _ _ | refine callK (p9) ?_ | refine callK (p12) ?_ | refine callK (known_ok) ?_); simp -implicitDefEqProofs only [go_sem, bas, basL, Nat.reduceAdd, Nat.reduceSub, Nat.reduceMul, Nat.reduceLT, Nat.reduceLeDiff, Nat.reduceEqDiff, Nat.reduceBEq, Int.reduceLT, Int.reduceLE, Int.reduceToNat, Int.reduceAdd, Int.reduceSub, Int.reduceMul, Int.reduceNeg, Int.reduceEq, reduceCtorEq, eq_self, ne_eq, not_false_eq_true, if_true, reduceIte, Tryz.underlying9, beq_self_eq_true]) | ((first | (refine hK _ ?_; clear hK K) | show thenQ _ _ _ _ | show blockQ _ _ _ _ | show noGoQ _ _ _); simp only [noGoQ, thenQ, blockQ, if_true, Nat.reduceEqDiff, reduceIte]) | (intro hg; first | (exfalso; omega) | (exfalso; contradiction) | skip) | apply And.intro | (with_reducible rfl) | (clear hK; omega) | omega)
        all_goals skip
end Go.Proofs.YtdbiiegohemahaaGreatDoor
