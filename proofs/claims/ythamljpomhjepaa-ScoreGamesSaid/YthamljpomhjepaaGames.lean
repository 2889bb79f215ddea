/- The law ScoreGames returns true for every input (a table: how many classes, a step, and rows of points), and leaves its arguments as they were.
Its conditions: none beyond those of the given row, which are the ones that the statement itself names. -/
import Derived.Test.YthamljpomhjepaaL8
import Derived.Test.YthamljpomhjepaaRx
set_option linter.unusedVariables false
set_option linter.unusedSimpArgs false
section
namespace Go.Proofs.Ythamljpomhjepaa
open Go.Ab
attribute [local irreducible] Abs CallK CallR CallsTo

set_option maxRecDepth 100000 in
set_option maxHeartbeats 4000000 in
theorem games_some (c step k : Int) (P Z : List (List Int)) (i : Nat) (q0 : CallsTo Try.prog 49 [.agg [i64 c, i64 step, intss P]] (.bool true))
    (q1 : CallsTo Try.prog 50 [.agg [i64 c, i64 step, intss P]] (.tup [ints (nth Z i), ints (nth Z k.toNat), i64 (Ern (nth Z i) (nth P k.toNat) - Ern (nth Z i) (nth P i)), i64 0]))
    (q2 : CallsTo Try.prog 51 [.agg [i64 c, i64 step, intss P]] (.bool true)) (q3 : CallsTo Try.prog 52 [.agg [i64 c, i64 step, intss P]] (.tup [i64 i, i64 k, .bool true]))
    (q4 : CallsTo Try.prog 53 [i64 c, i64 step] (intss Z)) (s1 : CallsTo Try.prog 26 [ints (nth Z i), ints (nth Z i)] (.bool true)) (s2 : CallsTo Try.prog 26 [ints (nth Z k.toNat), ints (nth Z k.toNat)] (.bool true))
    (q5 : CallsTo Try.prog 54 [ints (nth Z i), ints (nth P k.toNat)] (i64 (Ern (nth Z i) (nth P k.toNat)))) (q6 : CallsTo Try.prog 54 [ints (nth Z i), ints (nth P i)] (i64 (Ern (nth Z i) (nth P i))))
    (b1 : -30000000 ≤ Ern (nth Z i) (nth P i) ∧ Ern (nth Z i) (nth P i) ≤ 30000000) (b2 : -30000000 ≤ Ern (nth Z i) (nth P k.toNat) ∧ Ern (nth Z i) (nth P k.toNat) ≤ 30000000)
    (hi : i < Z.length) (hk : 0 ≤ k ∧ k < Z.length) (z1 : P.length = Z.length) : CallsTo Try.prog 11 [.agg [i64 c, i64 step, intss P]] (.bool true) := by
  refine calls_abs Try.func11 Try.ntmps11 Try.results11 Try.call11 rfl (by simp) fun w0 S0 M0 => ?_
  repeat' (first
      | refine abs_seq ?_
      | refine abs_block ?_
      | refine abs_skip ?_
      | refine abs_exit ?_
      | refine abs_ret ?_
      | ((first | refine abs_region fun K hK => ?_ | refine abs_draw Try.ty.mixed (by kernel_rfl) fun K hK => ?_ | refine abs_if ?_); simp -implicitDefEqProofs only [go_sem, bas, basL, Nat.reduceAdd, Nat.reduceSub, Nat.reduceMul, Nat.reduceLT, Nat.reduceLeDiff, Nat.reduceEqDiff, Nat.reduceBEq, Int.reduceLT, Int.reduceLE, Int.reduceToNat, Int.reduceAdd, Int.reduceSub, Int.reduceMul, Int.reduceNeg, Int.reduceEq, reduceCtorEq, eq_self, ne_eq, not_false_eq_true, if_true, reduceIte])
      | (refine hK _ ?_; clear hK K; simp only [thenQ, blockQ, if_true, Nat.reduceEqDiff, reduceIte])
      | (show thenQ _ _ _ _; simp only [thenQ, blockQ, if_true, Nat.reduceEqDiff, reduceIte])
      | (show blockQ _ _ _ _; simp only [thenQ, blockQ, if_true, Nat.reduceEqDiff, reduceIte])
      | ((first | refine callK (known_ok) ?_ | refine callK (q0) ?_ | refine callK (q1) ?_ | refine callK (q2) ?_ | refine callK (q3) ?_ | refine callK (q4) ?_ | refine callK (s1) ?_ | refine callK (s2) ?_ | refine callK (q5) ?_ | refine callK (q6) ?_); try simp -implicitDefEqProofs only [go_sem, bas, basL, Nat.reduceAdd, Nat.reduceSub, Nat.reduceMul, Nat.reduceLT, Nat.reduceLeDiff, Nat.reduceEqDiff, Nat.reduceBEq, Int.reduceLT, Int.reduceLE, Int.reduceToNat, Int.reduceAdd, Int.reduceSub, Int.reduceMul, Int.reduceNeg, Int.reduceEq, reduceCtorEq, eq_self, ne_eq, not_false_eq_true, if_true, reduceIte])
      | (show retQ _ _ _ _ _; simp -implicitDefEqProofs only [go_sem, bas, basL, Nat.reduceAdd, Nat.reduceSub, Nat.reduceMul, Nat.reduceLT, Nat.reduceLeDiff, Nat.reduceEqDiff, Nat.reduceBEq, Int.reduceLT, Int.reduceLE, Int.reduceToNat, Int.reduceAdd, Int.reduceSub, Int.reduceMul, Int.reduceNeg, Int.reduceEq, reduceCtorEq, eq_self, ne_eq, not_false_eq_true, if_true, reduceIte])
      | (intro hg; first | (exfalso; omega) | (exfalso; contradiction) | skip)
      | apply And.intro
      | (with_reducible rfl)
      | (clear hK; omega)
      | omega)

theorem games_law (c step : Int) (P : List (List Int)) : CallsTo Try.prog 11 [.agg [i64 c, i64 step, intss P]] (.bool true) := by
  have q0 := few_ok c step P
  have q1 := game_ok c step P
  have q2 := table_ok c step P
  by_cases h1 : Few P
  · by_cases h2 : Tab c step P
    · rw [decide_eq_true h1] at q0
      rw [decide_eq_true h2] at q2
      have q3 := rgame_ok c step P h2
      have q4 := stat_ok c step (by have := h2.1; omega) h2.2.1.1 h2.2.1.2.1
      obtain ⟨z1, z2, z3⟩ := tab_ok h2
      have z0 := List.length_pos_iff.2 (stm_ne (c := c.toNat) h2.2.1.1)
      unfold gmT at q1
      rw [if_pos h2] at q1
      unfold rgT at q3
      generalize stm c.toNat step = Z at *
      cases hr : gmR Z P with
      | none =>
        rw [hr] at q1 q3
        exact games_none c step P q0 q1 q2 q3
      | some i =>
        rw [hr] at q1 q3
        simp only [] at q1 q3
        obtain ⟨hi, ha, _⟩ := gmR_has hr
        obtain ⟨hk, hv⟩ := gmB_ok (P := P) i z0
        have hO : gmO Z P i = Ern (nth Z i) (nth P i) := rfl
        rw [hv, hO] at q1
        generalize (gmB Z P i).1 = k at *
        have q5 : CallsTo Try.prog 54 [ints (nth Z i), ints (nth P k.toNat)] (i64 (Ern (nth Z i) (nth P k.toNat))) := by
          have h1 := z2 i hi
          have h2 := z3 k.toNat (by omega)
          exact earns_ok _ _ h1.1 (by omega) (fun k => by have := h2.2 k; omega)
        have q6 : CallsTo Try.prog 54 [ints (nth Z i), ints (nth P i)] (i64 (Ern (nth Z i) (nth P i))) := by
          have h1 := z2 i hi
          have h2 := z3 i (by omega)
          exact earns_ok _ _ h1.1 (by omega) (fun k => by have := h2.2 k; omega)
        have b1 := Ern_bd (z2 i hi).1 (z3 i (by omega)).2
        have b2 := Ern_bd (z2 i hi).1 (z3 k.toNat (by omega)).2
        have s1 := same_ok (nth Z i) (nth Z i) (by have := (z2 i hi).1.1; omega)
        have s2 := same_ok (nth Z k.toNat) (nth Z k.toNat) (by have := (z2 k.toNat (by omega)).1.1; omega)
        rw [decide_eq_true rfl] at s1 s2
        exact games_some c step k P Z i q0 q1 q2 q3 q4 s1 s2 q5 q6 b1 b2 hi hk z1
    · rw [decide_eq_true h1] at q0
      rw [decide_eq_false h2] at q2
      unfold gmT at q1
      rw [if_neg h2] at q1
      exact games_not c step P q0 q1 q2
  · rw [decide_eq_false h1] at q0
    exact games_few c step P q0
end Go.Proofs.Ythamljpomhjepaa
end
section
namespace Go.Proofs.Ythamljpomhjepaa
open Go.ChangeShapes Go.WideShapes Go.ChangeAt Go.RowKit Go.Ab
theorem own : ownKnob Try.prog.godebug = none := by kernel_rfl
theorem cells3 : Try.prog.cellsOf 3 = 1 := by kernel_rfl
theorem cells22 : Try.prog.cellsOf 22 = 1 := by kernel_rfl
theorem cells40 : Try.prog.cellsOf 40 = 1 := by kernel_rfl
theorem laid_ok : laidOutB Try.prog = true := by kernel_rfl
theorem maps_ok : mapsRowed Try.prog = true := by kernel_rfl
theorem full_ok : ∀ t e, t < Try.prog.types.size → Try.prog.underlying t = some (.slice e) → 0 < Try.prog.cellsOf e := slices_full_of Try.prog (by kernel_rfl)

set_option maxRecDepth 100000 in
theorem scoreGames_lifted (os : Os) (started : os.Started) (H : Type) (enc : TypeId × Value → H) :
    ReturnsInHanded {} Try.checked os 11 .any (Rows.scoreGamesSpec.pre6 enc Try.prog Try.f11 Rows.scoreGamesRow.domain false) (Rows.scoreGamesSpec.post enc Try.prog Try.f11 false true false false) := by
  refine returnsInHanded_of_change (C := Try.checked) own started (by kernel_rfl) Try.func11
    (ChangeSpec.witness6 (enc := enc) (C := Try.checked) false ⟨#[], #[.agg #[.int .i64 0, .int .i64 0, .slice none 0 0]], []⟩ 8 (by kernel_rfl) (by kernel_rfl) (by kernel_rfl) (by kernel_rfl)) ?_
  intro W base args ds gs before hval0 hW hcnd _
  have hval : ∀ (j : Nat) t v, Try.f11.params[j]? = some t → args[j]? = some v → Value.okWide Try.prog W .any base t v := hval0
  have hW' := hW
  obtain ⟨p, q, hA0, hV, hpq, hfz, hnd⟩ := hW'
  have hA : DataW.TrodAll enc Try.prog W 0 (fun _ => true) true Try.f11.params.toList args.toList ds p := hA0
  rw [Try.params11] at hA hval
  obtain ⟨v0, d0, rfl, rfl, h0⟩ := trodAll_one hA
  obtain ⟨_, _, _, ⟨a0x, rfl⟩, ⟨a0y, rfl⟩, ⟨a0z, rfl, k0z, j0z⟩, r0⟩ := rel_struct3 Try.underlying72 (by kernel_rfl) ⟨rfl, rfl, rfl⟩ cells3 cells3 cells40 (reads_int Try.underlying3) (reads_int Try.underlying3) (reads_intss Try.underlying40 Try.underlying22 Try.underlying3 cells22 cells3) (hval 0 72 v0 rfl rfl) h0
  exact calls_law (s := Rows.scoreGamesSpec) (Ds := [.agg [i64 a0x, i64 a0y, intss a0z]]) rfl rfl Try.underlying4 ⟨rfl, rfl, rfl⟩ laid_ok maps_ok full_ok (by rw [Try.params11]; decide +kernel) hW (games_law a0x a0y a0z) rfl (fun q x hx => by
    match q, hx with
    | 0, hx => cases hx; exact r0)

theorem scoreGames_holds : Rows.ScoreGamesSaid :=
  OpenClaim.holds_of_wide 11 Try.f11 rfl rfl rfl rfl rfl rfl rfl ⟨rfl, rfl, rfl, rfl, rfl⟩ rfl rfl rfl rfl rfl (by kernel_rfl) Try.func11 (by kernel_rfl)
    (of_decide_eq_true (by kernel_rfl)) (by unfold Func.isWrapper; first | (rw [if_pos (by decide +kernel)]; kernel_rfl) | (rw [if_neg (by decide +kernel)]; exact ⟨rfl, rfl⟩))
    (fun os started H enc _ => scoreGames_lifted os started H enc)
#print axioms scoreGames_holds
end Go.Proofs.Ythamljpomhjepaa
end
