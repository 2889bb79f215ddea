/- The law ScoreEnds returns true for every input (a suite and a forecast), and leaves its arguments as they were.
Its conditions: none beyond those of the given row, which are the ones that the statement itself names. -/
import Derived.Test.YthamljpomhjepaaQ10
import Derived.Test.YthamljpomhjepaaKn
import Derived.Test.YthamljpomhjepaaRx
set_option linter.unusedVariables false
set_option linter.unusedSimpArgs false
section
namespace Go.Proofs.Ythamljpomhjepaa
open Go.Ab
attribute [local irreducible] Abs CallK CallR CallsTo

set_option maxRecDepth 100000 in
set_option maxHeartbeats 4000000 in
theorem ends_out (c : Int) (W : List Int) (S : List (List Int)) (f : List (List (List Int))) (h : ¬ (Shrt W S ∧ Brief f ∧ Suite c W S ∧ Fore c W S f)) :
    CallsTo Try.prog 9 [.agg [i64 c, ints W, intss S], intsss f] (.bool true) := by
  refine calls_abs Try.func9 Try.ntmps9 Try.results9 Try.call9 rfl (by simp) fun w0 S0 M0 => ?_
  repeat' (first
      | refine abs_seq ?_
      | refine abs_block ?_
      | refine abs_skip ?_
      | refine abs_exit ?_
      | refine abs_ret ?_
      | ((first | refine abs_region fun K hK => ?_ | refine abs_draw Try.ty.mixed (by kernel_rfl) fun K hK => ?_ | refine abs_if ?_); simp -implicitDefEqProofs only [go_sem, bas, basL, Nat.reduceAdd, Nat.reduceSub, Nat.reduceMul, Nat.reduceLT, Nat.reduceLeDiff, Nat.reduceEqDiff, Nat.reduceBEq, Int.reduceLT, Int.reduceLE, Int.reduceToNat, Int.reduceAdd, Int.reduceSub, Int.reduceMul, Int.reduceNeg, Int.reduceEq, reduceCtorEq, eq_self, ne_eq, not_false_eq_true, if_true, reduceIte])
      | (refine hK _ ?_; clear hK K; simp only [thenQ, blockQ, if_true, Nat.reduceEqDiff, reduceIte])
      | (show thenQ _ _ _ _; simp only [thenQ, blockQ, if_true, Nat.reduceEqDiff, reduceIte])
      | (show blockQ _ _ _ _; simp only [thenQ, blockQ, if_true, Nat.reduceEqDiff, reduceIte])
      | ((first | refine callK (known_ok) ?_ | refine callK (short_ok c W S) ?_ | refine callK (brief_ok f) ?_ | refine callK (suite_ok c W S (by have h := ‹Shrt W S›; have := h.2.2; omega) (by have h := ‹Shrt W S›; have := h.2.1; omega)) ?_ | refine callK (fore_ok c W S f (by have h := ‹Shrt W S›; have := h.2.2; omega) (by have h := ‹Brief f›; have := h.2; omega) ‹Brief f›.rows) ?_); try simp -implicitDefEqProofs only [go_sem, bas, basL, Nat.reduceAdd, Nat.reduceSub, Nat.reduceMul, Nat.reduceLT, Nat.reduceLeDiff, Nat.reduceEqDiff, Nat.reduceBEq, Int.reduceLT, Int.reduceLE, Int.reduceToNat, Int.reduceAdd, Int.reduceSub, Int.reduceMul, Int.reduceNeg, Int.reduceEq, reduceCtorEq, eq_self, ne_eq, not_false_eq_true, if_true, reduceIte])
      | (show retQ _ _ _ _ _; simp -implicitDefEqProofs only [go_sem, bas, basL, Nat.reduceAdd, Nat.reduceSub, Nat.reduceMul, Nat.reduceLT, Nat.reduceLeDiff, Nat.reduceEqDiff, Nat.reduceBEq, Int.reduceLT, Int.reduceLE, Int.reduceToNat, Int.reduceAdd, Int.reduceSub, Int.reduceMul, Int.reduceNeg, Int.reduceEq, reduceCtorEq, eq_self, ne_eq, not_false_eq_true, if_true, reduceIte])
      | (intro hg; first | (exfalso; omega) | (exfalso; contradiction) | skip)
      | apply And.intro
      | (with_reducible rfl)
      | (clear hK; omega)
      | omega)
  all_goals exact absurd ⟨by assumption, by assumption, by assumption, by assumption⟩ h
set_option maxRecDepth 100000 in
set_option maxHeartbeats 4000000 in
theorem ends_in (c : Int) (W : List Int) (S : List (List Int)) (f : List (List (List Int))) (h1 : Shrt W S) (h2 : Brief f) (hs : Suite c W S) (hf : Fore c W S f) :
    CallsTo Try.prog 9 [.agg [i64 c, ints W, intss S], intsss f] (.bool true) := by
  have hS := hs.2.2.1
  have hW := hs.2.1.2
  have a1 := short_ok c W S
  have a2 := brief_ok f
  have a4 := suite_ok c W S (by omega) (by omega)
  have a5 := fore_ok c W S f (by omega) (by have := h2.2; omega) h2.rows
  rw [decide_eq_true h1] at a1
  rw [decide_eq_true h2] at a2
  rw [decide_eq_true hs] at a4
  rw [decide_eq_true hf] at a5
  have p1 := ptotalx_ok c W S f
  have p2 := ptotalx_ok c W (chT false c W S f S.length) f
  have p3 := ptotalx_ok c W (chT true c W S f S.length) f
  rw [if_pos ⟨hs, hf⟩] at p1
  rw [if_pos ⟨chT_suite hs, chT_fore hf⟩] at p2 p3
  have e := ends_eq hs hf
  rw [e.1.1, e.1.2] at p2
  rw [e.2.1, e.2.2] at p3
  have c1 := chosen_least c W S f hs hf
  have c2 := chosen_most c W S f hs hf
  clear e
  generalize Sd.tlo ⟨c, W, S, f, none⟩ = lo at *
  generalize Sd.thi ⟨c, W, S, f, none⟩ = hi at *
  generalize chT false c W S f S.length = S1 at *
  generalize chT true c W S f S.length = S2 at *
  refine calls_abs Try.func9 Try.ntmps9 Try.results9 Try.call9 rfl (by simp) fun w0 S0 M0 => ?_
  repeat' (first
      | refine abs_seq ?_
      | refine abs_block ?_
      | refine abs_skip ?_
      | refine abs_exit ?_
      | refine abs_ret ?_
      | ((first | refine abs_region fun K hK => ?_ | refine abs_draw Try.ty.mixed (by kernel_rfl) fun K hK => ?_ | refine abs_if ?_); simp -implicitDefEqProofs only [go_sem, bas, basL, Nat.reduceAdd, Nat.reduceSub, Nat.reduceMul, Nat.reduceLT, Nat.reduceLeDiff, Nat.reduceEqDiff, Nat.reduceBEq, Int.reduceLT, Int.reduceLE, Int.reduceToNat, Int.reduceAdd, Int.reduceSub, Int.reduceMul, Int.reduceNeg, Int.reduceEq, reduceCtorEq, eq_self, ne_eq, not_false_eq_true, if_true, reduceIte])
      | (refine hK _ ?_; clear hK K; simp only [thenQ, blockQ, if_true, Nat.reduceEqDiff, reduceIte])
      | (show thenQ _ _ _ _; simp only [thenQ, blockQ, if_true, Nat.reduceEqDiff, reduceIte])
      | (show blockQ _ _ _ _; simp only [thenQ, blockQ, if_true, Nat.reduceEqDiff, reduceIte])
      | ((first | refine callK (known_ok) ?_ | refine callK (a1) ?_ | refine callK (a2) ?_ | refine callK (a4) ?_ | refine callK (a5) ?_ | refine callK (p1) ?_ | refine callK (p2) ?_ | refine callK (p3) ?_ | refine callK (c1) ?_ | refine callK (c2) ?_); try simp -implicitDefEqProofs only [go_sem, bas, basL, Nat.reduceAdd, Nat.reduceSub, Nat.reduceMul, Nat.reduceLT, Nat.reduceLeDiff, Nat.reduceEqDiff, Nat.reduceBEq, Int.reduceLT, Int.reduceLE, Int.reduceToNat, Int.reduceAdd, Int.reduceSub, Int.reduceMul, Int.reduceNeg, Int.reduceEq, reduceCtorEq, eq_self, ne_eq, not_false_eq_true, if_true, reduceIte])
      | (show retQ _ _ _ _ _; simp -implicitDefEqProofs only [go_sem, bas, basL, Nat.reduceAdd, Nat.reduceSub, Nat.reduceMul, Nat.reduceLT, Nat.reduceLeDiff, Nat.reduceEqDiff, Nat.reduceBEq, Int.reduceLT, Int.reduceLE, Int.reduceToNat, Int.reduceAdd, Int.reduceSub, Int.reduceMul, Int.reduceNeg, Int.reduceEq, reduceCtorEq, eq_self, ne_eq, not_false_eq_true, if_true, reduceIte])
      | (intro hg; first | (exfalso; omega) | (exfalso; contradiction) | skip)
      | apply And.intro
      | (with_reducible rfl)
      | (clear hK; omega)
      | omega)
  all_goals skip
theorem ends_law (c : Int) (W : List Int) (S : List (List Int)) (f : List (List (List Int))) : CallsTo Try.prog 9 [.agg [i64 c, ints W, intss S], intsss f] (.bool true) := by
  by_cases h : Shrt W S ∧ Brief f ∧ Suite c W S ∧ Fore c W S f
  · exact ends_in c W S f h.1 h.2.1 h.2.2.1 h.2.2.2
  · exact ends_out c W S f h
end Go.Proofs.Ythamljpomhjepaa
end
section
namespace Go.Proofs.Ythamljpomhjepaa
open Go.ChangeShapes Go.WideShapes Go.ChangeAt Go.RowKit Go.Ab
theorem own : ownKnob Try.prog.godebug = none := by kernel_rfl
theorem cells3 : Try.prog.cellsOf 3 = 1 := by kernel_rfl
theorem cells22 : Try.prog.cellsOf 22 = 1 := by kernel_rfl
theorem cells40 : Try.prog.cellsOf 40 = 1 := by kernel_rfl
theorem laid_ok : laidOutB Try.prog = true := by kernel_rfl
theorem maps_ok : mapsRowed Try.prog = true := by kernel_rfl
theorem full_ok : ∀ t e, t < Try.prog.types.size → Try.prog.underlying t = some (.slice e) → 0 < Try.prog.cellsOf e := slices_full_of Try.prog (by kernel_rfl)

set_option maxRecDepth 100000 in
theorem scoreEnds_lifted (os : Os) (started : os.Started) (H : Type) (enc : TypeId × Value → H) :
    ReturnsInHanded {} Try.checked os 9 .any (Rows.scoreEndsSpec.pre6 enc Try.prog Try.f9 Rows.scoreEndsRow.domain false) (Rows.scoreEndsSpec.post enc Try.prog Try.f9 false true false false) := by
  refine returnsInHanded_of_change (C := Try.checked) own started (by kernel_rfl) Try.func9
    (ChangeSpec.witness6 (enc := enc) (C := Try.checked) false ⟨#[], #[.agg #[.int .i64 0, .slice none 0 0, .slice none 0 0], .slice none 0 0], []⟩ 8 (by kernel_rfl) (by kernel_rfl) (by kernel_rfl) (by kernel_rfl)) ?_
  intro W base args ds gs before hval0 hW hcnd _
  have hval : ∀ (j : Nat) t v, Try.f9.params[j]? = some t → args[j]? = some v → Value.okWide Try.prog W .any base t v := hval0
  have hW' := hW
  obtain ⟨p, q, hA0, hV, hpq, hfz, hnd⟩ := hW'
  have hA : DataW.TrodAll enc Try.prog W 0 (fun _ => true) true Try.f9.params.toList args.toList ds p := hA0
  rw [Try.params9] at hA hval
  obtain ⟨v0, v1, d0, d1, p0, p1, rfl, rfl, hp, h0, h1⟩ := trodAll_two hA
  obtain ⟨_, _, _, ⟨a0x, rfl⟩, ⟨a0y, rfl, k0y⟩, ⟨a0z, rfl, k0z, j0z⟩, r0⟩ := rel_struct3 Try.underlying42 (by kernel_rfl) ⟨rfl, rfl, rfl⟩ cells3 cells22 cells40 (reads_int Try.underlying3) (reads_ints Try.underlying22 Try.underlying3 cells3) (reads_intss Try.underlying40 Try.underlying22 Try.underlying3 cells22 cells3) (hval 0 42 v0 rfl rfl) h0
  obtain ⟨_, ⟨a1, rfl, k1, j1⟩, r1⟩ := rel_read (reads_intsss Try.underlying43 Try.underlying40 Try.underlying22 Try.underlying3 cells40 cells22 cells3) (slice_cells Try.underlying43 (hval 1 43 v1 rfl rfl)) h1
  exact calls_law (s := Rows.scoreEndsSpec) (Ds := [.agg [i64 a0x, ints a0y, intss a0z], .list (a1.map intss)]) rfl rfl Try.underlying4 ⟨rfl, rfl, rfl⟩ laid_ok maps_ok full_ok (by rw [Try.params9]; decide +kernel) hW (ends_law a0x a0y a0z a1) rfl (fun q x hx => by
    match q, hx with
    | 0, hx => cases hx; exact r0
    | 1, hx => cases hx; exact r1)

theorem scoreEnds_holds : Rows.ScoreEndsSaid :=
  OpenClaim.holds_of_wide 9 Try.f9 rfl rfl rfl rfl rfl rfl rfl ⟨rfl, rfl, rfl, rfl, rfl⟩ rfl rfl rfl rfl rfl (by kernel_rfl) Try.func9 (by kernel_rfl)
    (of_decide_eq_true (by kernel_rfl)) (by unfold Func.isWrapper; first | (rw [if_pos (by decide +kernel)]; kernel_rfl) | (rw [if_neg (by decide +kernel)]; exact ⟨rfl, rfl⟩))
    (fun os started H enc _ => scoreEnds_lifted os started H enc)
#print axioms scoreEnds_holds
end Go.Proofs.Ythamljpomhjepaa
end
