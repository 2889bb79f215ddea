/- The law ScoreClimate returns true for every input (a suite, a district and other parts), and leaves its arguments as they were.
Its conditions: none beyond those of the given row, which are the ones that the statement itself names. -/
import Derived.Test.YthamljpomhjepaaQ11
import Derived.Test.YthamljpomhjepaaKn
import Derived.Test.YthamljpomhjepaaRx
set_option linter.unusedVariables false
set_option linter.unusedSimpArgs false
section
namespace Go.Proofs.Ythamljpomhjepaa
open Go.Ab
attribute [local irreducible] Abs CallK CallR CallsTo

set_option maxRecDepth 100000 in
set_option maxHeartbeats 4000000 in
theorem climate_out (c : Int) (W : List Int) (S : List (List Int)) (k : Int) (o : List Int) (ho : o.length ≤ 9223372036854775807) (h : ¬ (Shrt W S ∧ Suite c W S ∧ (0 ≤ k ∧ k < W.length) ∧ Parts o ∧ (o.length : Int) = c)) :
    CallsTo Try.prog 10 [.agg [i64 c, ints W, intss S], i64 k, ints o] (.bool true) := by
  refine calls_abs Try.func10 Try.ntmps10 Try.results10 Try.call10 rfl (by simp) fun w0 S0 M0 => ?_
  repeat' (first
      | refine abs_seq ?_
      | refine abs_block ?_
      | refine abs_skip ?_
      | refine abs_exit ?_
      | refine abs_ret ?_
      | ((first | refine abs_region fun K hK => ?_ | refine abs_draw Try.ty.mixed (by kernel_rfl) fun K hK => ?_ | refine abs_if ?_ | show retQ _ _ _ _ _ | refine callK (known_ok) ?_ | refine callK (short_ok c W S) ?_ | refine callK (suite_ok c W S (by have h := ‹Shrt W S›; have := h.2.2; omega) (by have h := ‹Shrt W S›; have := h.2.1; omega)) ?_ | refine callK (district_ok c k W S (by have h := ‹Shrt W S›; have := h.2.2; omega)) ?_ | refine callK (parts_ok o ho) ?_); simp -implicitDefEqProofs only [go_sem, bas, basL, Nat.reduceAdd, Nat.reduceSub, Nat.reduceMul, Nat.reduceLT, Nat.reduceLeDiff, Nat.reduceEqDiff, Nat.reduceBEq, Int.reduceLT, Int.reduceLE, Int.reduceToNat, Int.reduceAdd, Int.reduceSub, Int.reduceMul, Int.reduceNeg, Int.reduceEq, reduceCtorEq, eq_self, ne_eq, not_false_eq_true, if_true, reduceIte])
      | ((first | (refine hK _ ?_; clear hK K) | show thenQ _ _ _ _ | show blockQ _ _ _ _); simp only [thenQ, blockQ, if_true, Nat.reduceEqDiff, reduceIte])
      | (intro hg; first | (exfalso; omega) | (exfalso; contradiction) | skip)
      | apply And.intro
      | (with_reducible rfl)
      | (clear hK; omega)
      | omega)
  all_goals exact absurd ⟨by assumption, by assumption, by assumption, by assumption, by omega⟩ h
set_option maxRecDepth 100000 in
set_option maxHeartbeats 4000000 in
theorem climate_in (c : Int) (W : List Int) (S : List (List Int)) (k : Nat) (o : List Int) (ho : o.length ≤ 9223372036854775807) (h1 : Shrt W S) (hs : Suite c W S) (hk : k < W.length) (hp : Parts o) (hc0 : (o.length : Int) = c) :
    CallsTo Try.prog 10 [.agg [i64 c, ints W, intss S], i64 k, ints o] (.bool true) := by
  have hS := hs.2.2.1
  have hW := hs.2.1.2
  have hc := hs.1
  have a1 := short_ok c W S
  have a2 := suite_ok c W S (by omega) (by omega)
  have a3 := district_ok c k W S (by omega)
  have a4 := parts_ok o ho
  rw [decide_eq_true h1] at a1
  rw [decide_eq_true hs] at a2
  rw [decide_eq_true ⟨by omega, by omega⟩] at a3
  rw [decide_eq_true hp] at a4
  have hcp := clim_parts hc S k
  have b1 := pclimx_ok c W S k
  rw [if_pos ⟨hs, by omega, by omega⟩] at b1
  simp only [Int.toNat_natCast] at b1
  rw [climN_val] at b1
  have b2 := parts_ok (clim c S k) (by have := hcp.2.2.2.1; omega)
  rw [decide_eq_true hcp.2] at b2
  have b3 := alone_ok c W S k hs hk
  have b4 := constant_ok S.length (clim c S k) (by omega)
  have b5 := constant_ok S.length o (by omega)
  have s0 := al_suite hs hk
  have f1 := al_fore hs hk hcp.2 hcp.1
  have f2 := al_fore hs hk hp hc0
  have p1 := ptotalx_ok c [1] (alS S k S.length) (List.replicate S.length [clim c S k])
  have p2 := ptotalx_ok c [1] (alS S k S.length) (List.replicate S.length [o])
  have p3 := pskill_ok c [1] (alS S k S.length) (List.replicate S.length [clim c S k])
  rw [if_pos ⟨s0, f1⟩] at p1 p3
  rw [if_pos ⟨s0, f2⟩] at p2
  rw [al_clims, (al_zero hs hk hcp.2 hcp.1).1, (al_zero hs hk hcp.2 hcp.1).2] at p3
  rw [al_low hs hk hcp.2 hcp.1] at p1
  rw [al_low hs hk hp hc0] at p2
  have e1 := al_best (S := S) (k := k) hp hc0
  have e2 := before_ok o (clim c S k) ho
  have hl3 := hcp.2.2.2.1
  have hl4 := hcp.1
  clear hcp
  generalize daySum S k (clim c S k) S.length = n at *
  generalize daySum S k o S.length = m at *
  generalize Sd.thi ⟨c, [1], alS S k S.length, List.replicate S.length [clim c S k], none⟩ = x1 at *
  generalize Sd.thi ⟨c, [1], alS S k S.length, List.replicate S.length [o], none⟩ = x2 at *
  generalize List.replicate S.length [clim c S k] = F1 at *
  generalize List.replicate S.length [o] = F2 at *
  generalize clim c S k = l at *
  generalize alS S k S.length = S1 at *
  obtain ⟨e1, e3⟩ := e1
  refine calls_abs Try.func10 Try.ntmps10 Try.results10 Try.call10 rfl (by simp) fun w0 S0 M0 => ?_
  repeat' (first
      | refine abs_seq ?_
      | refine abs_block ?_
      | refine abs_skip ?_
      | refine abs_exit ?_
      | refine abs_ret ?_
      | ((first | (show Abs _ (.region 7 _ true) _ _; refine abs_drawD [(10, 11), (75, 11)] Try.ty.mixed (by kernel_rfl) fun K hK => ?_) | (show Abs _ (.region 8 _ true) _ _; refine abs_drawD [(10, 13), (85, 13)] Try.ty.mixed (by kernel_rfl) fun K hK => ?_) | (show Abs _ (.region 9 _ true) _ _; refine abs_drawD [(10, 15), (95, 15)] Try.ty.mixed (by kernel_rfl) fun K hK => ?_) | show Sep _ _ | refine abs_region fun K hK => ?_ | refine abs_draw Try.ty.mixed (by kernel_rfl) fun K hK => ?_ | refine abs_if ?_ | show retQ _ _ _ _ _ | refine callK (known_ok) ?_ | refine callK (a1) ?_ | refine callK (a2) ?_ | refine callK (a3) ?_ | refine callK (a4) ?_ | refine callK (b1) ?_ | refine callK (b2) ?_ | refine callK (b3) ?_ | refine callK (b4) ?_ | refine callK (b5) ?_ | refine callK (p1) ?_ | refine callK (p2) ?_ | refine callK (p3) ?_ | refine callK (e2) ?_); simp -implicitDefEqProofs only [go_sem, bas, basL, Nat.reduceAdd, Nat.reduceSub, Nat.reduceMul, Nat.reduceLT, Nat.reduceLeDiff, Nat.reduceEqDiff, Nat.reduceBEq, Int.reduceLT, Int.reduceLE, Int.reduceToNat, Int.reduceAdd, Int.reduceSub, Int.reduceMul, Int.reduceNeg, Int.reduceEq, reduceCtorEq, eq_self, ne_eq, not_false_eq_true, if_true, reduceIte])
      | ((first | (refine hK _ ?_; clear hK K) | show thenQ _ _ _ _ | show blockQ _ _ _ _); simp only [thenQ, blockQ, if_true, Nat.reduceEqDiff, reduceIte])
      | (intro hg; first | (exfalso; omega) | (exfalso; contradiction) | skip)
      | apply And.intro
      | (with_reducible rfl)
      | (clear hK; omega)
      | omega)
  all_goals (exfalso; rw [e3 (by omega)] at hg; cases hg)
theorem climate_law (c : Int) (W : List Int) (S : List (List Int)) (k : Int) (o : List Int) (ho : o.length ≤ 9223372036854775807) : CallsTo Try.prog 10 [.agg [i64 c, ints W, intss S], i64 k, ints o] (.bool true) := by
  by_cases h : Shrt W S ∧ Suite c W S ∧ (0 ≤ k ∧ k < W.length) ∧ Parts o ∧ (o.length : Int) = c
  · obtain ⟨h1, h2, h3, h4, h5⟩ := h
    obtain ⟨n, rfl⟩ : ∃ n : Nat, k = n := ⟨k.toNat, by omega⟩
    exact climate_in c W S n o ho h1 h2 (by omega) h4 h5
  · exact climate_out c W S k o ho h
end Go.Proofs.Ythamljpomhjepaa
end
section
namespace Go.Proofs.Ythamljpomhjepaa
open Go.ChangeShapes Go.WideShapes Go.ChangeAt Go.RowKit Go.Ab
theorem own : ownKnob Try.prog.godebug = none := by kernel_rfl
theorem cells3 : Try.prog.cellsOf 3 = 1 := by kernel_rfl
theorem cells22 : Try.prog.cellsOf 22 = 1 := by kernel_rfl
theorem cells40 : Try.prog.cellsOf 40 = 1 := by kernel_rfl
theorem laid_ok : laidOutB Try.prog = true := by kernel_rfl
theorem maps_ok : mapsRowed Try.prog = true := by kernel_rfl
theorem full_ok : ∀ t e, t < Try.prog.types.size → Try.prog.underlying t = some (.slice e) → 0 < Try.prog.cellsOf e := slices_full_of Try.prog (by kernel_rfl)

set_option maxRecDepth 100000 in
theorem scoreClimate_lifted (os : Os) (started : os.Started) (H : Type) (enc : TypeId × Value → H) :
    ReturnsInHanded {} Try.checked os 10 .any (Rows.scoreClimateSpec.pre6 enc Try.prog Try.f10 Rows.scoreClimateRow.domain false) (Rows.scoreClimateSpec.post enc Try.prog Try.f10 false true false false) := by
  refine returnsInHanded_of_change (C := Try.checked) own started (by kernel_rfl) Try.func10
    (ChangeSpec.witness6 (enc := enc) (C := Try.checked) false ⟨#[], #[.agg #[.int .i64 0, .slice none 0 0, .slice none 0 0], .int .i64 0, .slice none 0 0], []⟩ 8 (by kernel_rfl) (by kernel_rfl) (by kernel_rfl) (by kernel_rfl)) ?_
  intro W base args ds gs before hval0 hW hcnd _
  have hval : ∀ (j : Nat) t v, Try.f10.params[j]? = some t → args[j]? = some v → Value.okWide Try.prog W .any base t v := hval0
  have hW' := hW
  obtain ⟨p, q, hA0, hV, hpq, hfz, hnd⟩ := hW'
  have hA : DataW.TrodAll enc Try.prog W 0 (fun _ => true) true Try.f10.params.toList args.toList ds p := hA0
  rw [Try.params10] at hA hval
  obtain ⟨v0, v1, v2, d0, d1, d2, p0, p1, p2, rfl, rfl, hp, h0, h1, h2⟩ := trodAll_three hA
  obtain ⟨_, _, _, ⟨a0x, rfl⟩, ⟨a0y, rfl, k0y⟩, ⟨a0z, rfl, k0z, j0z⟩, r0⟩ := rel_struct3 Try.underlying42 (by kernel_rfl) ⟨rfl, rfl, rfl⟩ cells3 cells22 cells40 (reads_int Try.underlying3) (reads_ints Try.underlying22 Try.underlying3 cells3) (reads_intss Try.underlying40 Try.underlying22 Try.underlying3 cells22 cells3) (hval 0 42 v0 rfl rfl) h0
  obtain ⟨a1, _, r1⟩ := rel_int Try.underlying3 (hval 1 3 v1 rfl rfl) h1
  obtain ⟨a2, k2, r2⟩ := rel_ints Try.underlying22 Try.underlying3 cells3 (hval 2 22 v2 rfl rfl) h2
  exact calls_law (s := Rows.scoreClimateSpec) (Ds := [.agg [i64 a0x, ints a0y, intss a0z], i64 a1, ints a2]) rfl rfl Try.underlying4 ⟨rfl, rfl, rfl⟩ laid_ok maps_ok full_ok (by rw [Try.params10]; decide +kernel) hW (climate_law a0x a0y a0z a1 a2 k2) rfl (fun q x hx => by
    match q, hx with
    | 0, hx => cases hx; exact r0
    | 1, hx => cases hx; exact r1
    | 2, hx => cases hx; exact r2)

theorem scoreClimate_holds : Rows.ScoreClimateSaid :=
  OpenClaim.holds_of_wide 10 Try.f10 rfl rfl rfl rfl rfl rfl rfl ⟨rfl, rfl, rfl, rfl, rfl⟩ rfl rfl rfl rfl rfl (by kernel_rfl) Try.func10 (by kernel_rfl)
    (of_decide_eq_true (by kernel_rfl)) (by unfold Func.isWrapper; first | (rw [if_pos (by decide +kernel)]; kernel_rfl) | (rw [if_neg (by decide +kernel)]; exact ⟨rfl, rfl⟩))
    (fun os started H enc _ => scoreClimate_lifted os started H enc)
#print axioms scoreClimate_holds
end Go.Proofs.Ythamljpomhjepaa
end
