/- The law ScoreNear returns true for every input (a list of whole numbers, a step and another list), and leaves its arguments as they were.
Its conditions: none beyond those of the given row, which are the ones that the statement itself names. -/
import Derived.Test.YthamljpomhjepaaL5
import Derived.Test.YthamljpomhjepaaRw
set_option linter.unusedVariables false
set_option linter.unusedSimpArgs false
namespace Go.Proofs.Ythamljpomhjepaa
open Go.ChangeShapes Go.WideShapes Go.ChangeAt Go.RowKit Go.Ab
theorem own : ownKnob Try.prog.godebug = none := by kernel_rfl
theorem cells3 : Try.prog.cellsOf 3 = 1 := by kernel_rfl
theorem laid_ok : laidOutB Try.prog = true := by kernel_rfl
theorem maps_ok : mapsRowed Try.prog = true := by kernel_rfl
theorem full_ok : ∀ t e, t < Try.prog.types.size → Try.prog.underlying t = some (.slice e) → 0 < Try.prog.cellsOf e := slices_full_of Try.prog (by kernel_rfl)

set_option maxRecDepth 100000 in
theorem scoreNear_lifted (os : Os) (started : os.Started) (H : Type) (enc : TypeId × Value → H) :
    ReturnsInHanded {} Try.checked os 6 .any (Rows.scoreNearSpec.pre6 enc Try.prog Try.f6 Rows.scoreNearRow.domain false) (Rows.scoreNearSpec.post enc Try.prog Try.f6 false true false false) := by
  refine returnsInHanded_of_change (C := Try.checked) own started (by kernel_rfl) Try.func6
    (ChangeSpec.witness6 (enc := enc) (C := Try.checked) false ⟨#[], #[.slice none 0 0, .int .i64 0, .slice none 0 0], []⟩ 8 (by kernel_rfl) (by kernel_rfl) (by kernel_rfl) (by kernel_rfl)) ?_
  intro W base args ds gs before hval0 hW hcnd _
  have hval : ∀ (j : Nat) t v, Try.f6.params[j]? = some t → args[j]? = some v → Value.okWide Try.prog W .any base t v := hval0
  have hW' := hW
  obtain ⟨p, q, hA0, hV, hpq, hfz, hnd⟩ := hW'
  have hA : DataW.TrodAll enc Try.prog W 0 (fun _ => true) true Try.f6.params.toList args.toList ds p := hA0
  rw [Try.params6] at hA hval
  obtain ⟨v0, v1, v2, d0, d1, d2, p0, p1, p2, rfl, rfl, hp, h0, h1, h2⟩ := trodAll_three hA
  obtain ⟨a0, k0, r0⟩ := rel_ints Try.underlying22 Try.underlying3 cells3 (hval 0 22 v0 rfl rfl) h0
  obtain ⟨a1, _, r1⟩ := rel_int Try.underlying3 (hval 1 3 v1 rfl rfl) h1
  obtain ⟨a2, k2, r2⟩ := rel_ints Try.underlying22 Try.underlying3 cells3 (hval 2 22 v2 rfl rfl) h2
  exact calls_law (s := Rows.scoreNearSpec) (Ds := [ints a0, i64 a1, ints a2]) rfl rfl Try.underlying4 ⟨rfl, rfl, rfl⟩ laid_ok maps_ok full_ok (by rw [Try.params6]; decide +kernel) hW (near_law a0 a1 a2 k0 k2) rfl (fun q x hx => by
    match q, hx with
    | 0, hx => cases hx; exact r0
    | 1, hx => cases hx; exact r1
    | 2, hx => cases hx; exact r2)

theorem scoreNear_holds : Rows.ScoreNearSaid :=
  OpenClaim.holds_of_wide 6 Try.f6 rfl rfl rfl rfl rfl rfl rfl ⟨rfl, rfl, rfl, rfl, rfl⟩ rfl rfl rfl rfl rfl (by kernel_rfl) Try.func6 (by kernel_rfl)
    (of_decide_eq_true (by kernel_rfl)) (by unfold Func.isWrapper; first | (rw [if_pos (by decide +kernel)]; kernel_rfl) | (rw [if_neg (by decide +kernel)]; exact ⟨rfl, rfl⟩))
    (fun os started H enc _ => scoreNear_lifted os started H enc)
#print axioms scoreNear_holds
end Go.Proofs.Ythamljpomhjepaa
