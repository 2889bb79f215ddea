/- The law ScorePays returns true for every input (a pay of three numbers, a number, a list of numbers and a step), and leaves its arguments as they were.
Its conditions: none beyond those of the given row, which are the ones that the statement itself names. -/
import Derived.Test.YthamljpomhjepaaL4
import Derived.Test.YthamljpomhjepaaRx
set_option linter.unusedVariables false
set_option linter.unusedSimpArgs false
namespace Go.Proofs.Ythamljpomhjepaa
open Go.ChangeShapes Go.WideShapes Go.ChangeAt Go.RowKit Go.Ab
theorem own : ownKnob Try.prog.godebug = none := by kernel_rfl
theorem cells3 : Try.prog.cellsOf 3 = 1 := by kernel_rfl
theorem laid_ok : laidOutB Try.prog = true := by kernel_rfl
theorem maps_ok : mapsRowed Try.prog = true := by kernel_rfl
theorem full_ok : ∀ t e, t < Try.prog.types.size → Try.prog.underlying t = some (.slice e) → 0 < Try.prog.cellsOf e := slices_full_of Try.prog (by kernel_rfl)

set_option maxRecDepth 100000 in
theorem scorePays_lifted (os : Os) (started : os.Started) (H : Type) (enc : TypeId × Value → H) :
    ReturnsInHanded {} Try.checked os 14 .any (Rows.scorePaysSpec.pre6 enc Try.prog Try.f14 Rows.scorePaysRow.domain false) (Rows.scorePaysSpec.post enc Try.prog Try.f14 false true false false) := by
  refine returnsInHanded_of_change (C := Try.checked) own started (by kernel_rfl) Try.func14
    (ChangeSpec.witness6 (enc := enc) (C := Try.checked) false ⟨#[], #[.agg #[.int .i64 0, .int .i64 0, .int .i64 0], .int .i64 0, .slice none 0 0, .int .i64 0], []⟩ 8 (by kernel_rfl) (by kernel_rfl) (by kernel_rfl) (by kernel_rfl)) ?_
  intro W base args ds gs before hval0 hW hcnd _
  have hval : ∀ (j : Nat) t v, Try.f14.params[j]? = some t → args[j]? = some v → Value.okWide Try.prog W .any base t v := hval0
  have hW' := hW
  obtain ⟨p, q, hA0, hV, hpq, hfz, hnd⟩ := hW'
  have hA : DataW.TrodAll enc Try.prog W 0 (fun _ => true) true Try.f14.params.toList args.toList ds p := hA0
  rw [Try.params14] at hA hval
  obtain ⟨v0, v1, v2, v3, d0, d1, d2, d3, p0, p1, p2, p3, rfl, rfl, hp, h0, h1, h2, h3⟩ := trodAll_four hA
  obtain ⟨_, _, _, ⟨a0x, rfl⟩, ⟨a0y, rfl⟩, ⟨a0z, rfl⟩, r0⟩ := rel_struct3 Try.underlying83 (by kernel_rfl) ⟨rfl, rfl, rfl⟩ cells3 cells3 cells3 (reads_int Try.underlying3) (reads_int Try.underlying3) (reads_int Try.underlying3) (hval 0 83 v0 rfl rfl) h0
  obtain ⟨a1, _, r1⟩ := rel_int Try.underlying3 (hval 1 3 v1 rfl rfl) h1
  obtain ⟨a2, k2, r2⟩ := rel_ints Try.underlying22 Try.underlying3 cells3 (hval 2 22 v2 rfl rfl) h2
  obtain ⟨a3, _, r3⟩ := rel_int Try.underlying3 (hval 3 3 v3 rfl rfl) h3
  exact calls_law (s := Rows.scorePaysSpec) (Ds := [.agg [i64 a0x, i64 a0y, i64 a0z], i64 a1, ints a2, i64 a3]) rfl rfl Try.underlying4 ⟨rfl, rfl, rfl⟩ laid_ok maps_ok full_ok (by rw [Try.params14]; decide +kernel) hW (pays_law a0x a0y a0z a1 a3 a2 k2) rfl (fun q x hx => by
    match q, hx with
    | 0, hx => cases hx; exact r0
    | 1, hx => cases hx; exact r1
    | 2, hx => cases hx; exact r2
    | 3, hx => cases hx; exact r3)

theorem scorePays_holds : Rows.ScorePaysSaid :=
  OpenClaim.holds_of_wide 14 Try.f14 rfl rfl rfl rfl rfl rfl rfl ⟨rfl, rfl, rfl, rfl, rfl⟩ rfl rfl rfl rfl rfl (by kernel_rfl) Try.func14 (by kernel_rfl)
    (of_decide_eq_true (by kernel_rfl)) (by unfold Func.isWrapper; first | (rw [if_pos (by decide +kernel)]; kernel_rfl) | (rw [if_neg (by decide +kernel)]; exact ⟨rfl, rfl⟩))
    (fun os started H enc _ => scorePays_lifted os started H enc)
#print axioms scorePays_holds
end Go.Proofs.Ythamljpomhjepaa
