import Derived.Test.YtdbiiegohemahaaDoorRg
set_option linter.unusedVariables false
set_option linter.unusedSimpArgs false
set_option maxRecDepth 100000
namespace Go.Proofs.YtdbiiegohemahaaDoor
open Go.ChangeShapes Go.WideShapes Go.ChangeAt Go.RowKit Go.Ab
section
variable {H : Type} {enc : TypeId × Value → H} {W : World}
theorem rd_ints : ReadsN enc Tryd.prog W 86 1 (fun ds => ∃ l : List Int, ds = [ints l] ∧ l.length ≤ 9223372036854775807) :=
  readsN_list Tryd.underlying86 (by kernel_rfl) (by decide) rd_int (fun ds ⟨c, h⟩ _ => ⟨c, h.symm⟩)
theorem arg_ints {base : Nat} {v : Value} {d : DataW H} {ps : List MemPlace} (hval : Value.okWide Tryd.prog W .any base 86 v) (h : DataW.Trod enc Tryd.prog W 0 (fun _ => true) true 86 v d ps) : ∃ xs : List Int, xs.length ≤ 9223372036854775807 ∧ Rel W (gAll W) v (ints xs) := by
  obtain ⟨a0, l0, c0, rfl⟩ := okWide_slice Tryd.underlying86 hval
  obtain ⟨x, ⟨l, hx, hl⟩, hr⟩ := relN_one rd_ints rfl h
  cases hx
  exact ⟨l, hl, hr⟩
end
end Go.Proofs.YtdbiiegohemahaaDoor
