/- The law GlassSpoilt returns true for every input (a list of readings, which byte, and the new digit), and leaves its arguments as they were; the card ties the listed tables to the program's text.
Its conditions: those of the given row alone (the listed package variables start as the program's text lays them). -/
import Derived.Test.YtdbiiegohemahaaGreatDoorV8
import Derived.Test.YtdbiiegohemahaaGreatDoorRg
import Derived.Test.YtdbiiegohemahaaGreatDoorCards
import Derived.Carry
namespace Go.Proofs.YtdbiiegohemahaaGreatDoor
open Go.ChangeShapes Go.WideShapes Go.ChangeAt Go.RowKit Go.Ab
set_option maxRecDepth 100000 in
theorem glassSpoilt_lifted (os : Os) (started : os.Started) (H : Type) (enc : TypeId × Value → H) :
    ReturnsInHanded {} Tryz.checked os 5 .any (fun w args => (Rows.glassSpoiltSpec.pre enc Tryz.prog Tryz.f5 [] false w args ∧ laidMetH Tryz.prog laid5 w) ∧ sizedMet enc Tryz.prog Tryz.f5 (OpenSpec.ofChange Rows.glassSpoiltSpec) false w args)
      (Rows.glassSpoiltSpec.post enc Tryz.prog Tryz.f5 false true false false) := by
  refine returnsInHanded_of_change_and (C := Tryz.checked) (X := fun w _ => laidMetH Tryz.prog laid5 w) (fun _ _ _ hh h => h.of_heap hh) own started (by kernel_rfl) Tryz.func5
    (ChangeSpec.witness_shaped (enc := enc) (C := Tryz.checked) (os := os) (X := fun w _ => laidMetH Tryz.prog laid5 w) false (World.laidAll Tryz.prog os laid5) #[.slice none 0 0, .int .i64 0, .int .i64 0] 8 (World.laidAll_os _ _ _) (World.shaped_of_ZipB (by kernel_rfl) (by kernel_rfl)) (by kernel_rfl) (by kernel_rfl) (by kernel_rfl) (all_met os _)) ?_
  intro W base args ds gs before hval0 hW _ _ hL _
  have hval : ∀ (j : Nat) t v, Tryz.f5.params[j]? = some t → args[j]? = some v → Value.okWide Tryz.prog W .any base t v := hval0
  have hW' := hW
  obtain ⟨p, q, hA0, hV, hpq, hfz, hnd⟩ := hW'
  have hA : DataW.TrodAll enc Tryz.prog W 0 (fun _ => true) true Tryz.f5.params.toList args.toList ds p := hA0
  rw [Tryz.params5] at hA hval
  obtain ⟨v0, v1, v2, d0, d1, d2, p0, p1, p2, rfl, rfl, hp, h0, h1, h2⟩ := trodAll_three hA
  obtain ⟨a0, k0, r0⟩ := arg_rds (hval 0 22 v0 rfl rfl) h0
  obtain ⟨a1, r1⟩ := arg_int (hval 1 3 v1 rfl rfl) h1
  obtain ⟨a2, r2⟩ := arg_int (hval 2 3 v2 rfl rfl) h2
  exact calls_law (s := Rows.glassSpoiltSpec) (Ds := [.list (a0.map rdD), i64 a1, i64 a2]) rfl rfl Tryz.underlying4 ⟨rfl, rfl, rfl⟩ laid_ok maps_ok full_ok (by rw [Tryz.params5]; decide +kernel) (tab_of_laid hL) hW (spoilt_law a0 k0 a1 a2) rfl (fun q x hx => by
    match q, hx with
    | 0, hx => cases hx; exact r0
    | 1, hx => cases hx; exact r1
    | 2, hx => cases hx; exact r2)
theorem glassSpoilt_row : Rows.GlassSpoiltSaid :=
  OpenClaim.holds_of_wide 5 Tryz.f5 rfl rfl rfl rfl rfl rfl rfl ⟨rfl, rfl, rfl, rfl, rfl⟩ rfl rfl rfl rfl rfl (by kernel_rfl) Tryz.func5 (by kernel_rfl)
    (of_decide_eq_true (by kernel_rfl)) (by unfold Func.isWrapper; first | (rw [if_pos (by decide +kernel)]; kernel_rfl) | (rw [if_neg (by decide +kernel)]; exact ⟨rfl, rfl⟩))
    (fun os started H enc _ => glassSpoilt_lifted os started H enc)
set_option maxRecDepth 100000 in
theorem glassSpoilt_holds : Rows.GlassSpoiltCardSaid :=
  Claim7.holds_tied_plain_at .later [] [.data, .data, .data, .data, .pinned] true (true, "169b0f0f8853be5edb32d6b1cfbc4bc5e5f9a1addd92be32cb6bf009dd36165c") true
    glassSpoilt_row (fun _ h => by cases h) (by kernel_rfl) (fun _ h => by cases h) glassSpoilt_row_tie rfl ⟨rfl, rfl⟩ (by kernel_rfl) rfl
    (fun f fn hf hfn => by
      obtain rfl : f = 5 := Option.some.inj ((show Tryz.prog.funcNamed "isobar/isobarlaw01.GlassSpoilt" = some 5 by kernel_rfl).symm.trans hf) |>.symm
      obtain rfl : fn = Tryz.f5 := (Option.some.inj (Tryz.func5.symm.trans hfn)).symm
      exact ⟨by kernel_rfl, fun j t ht => by
        rw [Tryz.params5] at ht
        have hm : t ∈ [22, 3] := by have hh := Array.mem_of_getElem? ht; simp only [List.mem_toArray, List.mem_cons, List.not_mem_nil, or_false] at hh ⊢; rcases hh with rfl | rfl | rfl <;> simp
        have hall : ([22, 3].all fun u => !Tryz.prog.wantsStandIn u) = true := by kernel_rfl
        exact (show Tryz.prog.wantsStandIn t = false by simpa using List.all_eq_true.1 hall t hm)⟩)
    (by kernel_rfl)
#print axioms glassSpoilt_holds
end Go.Proofs.YtdbiiegohemahaaGreatDoor
