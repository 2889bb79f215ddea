import Derived.Test.YthamljpomhjepaaAbV
set_option linter.unusedVariables false
set_option linter.unusedSimpArgs false
namespace Go.Ab
open Go.RowKit
/-- A region that draws its order, by a state for each set of operations that are done. -/
theorem abs_flow {c : Ctx} {id : Nat} {l : List Oper} {Q : Exit → St → Prop} {s : St} {ι : Type} (hm : c.P.follows .mixedOrders = true) (hc : c.l = none) (hB : flowB l.toArray = true) (st : ι → (Nat → Bool) → St) (ok : ι → (Nat → Bool) → Prop)
    (nm : ∀ i L, (st i L).named) (hβ : ∀ i L, c.β0.length ≤ (st i L).bx.length) (i0 : ι) (h0 : ok i0 (fun _ => false)) (hle : Le s (st i0 fun _ => false))
    (step : ∀ i L j o, closedL l.toArray L → ok i L → l[j]? = some o → L j = false → (∀ e ∈ o.after, Region.binds .any e = true → L e.on = true) → stepOp c.P o (st i L) (fun s' => ∃ i', ok i' (fun q => decide (q = j) || L q) ∧ Le s' (st i' (fun q => decide (q = j) || L q))))
    (done : ∀ i L, ok i L → (∀ j, j < l.length → L j = true) → Q .normal (st i L)) : Abs c (.region id l.toArray true) Q s := by
  intro a w hr
  have hF : c.F = Fence.wide := by unfold Ctx.F; rw [hc]; rfl
  rw [hF]
  refine wpIn_region_flowC hm hB (fun L a w => ∃ i, ok i L ∧ R c (st i L) a w) ⟨i0, h0, (RG.drewTick hr).le hle (nm _ _) (hβ _ _)⟩ (fun L j o hC ho hL hdep a w hI => ?_) (fun L a w hL hI => ?_)
  · obtain ⟨i, hok, g, hg⟩ := hI
    have h := step i L j o hC hok (by simpa using ho) hL hdep
    rw [← hF]
    exact Oper.wpIn_mono (fun a' w' ⟨s', hr', i', hk, hl⟩ => ⟨i', hk, hr'.le hl (nm _ _) (hβ _ _)⟩) (op_in (step_nodefer h) (step_sound hg h))
  · obtain ⟨i, hok, hr⟩ := hI
    exact ⟨_, hr, done i L hok (by simpa using hL)⟩
end Go.Ab
