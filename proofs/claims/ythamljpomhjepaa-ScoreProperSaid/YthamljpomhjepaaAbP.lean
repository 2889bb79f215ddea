import Derived.Test.YthamljpomhjepaaAbO
set_option linter.unusedVariables false
set_option linter.unusedSimpArgs false
namespace Go.Ab
open Go.RowKit

theorem SG.done {T : Nat → Prop} {S : Addr → Prop} {M : MM} {w : World} : SG T S M w T S M w none :=
  ⟨rfl, rfl, rfl, Nat.le_refl _, fun _ h => h, fun _ _ _ => rfl, fun _ h => h, fun _ h _ => h, fun _ _ => rfl, fun _ _ h => h⟩

/-- An iterator whose code calls a search, and is done. -/
theorem ia_search {c : IC} {Q : Exit → Ix → St → Prop} {s : St} {id d1 d2 m : Nat} {t t1 t2 : TypeId} {p1 p2 : String} {q1 q2 : Array Edge} {at_ : Array TypeId} {f : FuncId} {e : TypeId} {A B : List D} {Y : Value} {n : Int} {out : List (List D)}
    (hbx : s.bx = [.mu [.val Y], .mu [.clo f [.ro A, .box 0 0, .ro B, .box 1 0]]]) (hm : s.sl m = .box 1 0) (hag : aggO c.P t = some false) (hd : d1 < s.n) (hd12 : d2 < s.n) (hY : Y.oneCell' = true)
    (hcf : ∀ (args : Array Value) (w : World), (callFunc f args).run c.P w = .ok (.enter f args) w)
    (hS : c.Ok → ∀ lb : List Value, lb.length = 4 → SearchC c f e lb [.ro A, .ro [.val Y], .ro B, .ro [.val (.func (.func f) #[] ⟨lb⟩)]] [] n out) (hout : ∀ q, q < out.length → c.xs[q]? = out[q]?)
    (hQ : ∀ (b : Bool) k', (b = true → k' = out.length) → Q .normal (b, k') ⟨s.n, none', [], []⟩) :
    IA c (.region id #[⟨some d1, .load t (.tmp m), t1, p1, q1, none⟩, ⟨some d2, .call ⟨.value (.tmp d1), #[.const (.slice none 0 0), .const (.int .i64 n)], at_⟩, t2, p2, q2, none⟩] false) Q (true, 0) s := by
  intro hok a w T S M hJ hir
  obtain ⟨lt, g, rfl, rfl, hg⟩ := hir
  obtain ⟨b0, vs0, t0, e1, e2, e3, e4, _⟩ := (hg.bx 0 _ (by rw [hbx]; rfl)).ex
  obtain ⟨b1, vs1, t1', f1, f2, f3, f4, _⟩ := (hg.bx 1 _ (by rw [hbx]; rfl)).ex
  have e3 : CellsR w g vs0 [.val Y] := e3
  have f3 : CellsR w g vs1 [.clo f [.ro A, .box 0 0, .ro B, .box 1 0]] := f3
  have hlt0 : b0 < w.heap.size := (Array.getElem?_eq_some_iff.1 e2).1
  have hlt1 : b1 < w.heap.size := (Array.getElem?_eq_some_iff.1 f2).1
  have hT0 : T b0 := e4.elim (fun h => h) (fun h => by omega)
  have hT1 : T b1 := f4.elim (fun h => h) (fun h => by omega)
  have hY0 : vs0.getD 0 Go.undef = Y := by
    have := (e3.2 0 _ rfl).1
    generalize vs0.getD 0 Go.undef = v at this
    cases this; rfl
  -- what the box of the search holds
  have hF := (f3.2 0 _ rfl).1
  generalize hFv : vs1.getD 0 Go.undef = Fv at hF
  cases hF with
  | clo _ _ vs _ hvl hvr =>
  obtain ⟨lb⟩ := vs
  have hlb : lb.length = 4 := by simpa using hvl
  have hvr' : ∀ (q : Nat) (d : D), [D.ro A, .box 0 0, .ro B, .box 1 0][q]? = some d → Rel w g (lb.getD q Go.undef) d := fun q d hd => by simpa using hvr q d hd
  have hc0 : w.cell? ⟨b0, 0, none⟩ = some Y := by
    rw [cell_of_row w b0 0 vs0 t0 (0, 0) e2]
    have hs : 0 < vs0.size := by rw [e3.1]; simp
    simp [hs] at hY0 ⊢; exact hY0
  have hc1 : w.cell? ⟨b1, 0, none⟩ = some (.func (.func f) #[] ⟨lb⟩) := by
    rw [cell_of_row w b1 0 vs1 t1' (0, 0) f2]
    have hs : 0 < vs1.size := by rw [f3.1]; simp
    simp [hs] at hFv ⊢; exact hFv
  have h3 : lb.getD 1 Go.undef = .pointer (some ⟨b0, 0, none⟩) := by
    have := hvr' 1 _ rfl
    generalize lb.getD 1 Go.undef = v at this
    cases this with
    | box _ _ _ b hb => rw [e1] at hb; cases hb; rfl
  have h5 : lb.getD 3 Go.undef = .pointer (some ⟨b1, 0, none⟩) := by
    have := hvr' 3 _ rfl
    generalize lb.getD 3 Go.undef = v at this
    cases this with
    | box _ _ _ b hb => rw [f1] at hb; cases hb; rfl
  have hmv : a.eval (.tmp m) = .pointer (some ⟨b1, 0, none⟩) := by
    have := hg.ev (.tmp m)
    rw [show s.ev (.tmp m) = .box 1 0 from hm] at this
    generalize a.eval (.tmp m) = v at this
    cases this with
    | box _ _ _ b hb => rw [f1] at hb; cases hb; rfl
  -- the load
  have hload : (loadVar t ⟨b1, 0, none⟩).run c.P w = .ok (.func (.func f) #[] ⟨lb⟩) w := by
    obtain ⟨v, d, h1, h2, h3⟩ := run_loadVar' (P := c.P) (w := w) (g := g) (t := t) (ad := ⟨b1, 0, none⟩) (cs := [.val (.func (.func f) #[] ⟨lb⟩)]) (u := fun _ => .func (.func f) #[] ⟨lb⟩) (k := fun d => d = .val (.func (.func f) #[] ⟨lb⟩))
      (fun q hq => by have : q = 0 := by simpa using hq
                      subst this; exact ⟨by rw [add_block]; exact hc1, rfl⟩) (fun q d hd => by
        match q, hd with
        | 0, hd => cases hd; exact .val _ _) (by unfold wTake; rw [hag]; rfl)
    subst h3
    cases h2
    exact h1
  refine wpIn_region_lit ?_
  have r1 : (Oper.semAt Fence.wide.round a.eval ⟨some d1, .load t (.tmp m), t1, p1, q1, none⟩).run c.P w = .ok (.value (.func (.func f) #[] ⟨lb⟩)) w := by
    rw [Oper.semAt_eq _ _ _ (by intro cl h; cases h)]
    simp [execOp, hmv, Instr.loadAt, Instr.sureAddr, hload]
  unfold wpListIn
  rw [if_pos (by simp [Region.wanted])]
  refine ⟨fun _ _ => trivial, ?_⟩
  rw [r1, Oper.uponIn_value]
  unfold wpListIn
  rw [if_pos (by simp [Region.wanted])]
  refine ⟨fun _ _ => trivial, ?_⟩
  have hd1v : (a.put (some d1) (.func (.func f) #[] ⟨lb⟩)).eval (.tmp d1) = .func (.func f) #[] ⟨lb⟩ := by
    have : d1 < a.tmps.size := by rw [hg.sz]; exact hd
    simp [Act.put, Act.eval, this]
  have r2 : (Oper.semAt Fence.wide.round (a.put (some d1) (.func (.func f) #[] ⟨lb⟩)).eval ⟨some d2, .call ⟨.value (.tmp d1), #[.const (.slice none 0 0), .const (.int .i64 n)], at_⟩, t2, p2, q2, none⟩).run c.P w =
      .ok (.enter f (.slice none 0 0 :: .int .i64 n :: lb).toArray) w := by
    rw [Oper.semAt_eq _ _ _ (by intro cl h; cases h)]
    have k1 : (a.put (some d1) (.func (.func f) #[] ⟨lb⟩)).eval (.const (.slice none 0 0)) = .slice none 0 0 := rfl
    have k2 : (a.put (some d1) (.func (.func f) #[] ⟨lb⟩)).eval (.const (.int .i64 n)) = .int .i64 n := rfl
    simp [execOp, resolve, hd1v, k1, k2, Deferred.ofValue, invoke, hcf]
  rw [r2, Oper.uponIn_enter]
  refine ⟨fun h => (by cases h), callsIn_wide.2 ?_⟩
  -- the two boxes count from here on
  let S2 : Addr → Prop := fun x => g.S x ∨ x = ⟨b0, 0, none⟩ ∨ x = ⟨b1, 0, none⟩
  have hgood2 : Good w S2 := fun x hx => by
    rcases hx with hx | rfl | rfl
    · exact hg.good x hx
    · exact ⟨_, hc0⟩
    · exact ⟨_, hc1⟩
  have hJ2 : JX c.J c.Jx (true, 0) T S2 g.M w := hok.ab (true, 0) _ _ _ _ _ _ _ _ hJ ⟨.of (Below.refl _ _), fun _ h => .inl h, lt, fun _ h => .inl h, fun x hx => by
    rcases hx with hx | rfl | rfl
    · exact .inl hx
    · exact .inr (.inl hT0)
    · exact .inr (.inl hT1), fun _ _ => rfl, fun _ _ h => h, fun _ _ h => .inl h, hg.df.mok, hgood2⟩
  have kk : Keeps w g.er w ⟨S2, [], [], g.M⟩ := ⟨fun _ _ => rfl, fun _ h => .inl h, fun _ _ h => h, fun _ _ h => h, fun _ _ h => h⟩
  have hcl := hS hok lb hlb T S2 g.M w 0 (.slice none 0 0) hJ2 lt hg.df.mok hgood2 (World.ownsRow_nil w 0 e 1) (fun gb hgb => by simp [Value.ownBlock] at hgb) (fun q x hx => by
    match q, hx with
    | 0, hx => cases hx; exact ((hvr' 0 _ rfl).erase trivial).keep kk
    | 1, hx =>
      cases hx
      rw [h3]
      exact .ro _ _ _ (fun _ => Y) (fun q hq => by
        have : q = 0 := by simpa using hq
        subst this
        exact ⟨by rw [add_block]; exact hc0, by rw [add_block]; exact .inr (.inl rfl), hY⟩) (fun q d hd => by
        match q, hd with
        | 0, hd => cases hd; exact .val _ _)
    | 2, hx => cases hx; exact ((hvr' 2 _ rfl).erase trivial).keep kk
    | 3, hx =>
      cases hx
      rw [h5]
      exact .ro _ _ _ (fun _ => .func (.func f) #[] ⟨lb⟩) (fun q hq => by
        have : q = 0 := by simpa using hq
        subst this
        exact ⟨by rw [add_block]; exact hc1, by rw [add_block]; exact .inr (.inr rfl), rfl⟩) (fun q d hd => by
        match q, hd with
        | 0, hd => cases hd; exact .val _ _)) (fun q hq => by rw [Nat.zero_add]; exact hout q hq)
  refine hcl.mono ?_
  rintro e' w' ⟨b, k', T', S', M', rfl, hJ', hk', hs', _, lt', hmok, hgood⟩
  show _
  unfold wpListIn
  refine ⟨(b, k'), ⟨s.n, none', [], []⟩, T', S', M', hJ', ⟨lt', ⟨S', [], [], M'⟩, rfl, rfl, ⟨⟨⟨?_, ?_⟩, hmok, fun _ _ h => h, fun _ _ h => .inl h, fun i b hb => by simp at hb, fun _ _ => rfl⟩, by simp [Act.put, hg.sz], .of (Below.refl _ _), fun _ h => .inr h, hgood, fun _ h => .inl h, fun _ h => h, hgood, rfl, rfl,
    fun m => .undef _ _, fun i cs hi => by simp at hi, fun i cs hi => by simp at hi, fun r row hr => by simp at hr, ⟨fun _ => .inl 0, fun i x b hi => by simp at hi, fun r row v gb hr => by simp at hr⟩⟩⟩, hQ b k' (fun h => by rw [hk' h]; omega)⟩
  · exact hg.df.dok.1
  · intro d hd
    obtain ⟨D', hB, rfl, hD⟩ := hg.df.dok.2 d hd
    have hlt := (Array.getElem?_eq_some_iff.1 hD).1
    have hTD : T D' := hB.elim (fun h => h) (fun h => by omega)
    exact ⟨D', .inl (hs'.t1 _ hTD), rfl, (hs'.keep D' hTD (by simp [Value.ownBlock])).trans hD⟩
end Go.Ab
