import Derived.Test.YtmnepfejoneghaaGreatDoorK06
import Derived.Test.YtmnepfejoneghaaGreatDoorK11
import Derived.Test.YtmnepfejoneghaaGreatDoorK12
import Derived.Test.YtmnepfejoneghaaGreatDoorK13
set_option linter.unusedVariables false
set_option linter.unusedSimpArgs false
namespace Go.Ab
open Go.RowKit
section
variable {c : Ctx} {s : St} {a : Act} {w : World} {g : Gh}
/-- A slice that nothing else lies in is taken for a row of the call's own. -/
theorem RG.pushRow0 {v : Value} {xs : List D} {e : TypeId} {sz : Nat} {vals : List Value} (h : RG c s a w g) (hrel : Rel w g v (.list xs)) (hown : w.ownsRow 0 e sz v xs.length vals) (hcl : ∀ x ∈ xs, x.cells.length = sz)
    (hS : ∀ gb, v.ownBlock = some gb → c.own gb ∧ ∀ x, g.S x → x.block = gb → x.off < xs.length * sz)
    (hb1 : ∀ gb, v.ownBlock = some gb → ∀ (i : Nat) (x : Bx) (b : Nat), s.bx[i]? = some x → x.live = true → g.β[i]? = some b → b ≠ gb)
    (hb2 : ∀ gb, v.ownBlock = some gb → ∀ (r : Nat) (row : Row) (v2 : Value) (g2 : Nat), s.rw[r]? = some row → row.live = true → g.ρ[r]? = some v2 → v2.ownBlock = some g2 → g2 ≠ gb) :
    RG c { s with rw := s.rw ++ [⟨true, e, sz, xs⟩] } a w ⟨g.S, g.β, g.ρ ++ [v], g.M⟩ := by
  have k : Keeps w g w ⟨g.S, g.β, g.ρ ++ [v], g.M⟩ := ⟨fun _ _ => rfl, fun _ h => h, fun _ _ h => h, fun i b hi => by
    rw [List.getElem?_append_left (List.getElem?_eq_some_iff.1 hi).1]; exact hi, fun _ _ h => h⟩
  have hold : ∀ (i : Nat) (x : Row), (s.rw ++ [⟨true, e, sz, xs⟩])[i]? = some x → s.rw[i]? = some x ∧ i < s.rw.length ∨ x = ⟨true, e, sz, xs⟩ ∧ i = s.rw.length := fun i x hi => by
    rcases Nat.lt_or_ge i s.rw.length with hlt | hge
    · rw [List.getElem?_append_left hlt] at hi; exact .inl ⟨hi, hlt⟩
    · rw [List.getElem?_append_right hge] at hi
      have : i - s.rw.length = 0 := by have := (List.getElem?_eq_some_iff.1 hi).1; simp at this; omega
      rw [this] at hi; simp at hi; exact .inr ⟨hi.symm, by omega⟩
  have hn : (g.ρ ++ [v])[s.rw.length]? = some v := by rw [← h.lρ]; simp
  refine ⟨h.df.gh rfl, h.sz, h.below, h.own0, h.good, h.from0, h.S0, h.good0, h.lβ, by simp [h.lρ], fun n => (h.sl n).keep k, ?_, ?_, ?_, ?_⟩
  · intro i cs hi
    obtain ⟨b, vs, t, e1, e2, e3, e4, e5, e6⟩ := (h.bx i cs hi).ex
    exact ⟨b, vs, t, e1, e2, e3.keep k, e4, e5, e6⟩
  · intro i cs hi
    obtain ⟨b, vs, t, e1, e2, e3, e4, e5, e6⟩ := (h.fz i cs hi).ex
    exact ⟨b, vs, t, e1, e2, e3, e4, e5, e6⟩
  · intro r row hr
    rcases hold r _ hr with ⟨hr, _⟩ | ⟨rfl, rfl⟩
    · obtain ⟨v, e1, e2, e3⟩ := (h.rw r row hr).ex
      exact ⟨v, k.ρ _ _ e1, e2.keep k, e3⟩
    · exact ⟨_, hn, hrel.keep k, fun _ => ⟨⟨vals, hown⟩, hcl, hS⟩⟩
  · obtain ⟨κ, k1, k2⟩ := h.ap
    refine ⟨fun b => if v.ownBlock = some b then .inr s.rw.length else κ b, fun i x b hi hx hb => ?_, fun r row v2 gb hr hl hv hgb => ?_⟩
    · simp only
      rw [if_neg (fun e => hb1 b e i x b hi hx hb rfl)]
      exact k1 i x b hi hx hb
    · rcases hold r _ hr with ⟨hr, hlt⟩ | ⟨rfl, rfl⟩
      · rw [List.getElem?_append_left (by rw [h.lρ]; exact hlt)] at hv
        simp only
        rw [if_neg (fun e => hb2 gb e r row v2 gb hr hl hv hgb rfl)]
        exact k2 r row v2 gb hr hl hv hgb
      · rw [hn] at hv; cases hv
        simp only
        rw [if_pos hgb]
/-- A region that starts with a new empty slice. -/
theorem abs_region_row0 {id d : Nat} {t e : TypeId} {ty : TypeId} {pos : String} {aft : Array Edge} {l : List Oper} {Q : Exit → St → Prop} (he : elemOf c.P t = some e) (hz : szOf c.P e ≠ 0) (hd : d < s.n)
    (h : ∀ K : St → Prop, (∀ s', Q .normal s' → K s') → evOps c.P (⟨some d, .buildSlice t 0 #[], ty, pos, aft, none⟩ :: l) l (St.put { s with rw := s.rw ++ [⟨true, e, szOf c.P e, []⟩] } (some d) (.own s.rw.length)) K) :
    Abs c (.region id (⟨some d, .buildSlice t 0 #[], ty, pos, aft, none⟩ :: l).toArray false) Q s := by
  rintro a w ⟨g, hg⟩
  refine wpIn_region_lit ?_
  obtain ⟨o, ho⟩ : ∃ o : Oper, o = ⟨some d, .buildSlice t 0 #[], ty, pos, aft, none⟩ := ⟨_, rfl⟩
  rw [← ho] at h ⊢
  unfold wpListIn
  rw [if_pos (by rw [ho]; simp [Region.wanted])]
  have hrun : (execOp a.eval o).run c.P w = .ok (.value (.slice (some ⟨w.heap.size, 0, none⟩) 0 0)) (w.alloc (.cells #[] e)) := by
    have r0 : Array.range 0 = #[] := rfl
    rw [ho]
    simp [execOp, Instr.buildSlice, run_underlying (elemOf_u he), run_sizeOf hz, newRow, r0, Instr.fill]
  have hlt : ∀ {b}, b < w.heap.size → b ≠ w.heap.size := fun h e => by omega
  have hb := below_alloc w (.cells #[] e)
  have hw := hg.world hb (fun _ h => h) (fun _ h => .inl h) (hg.good.below hb)
  have hp := hw.pushRow0 (v := .slice (some ⟨w.heap.size, 0, none⟩) 0 0) (xs := []) (e := e) (sz := szOf c.P e) (vals := [])
    (.list _ _ 0 0 [] (szOf c.P e) (fun _ => Go.undef) rfl (by simp) (Nat.le_refl 0) (fun q hq => by simp [flat] at hq) (fun q d hd => by simp [flat] at hd))
    ⟨by simp, .inr ⟨w.heap.size, 0, #[], rfl, Nat.zero_le _, heap_alloc_new w _, Nat.le_refl _, Nat.zero_le _, by simp, by simp⟩⟩ (by simp)
    (fun gb hgb => by
      simp [Value.ownBlock] at hgb
      subst hgb
      exact ⟨hg.own0 _ hg.below.size, fun x hx e => by have := hg.good.lt hx; omega⟩)
    (fun gb hgb i x b hi hx hb => by
      simp [Value.ownBlock] at hgb
      subst hgb
      exact hlt (hg.boxlt hi hx hb).1)
    (fun gb hgb r row v2 g2 hr hl hv h2 => by
      simp [Value.ownBlock] at hgb
      subst hgb
      exact hlt (hg.rowlt hr hl hv h2).1)
  refine op_in (by rw [ho]; intro cl h; cases h) ?_
  unfold Oper.wp
  rw [hrun]
  have hdst : o.dst = some d := by rw [ho]
  show wpListIn c.F 0 c.P (o :: l).toArray (fun e a' w' => ∃ s', R c s' a' w' ∧ Q e s') l (a.put o.dst _) _
  rw [hdst]
  refine evOps_sound (K := Q .normal) (fun s a w hr hq => ⟨s, hr, hq⟩) l _ _ _ ⟨_, RG.put (s := { s with rw := s.rw ++ [⟨true, e, szOf c.P e, []⟩] }) (dst := some d) (d := .own s.rw.length) hp hd (.own _ _ _ ?_)⟩ (h _ (fun _ h => h))
  show (g.ρ ++ [_])[s.rw.length]? = _
  rw [← hg.lρ]; simp
end
end Go.Ab
namespace Go.Ab.PI
open Go.Ab Go.RowKit
/-!
  Panics whose value is a struct of one integer.
-/
/-- What such a panic holds. -/
def pchain (t : TypeId) (x : Int) : List PanicEntry := [{ v := .iface t (.agg #[.int .i64 x]), recovered := false }]
/-- A call that comes back with d, or panics (none). -/
def CallsE (P : Program) (f : FuncId) (ds : List D) (t : TypeId) (res : Option D) : Prop :=
  (∀ (args : Array Value) (w : World), (callFunc f args).run P w = .ok (.enter f args) w) ∧
  ∀ (S : Addr → Prop) (M : MM) (w : World) (args : List Value), Tab w → Good w S → MOk w M → args.length = ds.length → (∀ q x, ds[q]? = some x → Rel w ⟨S, [], [], M⟩ (args.getD q Go.undef) x) →
    Calls P f args.toArray w fun e w' => ∃ S' M', Grow w S M w' S' M' ∧ Good w' S' ∧ ((∃ v d, res = some d ∧ e = .returned v ∧ Rel w' ⟨S', [], [], M'⟩ v d) ∨ (res = none ∧ ∃ x, e = .panicked (pchain t x)))
theorem CallsE.calls {P : Program} {f : FuncId} {ds : List D} {t : TypeId} {d : D} (h : CallsE P f ds t (some d)) : CallsTo P f ds d := by
  refine ⟨h.1, fun S M w args hT hS hM hl hrel => (h.2 S M w args hT hS hM hl hrel).mono ?_⟩
  rintro e w' ⟨S', M', h1, h2, ⟨v, d', e1, rfl, h3⟩ | ⟨e1, _⟩⟩
  · cases e1; exact ⟨v, S', M', rfl, h1, h2, h3⟩
  · cases e1
/-- How a body of such a function ends. -/
def endE (P : Program) (rs : Array ResultVar) (t : TypeId) (res : Option D) : Exit → St → Prop
  | .panic ch, _ => res = none ∧ ∃ x, ch = pchain t x
  | e, s => ∃ d, res = some d ∧ retQ P rs d e s
section
variable {c : Ctx} {s : St}
theorem marks_panic {a0 : Act} {fn : Func} {chain : List PanicEntry} {R : Ending → World → Prop} {g : Gh} : ∀ (l : List Deferred) (a : Act) (w : World), RG c s a w g → a.defers = l →
    (∀ w', RG c s { a with defers := [] } w' g → (∀ x, g.S x → w'.cell? x = w.cell? x) → R (.panicked chain) w') → LeavesInM Fence.wide 0 c.P fn a.tmps R l (.panicking chain) w
  | [], a, w, h, hl, hR => hR w (by rw [show ({ a with defers := [] } : Act) = a by rw [← hl]]; exact h) (fun _ _ => rfl)
  | d :: l, a, w, h, hl, hR => by
    obtain ⟨hnd, hall⟩ := h.df.dok
    rw [hl] at hnd hall
    obtain ⟨D, hB, rfl, hD⟩ := hall d (List.mem_cons_self ..)
    refine ⟨by simp, .inl ⟨D, _, rfl, run_takeDeferred hD, ?_⟩⟩
    have hg : RG c s { a with defers := l } (w.putObj D (.deferred none)) g := h.turn hD rfl (by simp) hB rfl ⟨(List.nodup_cons.1 hnd).2, fun d' hd' => by
      obtain ⟨D', hB', rfl, hD'⟩ := hall d' (List.mem_cons_of_mem _ hd')
      refine ⟨D', hB', rfl, ?_⟩
      rw [World.putObj_heap_other (fun e => by subst e; exact (List.nodup_cons.1 hnd).1 hd')]
      exact hD'⟩
    have hc : ∀ x, g.S x → (w.putObj D (.deferred none)).cell? x = w.cell? x := fun x hx => by
      obtain ⟨u, hu⟩ := h.good x hx
      obtain ⟨cs, t, fz, hx⟩ := cell_cells hu
      exact World.cell?_of_block (World.putObj_heap_other (fun e => by subst e; rw [hD] at hx; cases hx))
    exact marks_panic (a0 := a0) l { a with defers := l } _ hg rfl (fun w' h1 h2 => hR w' h1 (fun x hx => (h2 x hx).trans (hc x hx)))
end
theorem callsE_of_abs {P : Program} {f : FuncId} {fn : Func} {code : Code} {ds : List D} {t : TypeId} {res : Option D} (hf : P.funcs[f]? = some fn) (hb : fn.body = some code)
    (hc : ∀ (args : Array Value) (w : World), (callFunc f args).run P w = .ok (.enter f args) w) (hn : ds.length ≤ fn.ntmps)
    (h : ∀ c : Ctx, c.P = P → c.l = none → (c.own = fun b => c.w0.heap.size ≤ b) → c.β0 = [] → Abs c code (endE P fn.results t res) ⟨fn.ntmps, ofL 0 ds, [], []⟩) : CallsE P f ds t res := by
  refine ⟨hc, fun S M w args hT hS hM hl hrel => ?_⟩
  refine (callsIn_wide (n := 0)).1 (callsIn_of_wp_marks hf hb trivial ?_)
  have hw := h ⟨P, w, S, M, none, fun b => w.heap.size ≤ b, []⟩ rfl rfl rfl rfl { tmps := args.toArray ++ Array.replicate (fn.ntmps - args.toArray.size) undef, defers := [] } w
    ⟨⟨S, [], [], M⟩, ⟨⟨List.nodup_nil, fun d hd => by cases hd⟩, hM, fun _ _ h => h, fun _ _ h => .inl h, fun i b h => by simp at h, fun _ _ => rfl, hT.fresh hM⟩, by simp; omega, .of (Below.refl _ _), fun _ h => h, hS, fun _ h => .inl h, fun _ h => h, hS, rfl, rfl, ?_, ?_, ?_, ?_, ?_⟩
  · refine wpIn_mono (F := Fence.wide) hw ?_
    have grow : ∀ {s' : St} {a' : Act} {w' : World} {g : Gh}, RG ⟨P, w, S, M, none, fun b => w.heap.size ≤ b, []⟩ s' a' w' g → Grow w S M w' g.S g.M := fun hg =>
      ⟨⟨hg.below.os, hg.below.tape, hg.below.output, hg.below.size, fun k hk hn => hg.below.block k hk (fun h => h.elim (fun h => absurd (show w.heap.size ≤ k from h) (Nat.not_le_of_lt hk)) hn)⟩, hg.S0, hg.from0, hg.df.m0, hg.df.mfrom, hg.df.mok⟩
    rintro e a' w' ⟨s', ⟨g, hg⟩, hq⟩
    cases e with
    | panic ch =>
      obtain ⟨hres, x, rfl⟩ := hq
      exact marks_panic (c := ⟨P, w, S, M, none, fun b => w.heap.size ≤ b, []⟩) (s := s') (g := g) (a0 := a') a'.defers a' w' hg rfl (fun w2 h2 _ => ⟨g.S, g.M, grow h2, h2.good, .inr ⟨hres, x, rfl⟩⟩)
    | normal => obtain ⟨d, hd, hq⟩ := hq; exact retQ_sound (c := ⟨P, w, S, M, none, fun b => w.heap.size ≤ b, []⟩) hg hq (fun v w' hg hv => ⟨g.S, g.M, grow hg, hg.good, .inl ⟨v, d, hd, rfl, hv⟩⟩)
    | ret => obtain ⟨d, hd, hq⟩ := hq; exact retQ_sound (c := ⟨P, w, S, M, none, fun b => w.heap.size ≤ b, []⟩) hg hq (fun v w' hg hv => ⟨g.S, g.M, grow hg, hg.good, .inl ⟨v, d, hd, rfl, hv⟩⟩)
    | exit id => obtain ⟨d, hd, hq⟩ := hq; exact retQ_sound (c := ⟨P, w, S, M, none, fun b => w.heap.size ≤ b, []⟩) hg hq (fun v w' hg hv => ⟨g.S, g.M, grow hg, hg.good, .inl ⟨v, d, hd, rfl, hv⟩⟩)
    | goto id => obtain ⟨d, hd, hq⟩ := hq; exact retQ_sound (c := ⟨P, w, S, M, none, fun b => w.heap.size ≤ b, []⟩) hg hq (fun v w' hg hv => ⟨g.S, g.M, grow hg, hg.good, .inl ⟨v, d, hd, rfl, hv⟩⟩)
    | outgrown => obtain ⟨d, hd, hq⟩ := hq; exact retQ_sound (c := ⟨P, w, S, M, none, fun b => w.heap.size ≤ b, []⟩) hg hq (fun v w' hg hv => ⟨g.S, g.M, grow hg, hg.good, .inl ⟨v, d, hd, rfl, hv⟩⟩)
  · intro m
    simp only
    rw [ofL_at]
    simp only [Nat.not_lt_zero, if_false, Nat.sub_zero]
    cases hd : ds[m]? with
    | none => exact .undef _ _
    | some x =>
      have hm := (List.getElem?_eq_some_iff.1 hd).1
      have := hrel m x hd
      have e : (args.toArray ++ Array.replicate (fn.ntmps - args.toArray.size) undef).getD m undef = args.getD m undef := by
        have : m < args.length := by omega
        simp [Array.getElem?_append, this]
      rw [e]; exact this
  · intro i cs hi; simp at hi
  · intro i cs hi; simp at hi
  · intro i cs hi; simp at hi
  · exact ⟨fun _ => .inl 0, fun i x b hi => by simp at hi, fun r row v gb hr => by simp at hr⟩
section
variable {c : Ctx} {s : St}
end
section
variable {l : List Oper} {o : Oper}
end
section
variable {c : Ctx} {s : St}
end
theorem callsE_abs {P : Program} {f : FuncId} {fn : Func} {code : Code} {ds : List D} {t : TypeId} {res : Option D} {n : Nat} {rs : Array ResultVar} (hf : P.funcs[f]? = some fn) (hn : fn.ntmps = n) (hr : fn.results = rs)
    (hc : ∀ (args : Array Value) (w : World), (callFunc f args).run P w = .ok (.enter f args) w) (hb : fn.body = some code) (hl : ds.length ≤ n)
    (h : ∀ (w0 : World) (S0 : Addr → Prop) (M0 : MM), Abs ⟨P, w0, S0, M0, none, fun b => w0.heap.size ≤ b, []⟩ code (endE P rs t res) ⟨n, ofL 0 ds, [], []⟩) : CallsE P f ds t res := by
  subst hn; subst hr
  refine callsE_of_abs hf hb hc hl ?_
  rintro ⟨_, w0, S0, M0, l, own, b0⟩ h1 h2 h3 h4
  simp only at h1 h2 h3 h4
  subst h1; subst h2; subst h3; subst h4
  exact h w0 S0 M0
theorem ende_ret {P : Program} {rs : Array ResultVar} {t : TypeId} {d : D} {s : St} (h : retQ P rs d .ret s) : endE P rs t (some d) .ret s := ⟨d, rfl, h⟩
theorem ende_normal {P : Program} {rs : Array ResultVar} {t : TypeId} {d : D} {s : St} (h : retQ P rs d .normal s) : endE P rs t (some d) .normal s := ⟨d, rfl, h⟩
theorem int_agg {w : World} {g : Gh} {v : Value} {x : Int} (h : Rel w g v (.agg [.int .i64 x])) : v = .agg #[.int .i64 x] := by
  cases h
  case agg vs hl h1 h2 =>
    have h3 := h2 0 (.int .i64 x) rfl
    have hs : vs.size = 1 := by simpa using hl
    obtain ⟨vs⟩ := vs
    match vs, hs with
    | [a], _ =>
      have h3 : Rel w g a (.int .i64 x) := h3
      cases h3
      rfl
/-- A region that ends in a panic with a struct of one text. -/
theorem abs_panic {c : Ctx} {s : St} {Q : Exit → St → Prop} {id : Nat} {l : List Oper} (n : Nat) {t : TypeId} {d7 d8 : Tmp} {x : Int} {ty ty' : TypeId} {pos pos' : String} {aft aft' : Array Edge}
    (hl : l = l.take n ++ [⟨some d8, .makeInterface t (.tmp d7), ty, pos, aft, none⟩, ⟨none, .panic (.tmp d8), ty', pos', aft', none⟩]) {fs : Array Field} (ht : c.P.underlying t = some (.struct fs))
    (h : ∀ K1 : St → Prop, (∀ s1, s1.sl d7 = .agg [.int .i64 x] → d8 < s1.n → (∀ s2, Q (.panic (pchain t x)) s2) → K1 s1) → evOps c.P l (l.take n) s K1) : Abs c (.region id l.toArray false) Q s := by
  intro a w hr
  refine wpIn_region_lit ?_
  rw [hl]
  rw [hl] at h
  have hl1 : (l.take n ++ [(⟨some d8, .makeInterface t (.tmp d7), ty, pos, aft, none⟩ : Oper), ⟨none, .panic (.tmp d8), ty', pos', aft', none⟩]).take n = l.take n := by rw [← hl]
  rw [hl1] at h
  generalize l.take n = l1 at *
  refine evOps_pre (c := c) (fun s1 a1 w1 hr1 hk1 => ?_) l1 s a w hr (h (fun s1 => s1.sl d7 = .agg [.int .i64 x] ∧ d8 < s1.n ∧ ∀ s2, Q (.panic (pchain t x)) s2) (fun s1 h1 h2 h3 => ⟨h1, h2, h3⟩))
  obtain ⟨h1, h2, h3⟩ := hk1
  obtain ⟨g1, hg1⟩ := hr1
  have hv := hg1.sl d7
  rw [h1] at hv
  have hv := int_agg hv
  unfold wpListIn
  rw [if_pos (by simp [Region.wanted])]
  refine op_in (c := c) (by intro cl h; cases h) ?_
  have hx : a1.eval (.tmp d7) = .agg #[.int .i64 x] := hv
  have hrun : (execOp a1.eval ⟨some d8, .makeInterface t (.tmp d7), ty, pos, aft, none⟩).run c.P w1 = .ok (.value (.iface t (.agg #[.int .i64 x]))) w1 := by
    simp [execOp, hx, Instr.makeInterface, underlying, ht, Sem.run]
  unfold Oper.wp
  rw [hrun]
  show wpListIn _ _ _ _ _ [_] _ _
  unfold wpListIn
  rw [if_pos (by simp [Region.wanted])]
  have hg2 := hg1.put (dst := some d8) (show d8 < s1.n from h2) (v := .iface t (.agg #[.int .i64 x])) (d := .val (.iface t (.agg #[.int .i64 x]))) (.val _ _)
  have hy : (a1.put (some d8) (.iface t (.agg #[.int .i64 x]))).eval (.tmp d8) = .iface t (.agg #[.int .i64 x]) := by
    have := hg2.sl d8
    have e : (s1.put (some d8) (.val (.iface t (.agg #[.int .i64 x])))).sl d8 = .val (.iface t (.agg #[.int .i64 x])) := by simp [St.put, put]
    rw [e] at this
    have : Rel w1 g1 ((a1.put (some d8) (.iface t (.agg #[.int .i64 x]))).eval (.tmp d8)) (.val (.iface t (.agg #[.int .i64 x]))) := this
    generalize (a1.put (some d8) (.iface t (.agg #[.int .i64 x]))).eval (.tmp d8) = v at this
    cases this; rfl
  generalize (a1.put (some d8) (.iface t (.agg #[.int .i64 x]))) = a2 at hg2 hy
  refine ⟨fun _ _ => trivial, ?_⟩
  have hsem : (Oper.semAt c.F.round a2.eval ⟨none, .panic (.tmp d8), ty', pos', aft', none⟩).run c.P w1 = .halt (.panic (.iface t (.agg #[.int .i64 x]))) w1 := by
    rw [Oper.semAt_eq _ _ _ (by intro cl h; cases h)]
    simp [execOp, hy, Instr.panic, goPanic]
  rw [hsem, Oper.uponIn_panic]
  exact ⟨_, ⟨_, hg2⟩, h3 _⟩
end Go.Ab.PI
namespace Go.Ab
open Go.RowKit
/-!
  Steps between states that no code does; operations of a kind of their own, in regions of either sort; a list in new memory that is written later.
-/
/-- What holds of a state holds of another one, in any world. -/
def RTo (c : Ctx) (s s' : St) : Prop := ∀ a w, R c s a w → R c s' a w
section
variable {c : Ctx} {s : St}
theorem RTo.refl : RTo c s s := fun _ _ h => h
theorem RTo.trans {s' s'' : St} (h : RTo c s s') (k : RTo c s' s'') : RTo c s s'' := fun a w hr => k a w (h a w hr)
theorem RTo.le {s' : St} (hl : Le s s') (hn : s'.named) (h0 : c.β0.length ≤ s'.bx.length) : RTo c s s' := fun _ _ hr => hr.le hl hn h0
theorem abs_to {s' : St} {code : Code} {Q : Exit → St → Prop} (h : RTo c s s') (hk : Abs c code Q s') : Abs c code Q s := fun a w hr => hk a w (h a w hr)
theorem RG.slots {a : Act} {w : World} {g : Gh} {sl : Nat → D} (h : RG c s a w g) (hs : ∀ m, Rel w g (a.tmps.getD m undef) (sl m)) : RG c ⟨s.n, sl, s.bx, s.rw⟩ a w g :=
  ⟨h.df, h.sz, h.below, h.own0, h.good, h.from0, h.S0, h.good0, h.lβ, h.lρ, hs, h.bx, h.fz, h.rw, h.ap⟩
/-- A slot is read as what it holds. -/
theorem RTo.read {n : Nat} {sl : Nat → D} {bx : List Bx} {rw' : List Row} (m : Nat) {d' : D} (h : pureDV bx rw' (sl m) = some d') : RTo c ⟨n, sl, bx, rw'⟩ ⟨n, put sl m d', bx, rw'⟩ := by
  rintro a w ⟨g, hg⟩
  refine ⟨g, hg.slots fun k => ?_⟩
  unfold put
  split
  · rename_i e; subst e
    exact (pureDV_rel hg (hg.sl k) h).keep (keeps_er _ _)
  · exact hg.sl k
/-- A nil slice is taken for a row. -/
theorem RTo.push {n : Nat} {sl : Nat → D} {bx : List Bx} {rw' : List Row} (m : Nat) (e : TypeId) (sz : Nat) (hv : sl m = .val (.slice none 0 0)) : RTo c ⟨n, sl, bx, rw'⟩ ⟨n, put sl m (.own rw'.length), bx, rw' ++ [⟨true, e, sz, []⟩]⟩ := by
  rintro a w ⟨g, hg⟩
  have h := hg.pushNil e sz
  refine ⟨_, h.slots fun k => ?_⟩
  unfold put
  split
  · rename_i e2; subst e2
    have hx := hg.sl k
    simp only [hv] at hx
    generalize a.tmps.getD k undef = v at hx
    cases hx
    refine .own _ _ _ ?_
    show (g.ρ ++ [Value.slice none 0 0])[rw'.length]? = _
    have := hg.lρ
    simp only at this
    rw [← this]; simp
  · exact h.sl k
/-- What an operation leaves, however it is shown. -/
def StepX (c : Ctx) (o : Oper) (s : St) (K : St → Prop) : Prop :=
  ∀ (a : Act) (w : World) (N' : Act → World → Prop) (Q' : Exit → Act → World → Prop), R c s a w → (∀ s a w, R c s a w → K s → N' a w) → o.wpIn c.F 0 c.P a w N' Q'
theorem StepX.of {o : Oper} {K : St → Prop} (h : stepOp c.P o s K) : StepX c o s K := by
  rintro a w N' Q' ⟨g, hg⟩ hN
  exact op_in (step_nodefer h) (Oper.wp_mono (fun a' w' ⟨s', hr', hk'⟩ => hN s' a' w' hr' hk') (step_sound hg h))
theorem StepX.ofB {K : St → Prop} {fx : Operand} {xs : Array Operand} {dst : Option Tmp} {at_ : Array TypeId} {ty : TypeId} {pos : String} {aft : Array Edge} (h : atB c K fx xs.toList dst s) :
    StepX c ⟨dst, .call ⟨.value fx, xs, at_⟩, ty, pos, aft, none⟩ s K := fun _ _ _ _ hr hN => callB_in rfl hr h hN
/-- A region with an operation of its own kind at place n. -/
theorem abs_regionX {Q : Exit → St → Prop} {id : Nat} {l : List Oper} (n : Nat) {y : Oper} (At : (St → Prop) → St → Prop) (hy : ∀ (N : St → Prop) (s1 : St), At N s1 → StepX c y s1 N)
    (hl : l = l.take n ++ y :: l.drop (n + 1)) (hgd : y.guard = none)
    (h : ∀ K1 : St → Prop, (∀ s1, At (fun s2 => evOps c.P l (l.drop (n + 1)) s2 (fun s2 => Q .normal s2)) s1 → K1 s1) → evOps c.P l (l.take n) s K1) :
    Abs c (.region id l.toArray false) Q s := by
  intro a w hr
  refine wpIn_region_lit ?_
  rw [hl]
  rw [hl] at h
  have hl1 : (l.take n ++ y :: l.drop (n + 1)).take n = l.take n := by rw [← hl]
  have hl2 : (l.take n ++ y :: l.drop (n + 1)).drop (n + 1) = l.drop (n + 1) := by rw [← hl]
  rw [hl1, hl2] at h
  generalize l.take n = l1 at *
  generalize l.drop (n + 1) = l2 at *
  refine evOps_pre (c := c) (fun s1 a1 w1 hr1 hk1 => ?_) l1 s a w hr (h _ (fun s1 h1 => h1))
  show wpListIn c.F 0 c.P _ _ (y :: l2) a1 w1
  unfold wpListIn
  rw [if_pos (by simp [Region.wanted, hgd])]
  exact hy _ s1 hk1 a1 w1 _ _ hr1 (fun s3 a3 w3 hr3 hk3 => evOps_sound (c := c) (K := fun s2 => Q .normal s2) (fun s4 a4 w4 hr4 hk4 => ⟨s4, hr4, hk4⟩) l2 _ _ _ hr3 hk3)
/-- A region that draws its order, by a state for each set of operations that are done; the steps are shown in any way. -/
theorem abs_flowX {id : Nat} {l : List Oper} {Q : Exit → St → Prop} {ι : Type} (hm : c.P.follows .mixedOrders = true) (hc : c.l = none) (hB : flowB l.toArray = true) (st : ι → (Nat → Bool) → St) (ok : ι → (Nat → Bool) → Prop)
    (i0 : ι) (h0 : ok i0 (fun _ => false)) (hle : RTo c s (st i0 fun _ => false))
    (step : ∀ i L j o, closedL l.toArray L → ok i L → l[j]? = some o → L j = false → (∀ e ∈ o.after, Region.binds .any e = true → L e.on = true) → StepX c o (st i L) (fun s' => ∃ i', ok i' (fun q => decide (q = j) || L q) ∧ RTo c s' (st i' (fun q => decide (q = j) || L q))))
    (done : ∀ i L, ok i L → (∀ j, j < l.length → L j = true) → Q .normal (st i L)) : Abs c (.region id l.toArray true) Q s := by
  intro a w hr
  have hF : c.F = Fence.wide := by unfold Ctx.F; rw [hc]; rfl
  rw [hF]
  refine wpIn_region_flowC hm hB (fun L a w => ∃ i, ok i L ∧ R c (st i L) a w) ⟨i0, h0, hle _ _ (RG.drewTick hr)⟩ (fun L j o hC ho hL hdep a w hI => ?_) (fun L a w hL hI => ?_)
  · obtain ⟨i, hok, hr1⟩ := hI
    have h := step i L j o hC hok (by simpa using ho) hL hdep
    rw [← hF]
    exact h a w _ _ hr1 (fun s' a' w' hr' ⟨i', hk, hl⟩ => ⟨i', hk, hl _ _ hr'⟩)
  · obtain ⟨i, hok, hr⟩ := hI
    exact ⟨_, hr, done i L hok (by simpa using hL)⟩
/-- A list is compared with nil: one that is empty may be nil, or not. -/
def atNil (c : Ctx) (t : TypeId) (x : Operand) (dst : Option Tmp) (N : St → Prop) (s1 : St) : Prop :=
  dstOk s1 dst ∧ elemOf' c.P t = true ∧ ∃ xs, s1.ev x = .list xs ∧ (xs = [] → N (s1.put dst (.bool true))) ∧ ((∀ x ∈ xs, x.cells ≠ []) → N (s1.put dst (.bool false))) ∧ ∀ x ∈ xs, x.cells ≠ []
theorem StepX.nil {K : St → Prop} {t ty : TypeId} {x : Operand} {dst : Option Tmp} {pos : String} {aft : Array Edge} (h : atNil c t x dst K s) :
    StepX c ⟨dst, .binOp .eql t x (.const (.slice none 0 0)) t, ty, pos, aft, none⟩ s K := by
  obtain ⟨hd, ht, xs, hx, h1, h2, hne⟩ := h
  rintro a w N' Q' ⟨g, hg⟩ hN
  refine op_in (by intro cl h; cases h) ?_
  unfold elemOf' at ht
  split at ht <;> first | cases ht | skip
  rename_i e he
  have hv := hg.ev x
  rw [hx] at hv
  generalize hev : a.eval x = v at hv
  cases hv with
  | list _ A n cp _ sz u hn hsz hcap hm hr =>
    have hrun : (execOp a.eval ⟨dst, .binOp .eql t x (.const (.slice none 0 0)) t, ty, pos, aft, none⟩).run c.P w = .ok (.value (.bool A.isNone)) w := by
      have h1 : a.eval (.const (.slice none 0 0)) = .slice none 0 0 := rfl
      simp [execOp, hev, h1, eqGuard, run_eql_nil c.P w he]
    unfold Oper.wp
    rw [hrun]
    show N' _ _
    cases hA : A with
    | none =>
      have hxs : xs = [] := by
        cases xs with
        | nil => rfl
        | cons d ds =>
          have h0 := hne d (List.mem_cons_self ..)
          have hpos : 0 < (flat (d :: ds)).length := by
            show 0 < (d.cells ++ flat ds).length
            have := List.length_pos_iff.2 h0
            simp only [List.length_append]; omega
          obtain ⟨ad, e1, _⟩ := hm 0 hpos
          rw [hA] at e1; cases e1
      exact hN _ _ _ ⟨g, hg.put hd (.bool _ _)⟩ (h1 hxs)
    | some ad => exact hN _ _ _ ⟨g, hg.put hd (.bool _ _)⟩ (h2 hne)
end
attribute [go_sem] atNil
end Go.Ab
namespace Go.Ab
open Go.RowKit
/-- A list in new memory that will be written: append to nil, as a slice over a box. -/
def atDup (c : Ctx) (t : TypeId) (x : Operand) (dst : Option Tmp) (N : St → Prop) (s1 : St) : Prop :=
  dstOk s1 dst ∧ wOpt (elemOf c.P t) fun e => szOf c.P e ≠ 0 ∧ (zeroD c.P e).isSome = true ∧ wSl s1.rw (s1.ev x) fun ys => (∀ y ∈ ys, y.cells.length = szOf c.P e) ∧ ys.length ≤ 9223372036854775807 ∧ ys.length * bytesOf c.P e ≤ 140737488355328 ∧
    (ys = [] → N (s1.put dst (.val (.slice none 0 0)))) ∧ (ys ≠ [] → ∀ m cap : Nat, ys.length ≤ cap → N (St.put { s1 with bx := s1.bx ++ [.mu (flat ys ++ List.replicate m .undef)] } dst (.bsl s1.bx.length 0 ys.length cap)))
theorem zeroCells_at (z : Array Value) (h : ∀ q, q < z.size → (z.getD q Go.undef).oneCell' = true) (n q : Nat) (hq : q < n * z.size) : ((Builtin.zeroCells z n).getD q Go.undef).oneCell' = true := by
  have hs : z.size ≠ 0 := by intro h0; rw [h0] at hq; omega
  have hm : q % z.size < z.size := Nat.mod_lt _ (by omega)
  have := h _ hm
  simp only [Builtin.zeroCells]
  simp [hq, hm] at this ⊢
  exact this
section
variable {c : Ctx} {s : St}
theorem StepX.dup {K : St → Prop} {t ty : TypeId} {x : Operand} {dst : Option Tmp} {pos : String} {aft : Array Edge} (h : atDup c t x dst K s) :
    StepX c ⟨dst, .call ⟨.builtin .append, #[.const (.slice none 0 0), x], #[t, t]⟩, ty, pos, aft, none⟩ s K := by
  obtain ⟨hd, h⟩ := h
  obtain ⟨e, he, hz, hzz, h⟩ := wOpt_some h
  rintro a w N' Q' ⟨g, hg⟩ hN
  obtain ⟨ys, hy, hys, h63, hb, h1, h2⟩ := wSl_rel hg.mem (hg.ev x) h
  obtain ⟨A, cy, szy, uy, hv, hszy, hmy, hry⟩ := hy.list_inv
  obtain ⟨zs, hzs⟩ := Option.isSome_iff_exists.1 hzz
  obtain ⟨z0, hzr, hzc, i, hi, hisz⟩ := zeroD_run hzs w g
  have hsz : i.size = szOf c.P e := by simp [szOf, Program.cellsOf, hi]
  have hby : bytesOf c.P e = i.bytes := by simp [bytesOf, hi]
  have hpos : 0 < szOf c.P e := Nat.pos_of_ne_zero hz
  have ⟨z, hiz, hz0⟩ : ∃ z, i.zero = some z ∧ z.cells = z0.cells := by
    unfold zeroD at hzs
    rw [hi] at hzs
    cases hiz : i.zero with
    | none => simp [hiz] at hzs
    | some z' =>
      refine ⟨z', rfl, ?_⟩
      have : (zeroValue e).run c.P w = .ok z' w := by simp [zeroValue, typeInfo, hi, hiz]
      rw [this] at hzr
      injection hzr with hzr
      rw [hzr]
  have hfy := flat_length (szOf c.P e) ys hys
  refine op_in (by intro cl h; cases h) ?_
  unfold Oper.wp
  have hnil : a.eval (.const (.slice none 0 0)) = .slice none 0 0 := rfl
  by_cases h0 : ys = []
  · subst h0
    have hrun : (execOp a.eval ⟨dst, .call ⟨.builtin .append, #[.const (.slice none 0 0), x], #[t, t]⟩, ty, pos, aft, none⟩).run c.P w = .ok (.value (.slice none 0 0)) w := by
      have := run_append_any (w := w) c.P 0 t ty e i z i.size i.bytes (elemOf_u he) hi hiz rfl rfl (by rw [hz0]; rw [hzc.1, ← hisz]) (by omega) (.slice none 0 0) 0 [] (World.ownsRow_nil w 0 e i.size) A 0 cy [] (by simp) (fun h => absurd h (Nat.lt_irrefl _)) (by simp) (by simp [maxLen]) (by simp) (Nat.zero_le _)
      simp [execOp, resolve, invoke, builtin, hnil, hv]
      rcases A with _ | ad
      · rw [run_append_nil_src c.P 0 t ty e i i.size (elemOf_u he) hi (.slice none 0 0) 0 [] (World.ownsRow_nil w 0 e i.size) cy]; simp
      · have : (Builtin.append_ #[t, t] ty #[.slice none 0 0, .slice (some ad) 0 cy]).run c.P w = .ok (.slice none 0 0) w := by
          simp [Builtin.append_, run_underlying (elemOf_u he), sizeOf, typeInfo, hi, Builtin.lenOf, Builtin.firstCells, loadCells, loadCellsFrom]
        rw [this]; simp
    rw [hrun]
    exact hN _ _ _ ⟨g, hg.put hd (.val _ _)⟩ (h1 rfl)
  · have hlen : 0 < ys.length := List.length_pos_iff.2 h0
    have hq0 : 0 < (flat ys).length := by rw [hfy]; exact Nat.mul_pos hlen hpos
    obtain ⟨ad, hA, _⟩ := hmy 0 hq0
    subst hA
    let news := (List.range (flat ys).length).map uy
    have hnl : news.length = ys.length * i.size := by simp [news, hfy, hsz]
    have hnews : ∀ j u, news[j]? = some u → w.cell? (ad.add j) = some u := fun j u hj => by
      simp only [news, List.getElem?_map, Option.map_eq_some_iff] at hj
      obtain ⟨j', hj, rfl⟩ := hj
      have hjl := (List.getElem?_eq_some_iff.1 hj).1
      have hjv := (List.getElem?_eq_some_iff.1 hj).2
      simp at hjl hjv
      subst hjv
      obtain ⟨ad', e2, hc, _⟩ := hmy j hjl
      cases e2; exact hc
    have hr := Go.run_append_nil (P := c.P) w t ty e i z (elemOf_u he) hi hiz ad ys.length cy news hnl hnews hlen (by omega) (by rw [← hby]; omega)
    have hrun : (execOp a.eval ⟨dst, .call ⟨.builtin .append, #[.const (.slice none 0 0), x], #[t, t]⟩, ty, pos, aft, none⟩).run c.P w =
        .ok (.value (.slice (some ⟨w.heap.size, 0, none⟩) ys.length (grownCap w ys.length 0 e))) (w.drew.alloc (.cells (news.toArray ++ Builtin.zeroCells z.cells (grownCap w ys.length 0 e - ys.length)) e)) := by
      simp [execOp, resolve, invoke, builtin, hnil, hv, hr]
    rw [hrun]
    have hgd : RG c s a w.drew g := hg.world (w' := w.drew) (S' := g.S) ⟨rfl, rfl, rfl, Nat.le_refl _, fun _ _ => rfl⟩ (fun _ h => h) (fun _ h => .inl h) hg.good
    have hsz1 : (Builtin.zeroCells z.cells (grownCap w ys.length 0 e - ys.length)).size = (grownCap w ys.length 0 e - ys.length) * z.cells.size := size_zeroCells _ _
    have hcr : CellsR w.drew g (news.toArray ++ Builtin.zeroCells z.cells (grownCap w ys.length 0 e - ys.length)) (flat ys ++ List.replicate ((grownCap w ys.length 0 e - ys.length) * z.cells.size) .undef) := by
      refine ⟨by simp [hsz1, news], fun q d hd => ?_⟩
      have hql := (List.getElem?_eq_some_iff.1 hd).1
      simp only [List.length_append, List.length_replicate] at hql
      have hns : news.length = (flat ys).length := by simp [news]
      by_cases hq : q < (flat ys).length
      · rw [List.getElem?_append_left hq] at hd
        have hu : (news.toArray ++ Builtin.zeroCells z.cells (grownCap w ys.length 0 e - ys.length)).getD q Go.undef = uy q := by
          rw [Array.getD_eq_getD_getElem?, Array.getElem?_append_left (by simp; omega)]
          simp [news, hq]
        rw [hu]
        obtain ⟨_, _, _, _, ho⟩ := hmy q hq
        exact ⟨((hry q d hd).keep (keeps_er _ _)).keep ⟨fun _ _ => rfl, fun _ h => h, fun _ _ h => h, fun _ _ h => h, fun _ _ h => h⟩, ho⟩
      · rw [List.getElem?_append_right (by omega)] at hd
        have hd' : d = .undef := by
          have := (List.getElem?_eq_some_iff.1 hd).2
          simpa using this.symm
        subst hd'
        refine ⟨.undef _ _, ?_⟩
        have hu : (news.toArray ++ Builtin.zeroCells z.cells (grownCap w ys.length 0 e - ys.length)).getD q Go.undef = (Builtin.zeroCells z.cells (grownCap w ys.length 0 e - ys.length)).getD (q - news.length) Go.undef := by
          rw [Array.getD_eq_getD_getElem?, Array.getD_eq_getD_getElem?, Array.getElem?_append_right (by simp; omega)]
          simp
        rw [hu]
        refine zeroCells_at _ (fun k hk => ?_) _ _ (by omega)
        rw [hz0] at hk ⊢
        have hkz : k < zs.length := by rw [← hzc.1]; exact hk
        exact (hzc.2 k zs[k] (List.getElem?_eq_getElem hkz)).2
    have hal := hgd.alloc (t := e) hcr
    refine hN _ _ _ ⟨_, hal.put ?_ (.bsl _ _ _ _ _ w.heap.size ?_)⟩ (h2 h0 _ _ (grownCap_ge w ys.length 0 e))
    · cases dst <;> first | exact trivial | exact hd
    · show (g.β ++ [w.drew.heap.size])[s.bx.length]? = _
      rw [← hg.lβ]; simp
/-- A nil slice is read as an empty list. -/
theorem RTo.nilList {n : Nat} {sl : Nat → D} {bx : List Bx} {rw' : List Row} (m : Nat) (hv : sl m = .val (.slice none 0 0)) : RTo c ⟨n, sl, bx, rw'⟩ ⟨n, put sl m (.list []), bx, rw'⟩ := by
  rintro a w ⟨g, hg⟩
  refine ⟨g, hg.slots fun k => ?_⟩
  unfold put
  split
  · rename_i e2; subst e2
    have hx := hg.sl k
    simp only [hv] at hx
    generalize a.tmps.getD k undef = v at hx
    cases hx
    exact Rel.nil _ _
  · exact hg.sl k
/-- A box is frozen. -/
theorem RTo.freeze {n : Nat} {sl : Nat → D} {bx : List Bx} {rw' : List Row} (i : Nat) {cs cs' : List D} (hi : bx[i]? = some (.mu cs)) (hp : pureL bx rw' cs = some cs') : RTo c ⟨n, sl, bx, rw'⟩ ⟨n, sl, bx.set i (.fz cs'), rw'⟩ :=
  fun _ _ h => R_freeze i cs cs' hi hp h
/-- A slice over a frozen box is read as the list of its elements. -/
theorem RTo.bslList {n : Nat} {sl : Nat → D} {bx : List Bx} {rw' : List Row} (m i : Nat) {ys U : List D} {cap sz : Nat} (hm : sl m = .bsl i 0 ys.length cap) (hi : bx[i]? = some (.fz (flat ys ++ U))) (hsz : ∀ y ∈ ys, y.cells.length = sz) (hc : ys.length ≤ cap) :
    RTo c ⟨n, sl, bx, rw'⟩ ⟨n, put sl m (.list ys), bx, rw'⟩ := by
  rintro a w ⟨g, hg⟩
  refine ⟨g, hg.slots fun k => ?_⟩
  unfold put
  split
  · rename_i e2; subst e2
    have hx := hg.sl k
    simp only [hm] at hx
    generalize a.tmps.getD k undef = v at hx
    cases hx with
    | bsl _ _ _ _ _ b hb =>
      obtain ⟨b', vs, t, e1, e2, e3, e4, _, e6⟩ := (hg.fz i _ hi).ex
      rw [e1] at hb; cases hb
      obtain ⟨h1, h2⟩ := box_cells e2 e3 0
      refine .list _ _ _ _ _ sz (fun q => vs.getD (0 + q) Go.undef) rfl hsz hc (fun q hq => ?_) (fun q d hd => ?_)
      · have hq' : q < (flat ys ++ U).length := by rw [List.length_append]; omega
        refine ⟨_, rfl, (h1 q (by simpa using hq')).1, ?_, (h1 q (by simpa using hq')).2⟩
        rw [add_block]
        exact e6 rfl _ (by omega)
      · refine h2 q d ?_
        rw [List.drop_zero, List.getElem?_append_left (List.getElem?_eq_some_iff.1 hd).1]
        exact hd
  · exact hg.sl k
end
attribute [go_sem] atDup
end Go.Ab
