import Derived.Test.YthamljpomhjepaaAbQ
set_option linter.unusedVariables false
set_option linter.unusedSimpArgs false
namespace Go.Ab
open Go.RowKit

/-- A statement on code that may panic with a value of the type t. -/
def AbsP (c : Ctx) (code : Code) (Q : Exit → St → Prop) (t : TypeId) (Z : List D → Prop) (s : St) : Prop :=
  ∀ a w, R c s a w → code.wpIn c.F 0 c.P (fun e a' w' => (∃ s', R c s' a' w' ∧ Q e s') ∨ ∃ x cs s' g, e = .panic [{ v := .iface t x, recovered := false }] ∧ RG c s' a' w' g ∧ Rel w' g.er x (.agg cs) ∧ Z cs) a w

section
variable {c : Ctx} {Q : Exit → St → Prop} {s : St} {t : TypeId} {Z : List D → Prop}

theorem absp_of {code : Code} (h : Abs c code Q s) : AbsP c code Q t Z s := fun a w hr => wpIn_mono (h a w hr) fun _ _ _ h => .inl h
theorem absp_intro {code : Code} (h : ∀ a w, R c s a w → code.wpIn c.F 0 c.P (fun e a' w' => (∃ s', R c s' a' w' ∧ Q e s') ∨ ∃ x cs s' g, e = .panic [{ v := .iface t x, recovered := false }] ∧ RG c s' a' w' g ∧ Rel w' g.er x (.agg cs) ∧ Z cs) a w) : AbsP c code Q t Z s := h

theorem absp_seq {x y : Code} (h : AbsP c x (thenQ (AbsP c y Q t Z) Q) t Z s) : AbsP c (.seq x y) Q t Z s := by
  intro a w hr
  refine wpIn_seq (wpIn_mono (h a w hr) ?_)
  rintro e a' w' (⟨s', r, q⟩ | ⟨x, cs, s', g, rfl, r, hx, hz⟩)
  · cases e with
    | normal => exact q a' w' r
    | exit id => exact .inl ⟨s', r, q⟩
    | goto l => exact .inl ⟨s', r, q⟩
    | ret => exact .inl ⟨s', r, q⟩
    | panic ch => exact .inl ⟨s', r, q⟩
    | outgrown => exact .inl ⟨s', r, q⟩
  · exact .inr ⟨x, cs, s', g, rfl, r, hx, hz⟩

theorem absp_block {id : Nat} {x : Code} (h : AbsP c x (blockQ id Q) t Z s) : AbsP c (.block id x) Q t Z s := by
  intro a w hr
  refine wpIn_block (wpIn_mono (h a w hr) ?_)
  rintro e a' w' (⟨s', r, q⟩ | ⟨x, cs, s', g, rfl, r, hx, hz⟩)
  · cases e with
    | normal => exact .inl ⟨s', r, q⟩
    | exit id' =>
      simp only [blockQ] at q
      simp only [Exit.inBlock]
      split at q
      · rw [if_pos (by assumption)]; exact .inl ⟨s', r, q⟩
      · rw [if_neg (by assumption)]; exact .inl ⟨s', r, q⟩
    | goto l => exact .inl ⟨s', r, q⟩
    | ret => exact .inl ⟨s', r, q⟩
    | panic ch => exact .inl ⟨s', r, q⟩
    | outgrown => exact .inl ⟨s', r, q⟩
  · exact .inr ⟨x, cs, s', g, rfl, r, hx, hz⟩

theorem absp_if {x : Operand} {y z : Code} (h : wBool (s.ev x) fun b => (b = true → AbsP c y Q t Z s) ∧ (b = false → AbsP c z Q t Z s)) : AbsP c (.cond x y z) Q t Z s := by
  intro a w hr
  cases hs : s.ev x <;> rw [hs] at h <;> simp only [wBool] at h
  have hr0 := hr
  obtain ⟨g, hg⟩ := hr0
  have hv := hg.ev x
  rw [hs] at hv
  exact wpIn_cond_split hv.asBool (fun hb => h.1 hb a w hr) (fun hb => h.2 hb a w hr)

theorem absp_loopN {body : Code} {ι : Type} {n : Nat} (l : ι → List (Nat × D)) (bx : ι → List Bx) (rw : ι → List Row) (p : ι → Prop) (μ : ι → Nat)
    (hn : ∀ i, p i → ((l i).all fun q => namesB (bx i).length (rw i).length q.2) = true ∧ namesBx (bx i).length (rw i).length (bx i) = true)
    (i0 : ι) (h0 : p i0) (hle : Le s (mkSt n (l i0) (bx i0) (rw i0)))
    (round : ∀ i, p i → AbsP c body (thenQ (fun s' => ∃ j, p j ∧ μ j < μ i ∧ Le s' (mkSt n (l j) (bx j) (rw j))) Q) t Z ⟨n, (l i).foldr (fun p f => put f p.1 p.2) none', bx i, rw i⟩) (hβ : c.β0 = []) : AbsP c (.loop body) Q t Z s := by
  intro a w hr
  have hb0 : ∀ i, c.β0.length ≤ (mkSt n (l i) (bx i) (rw i)).bx.length := fun i => by rw [hβ]; exact Nat.zero_le _
  have hnm : ∀ i, p i → (mkSt n (l i) (bx i) (rw i)).named := fun i hi => named_of (hn i hi).1 (hn i hi).2
  refine wp_loop_ix (fun i a w => p i ∧ R c (mkSt n (l i) (bx i) (rw i)) a w) μ (fun i a w ⟨hp, hr⟩ => ?_) i0 ⟨h0, hr.le hle (hnm i0 h0) (hb0 i0)⟩
  refine wpIn_mono (round i hp a w hr) ?_
  rintro e a' w' (⟨s', r, q⟩ | ⟨x, cs, s', g, rfl, r, hx, hz⟩)
  · cases e with
    | normal => obtain ⟨j, hj, hlt, hl⟩ := q; exact ⟨j, ⟨hj, r.le hl (hnm j hj) (hb0 j)⟩, hlt⟩
    | exit id => exact .inl ⟨s', r, q⟩
    | goto l => exact .inl ⟨s', r, q⟩
    | ret => exact .inl ⟨s', r, q⟩
    | panic ch => exact .inl ⟨s', r, q⟩
    | outgrown => exact .inl ⟨s', r, q⟩
  · exact .inr ⟨x, cs, s', g, rfl, r, hx, hz⟩

/-- One plain operation. -/
theorem absp_step {o : Oper} {a : Act} {w : World} {K : St → Prop} {Q' : Exit → Act → World → Prop} {N : Act → World → Prop} (hr : R c s a w) (hst : stepOp c.P o s K) (hN : ∀ s' a' w', R c s' a' w' → K s' → N a' w') : o.wpIn c.F 0 c.P a w N Q' := by
  obtain ⟨g, hg⟩ := hr
  exact op_in (step_nodefer hst) (Oper.wp_mono (fun a' w' ⟨s', hr', hk'⟩ => hN s' a' w' hr' hk') (step_sound hg hst))

/-- A call that comes back, or panics with a value of the type t. -/
def CallsP (P : Program) (f : FuncId) (ds : List D) (t : TypeId) (res : Option (List D)) : Prop :=
  (∀ (args : Array Value) (w : World), (callFunc f args).run P w = .ok (.enter f args) w) ∧
  ∀ (S : Addr → Prop) (M : MM) (w : World) (args : List Value), Good w S → MOk w M → args.length = ds.length → (∀ q x, ds[q]? = some x → Rel w ⟨S, [], [], M⟩ (args.getD q Go.undef) x) →
    Calls P f args.toArray w fun e w' => ∃ S' M', Grow w S M w' S' M' ∧ Good w' S' ∧ ((res = none ∧ ∃ v, e = .returned v) ∨ ∃ x cs, res = some cs ∧ e = .panicked [{ v := .iface t x, recovered := false }] ∧ Rel w' ⟨S', [], [], M'⟩ x (.agg cs))

theorem marks_panic {a0 : Act} {fn : Func} {chain : List PanicEntry} {R : Ending → World → Prop} {g : Gh} : ∀ (l : List Deferred) (a : Act) (w : World), RG c s a w g → a.defers = l →
    (∀ w', RG c s { a with defers := [] } w' g → (∀ x, g.S x → w'.cell? x = w.cell? x) → R (.panicked chain) w') → LeavesInM Fence.wide 0 c.P fn a.tmps R l (.panicking chain) w
  | [], a, w, h, hl, hR => hR w (by rw [show ({ a with defers := [] } : Act) = a by rw [← hl]]; exact h) (fun _ _ => rfl)
  | d :: l, a, w, h, hl, hR => by
    obtain ⟨hnd, hall⟩ := h.df.dok
    rw [hl] at hnd hall
    obtain ⟨D, hB, rfl, hD⟩ := hall d (List.mem_cons_self ..)
    refine ⟨by simp, .inl ⟨D, _, rfl, run_takeDeferred hD, ?_⟩⟩
    have hg : RG c s { a with defers := l } (w.putObj D (.deferred none)) g := h.turn hD rfl (by simp) hB rfl ⟨(List.nodup_cons.1 hnd).2, fun d' hd' => by
      obtain ⟨D', hB', rfl, hD'⟩ := hall d' (List.mem_cons_of_mem _ hd')
      refine ⟨D', hB', rfl, ?_⟩
      rw [World.putObj_heap_other (fun e => by subst e; exact (List.nodup_cons.1 hnd).1 hd')]
      exact hD'⟩
    have hc : ∀ x, g.S x → (w.putObj D (.deferred none)).cell? x = w.cell? x := fun x hx => by
      obtain ⟨u, hu⟩ := h.good x hx
      obtain ⟨cs, t, fz, hx⟩ := cell_cells hu
      exact World.cell?_of_block (World.putObj_heap_other (fun e => by subst e; rw [hD] at hx; cases hx))
    exact marks_panic (a0 := a0) l { a with defers := l } _ hg rfl (fun w' h1 h2 => hR w' h1 (fun x hx => (h2 x hx).trans (hc x hx)))
end

theorem callsP_of_absp {P : Program} {f : FuncId} {fn : Func} {code : Code} {ds : List D} {t : TypeId} {res : Option (List D)} {n : Nat} {rs : Array ResultVar} (hf : P.funcs[f]? = some fn) (hnt : fn.ntmps = n) (hrs : fn.results = rs)
    (hc : ∀ (args : Array Value) (w : World), (callFunc f args).run P w = .ok (.enter f args) w) (hb : fn.body = some code) (hn : ds.length ≤ n) (hr0 : rs = #[])
    (h : ∀ (w0 : World) (S0 : Addr → Prop) (M0 : MM), AbsP ⟨P, w0, S0, M0, none, fun b => w0.heap.size ≤ b, []⟩ code (fun e _ => (e = .normal ∨ e = .ret) ∧ res = none) t (fun cs => res = some cs) ⟨n, ofL 0 ds, [], []⟩) : CallsP P f ds t res := by
  subst hnt
  refine ⟨hc, fun S M w args hS hM hl hrel => ?_⟩
  refine (callsIn_wide (n := 0)).1 (callsIn_of_wp_marks hf hb trivial ?_)
  have hw := h w S M { tmps := args.toArray ++ Array.replicate (fn.ntmps - args.toArray.size) undef, defers := [] } w
    ⟨⟨S, [], [], M⟩, ⟨⟨List.nodup_nil, fun d hd => by cases hd⟩, hM, fun _ _ h => h, fun _ _ h => .inl h, fun i b h => by simp at h, fun _ _ => rfl⟩, by simp; omega, .of (Below.refl _ _), fun _ h => h, hS, fun _ h => .inl h, fun _ h => h, hS, rfl, rfl, ?_, ?_, ?_, ?_, ?_⟩
  · refine wpIn_mono (F := Fence.wide) hw ?_
    have grow : ∀ {s' : St} {a' : Act} {w' : World} {g : Gh}, RG ⟨P, w, S, M, none, fun b => w.heap.size ≤ b, []⟩ s' a' w' g → Grow w S M w' g.S g.M := fun hg =>
      ⟨⟨hg.below.os, hg.below.tape, hg.below.output, hg.below.size, fun k hk hn => hg.below.block k hk (fun h => h.elim (fun h => absurd (show w.heap.size ≤ k from h) (Nat.not_le_of_lt hk)) hn)⟩, hg.S0, hg.from0, hg.df.m0, hg.df.mfrom, hg.df.mok⟩
    rintro e a' w' (⟨s', ⟨g, hg⟩, hq, hres⟩ | ⟨x, cs, s', g, rfl, hg, hx, hres⟩)
    · have key : LeavesInM Fence.wide 0 P fn a'.tmps (fun e w' => ∃ S' M', Grow w S M w' S' M' ∧ Good w' S' ∧ ((res = none ∧ ∃ v, e = .returned v) ∨ ∃ x cs, res = some cs ∧ e = .panicked [{ v := .iface t x, recovered := false }] ∧ Rel w' ⟨S', [], [], M'⟩ x (.agg cs))) a'.defers .returning w' :=
        marks_leave (c := ⟨P, w, S, M, none, fun b => w.heap.size ≤ b, []⟩) (s := s') (g := g) (ds := []) a'.defers a' w' hg rfl (by rw [hrs, hr0]; rfl) (fun v w2 h2 _ => ⟨g.S, g.M, grow h2, h2.good, .inl ⟨hres, v, rfl⟩⟩)
      rcases hq with rfl | rfl
      · exact key
      · exact key
    · exact marks_panic (c := ⟨P, w, S, M, none, fun b => w.heap.size ≤ b, []⟩) (s := s') (g := g) (a0 := a') a'.defers a' w' hg rfl (fun w2 h2 hcell => ⟨g.S, g.M, grow h2, h2.good, .inr ⟨x, cs, hres, rfl, hx.keep ⟨hcell, fun _ h => h, fun _ _ h => h, fun _ _ h => h, fun _ _ h => h⟩⟩⟩)
  · intro m
    simp only
    rw [ofL_at]
    simp only [Nat.not_lt_zero, if_false, Nat.sub_zero]
    cases hd : ds[m]? with
    | none => exact .undef _ _
    | some x =>
      have hm := (List.getElem?_eq_some_iff.1 hd).1
      have := hrel m x hd
      have e : (args.toArray ++ Array.replicate (fn.ntmps - args.toArray.size) undef).getD m undef = args.getD m undef := by
        have : m < args.length := by omega
        simp [Array.getElem?_append, this]
      rw [e]; exact this
  · intro i cs hi; simp at hi
  · intro i cs hi; simp at hi
  · intro i cs hi; simp at hi
  · exact ⟨fun _ => .inl 0, fun i x b hi => by simp at hi, fun r row v gb hr => by simp at hr⟩

section
variable {c : Ctx} {s : St} {Q : Exit → St → Prop} {code : Code} {t : TypeId} {Z : List D → Prop}
theorem R.freeze (i : Nat) (cs cs' : List D) (hi : s.bx[i]? = some (.mu cs)) (hp : pureL s.bx s.rw cs = some cs') {a : Act} {w : World} (hr : R c s a w) : R c { s with bx := s.bx.set i (.fz cs') } a w := by
  obtain ⟨g, hg⟩ := hr
  obtain ⟨b, vs, t, e1, e2, e3, e4, e5, _⟩ := (hg.bx i cs hi).ex
  have e3 : CellsR w g vs cs := e3
  obtain ⟨p1, p2⟩ := pureL_get hp
  let S' : Addr → Prop := fun x => g.S x ∨ ∃ q, q < cs.length ∧ x = ⟨b, q, none⟩
  have hil : i < s.bx.length := (List.getElem?_eq_some_iff.1 hi).1
  have k : Keeps w g w ⟨S', g.β, g.ρ, g.M⟩ := ⟨fun _ _ => rfl, fun _ h => .inl h, fun _ _ h => h, fun _ _ h => h, fun _ _ h => h⟩
  obtain ⟨κ, k1, k2⟩ := hg.ap
  have hold : ∀ (j : Nat) (x : Bx), (s.bx.set i (.fz cs'))[j]? = some x → (j = i ∧ x = .fz cs') ∨ (j ≠ i ∧ s.bx[j]? = some x) := fun j x hj => by
    by_cases hji : j = i
    · subst hji
      rw [List.getElem?_set_self hil] at hj
      exact .inl ⟨rfl, (Option.some.inj hj).symm⟩
    · rw [List.getElem?_set_ne (Ne.symm hji)] at hj
      exact .inr ⟨hji, hj⟩
  have hbsz : b < w.heap.size := (Array.getElem?_eq_some_iff.1 e2).1
  refine ⟨⟨S', g.β, g.ρ, g.M⟩, hg.df.gh rfl, hg.sz, hg.below, hg.own0, fun x hx => ?_, fun x hx => ?_, fun x hx => .inl (hg.S0 x hx), hg.good0, by simp [hg.lβ], hg.lρ, fun n => (hg.sl n).keep k, ?_, ?_, ?_, ?_⟩
  · rcases hx with hx | ⟨q, hq, rfl⟩
    · exact hg.good x hx
    · rw [cell_of_row w b q vs t (0, 0) e2]
      have : q < vs.size := by rw [e3.1]; exact hq
      exact ⟨vs[q], by simp [this]⟩
  · rcases hx with hx | ⟨q, _, rfl⟩
    · exact hg.from0 x hx
    · exact .inr e4
  · intro j ds hj
    rcases hold j _ hj with ⟨_, e⟩ | ⟨hji, hj⟩
    · cases e
    · obtain ⟨b', vs', t', f1, f2, f3, f4, f5, f6⟩ := (hg.bx j ds hj).ex
      refine ⟨b', vs', t', f1, f2, f3.keep k, f4, fun _ x hx => ?_, fun h => by cases h⟩
      rcases hx with hx | ⟨q, _, rfl⟩
      · exact f5 rfl x hx
      · intro e
        simp at e; subst e
        have q1 := k1 i _ b hi rfl e1
        have q2 := k1 j _ b hj rfl f1
        rw [q1] at q2; injection q2 with q2; exact hji q2.symm
  · intro j ds hj
    rcases hold j _ hj with ⟨rfl, e⟩ | ⟨hji, hj⟩
    · cases e
      refine ⟨b, vs, t, e1, e2, ⟨by rw [e3.1, p1], fun q d hd => ?_⟩, e4, (fun h => by cases h), fun _ q hq => .inr ⟨q, by rw [← p1]; exact hq, rfl⟩⟩
      obtain ⟨d0, hd0, hpd⟩ := p2 q d hd
      exact ⟨(pureA_rel hg (e3.2 q d0 hd0).1 hpd).keep k.er, (e3.2 q d0 hd0).2⟩
    · obtain ⟨b', vs', t', f1, f2, f3, f4, f5, f6⟩ := (hg.fz j ds hj).ex
      exact ⟨b', vs', t', f1, f2, f3.keep k.er, f4, (fun h => by cases h), fun _ q hq => .inl (f6 rfl q hq)⟩
  · intro r row hr
    obtain ⟨v, f1, f2, f3⟩ := (hg.rw r row hr).ex
    refine ⟨v, f1, f2.keep k, fun hl => ?_⟩
    obtain ⟨ho, hcl, hS⟩ := f3 hl
    refine ⟨ho, hcl, fun gb hgb => ⟨(hS gb hgb).1, fun x hx hxb => ?_⟩⟩
    rcases hx with hx | ⟨q, _, rfl⟩
    · exact (hS gb hgb).2 x hx hxb
    · simp at hxb; subst hxb
      have q1 := k1 i _ b hi rfl e1
      have q2 := k2 r row v b hr hl f1 hgb
      rw [q1] at q2; cases q2
  · refine ⟨κ, fun j x b' hj hx hb' => ?_, k2⟩
    rcases hold j _ hj with ⟨rfl, e⟩ | ⟨hji, hj⟩
    · exact k1 j _ b' hi rfl hb'
    · exact k1 j x b' hj hx hb'


theorem absp_freeze (i : Nat) (cs cs' : List D) (hi : s.bx[i]? = some (.mu cs)) (hp : pureL s.bx s.rw cs = some cs')
    (h : AbsP c code Q t Z { s with bx := s.bx.set i (.fz cs') }) : AbsP c code Q t Z s := fun a w hr => h a w (hr.freeze i cs cs' hi hp)
end
end Go.Ab
namespace Go.Ab
/-- What is done stands with all that it waits for. -/
def closedL (ops : Array Oper) (L : Nat → Bool) : Prop := ∀ (j : Nat) (o : Oper), ops[j]? = some o → L j = true → ∀ e ∈ o.after, Region.binds .any e = true → L e.on = true
theorem wpIn_region_flowC {P : Program} {ops : Array Oper} {Q : Exit → Act → World → Prop} {id : Nat} {a : Act} {w : World} (hm : P.follows .mixedOrders = true) (hB : flowB ops = true) (Inv : (Nat → Bool) → Act → World → Prop)
    (h0 : Inv (fun _ => false) a { w with drawn := w.drawn + 1 })
    (step : ∀ (L : Nat → Bool) (i : Nat) (o : Oper), closedL ops L → ops[i]? = some o → L i = false → (∀ e ∈ o.after, Region.binds .any e = true → L e.on = true) → ∀ a w, Inv L a w →
      o.wpIn Fence.wide 0 P a w (Inv (fun j => decide (j = i) || L j)) Q)
    (done : ∀ (L : Nat → Bool) a w, (∀ i, i < ops.size → L i = true) → Inv L a w → Q .normal a w) : (Code.region id ops true).wpIn Fence.wide 0 P Q a w := by
  refine wpIn_region_flowB hm hB (fun L a w => closedL ops L ∧ Inv L a w) ⟨fun j o _ h => (by cases h), h0⟩ (fun L i o ho hL hdep a w hI => ?_) (fun L a w hL hI => done L a w hL hI.2)
  refine Oper.wpIn_mono (fun a' w' h => ⟨fun j oj hj hLj e he hb => ?_, h⟩) (step L i o hI.1 ho hL hdep a w hI.2)
  simp only [Bool.or_eq_true, decide_eq_true_eq] at hLj ⊢
  rcases hLj with rfl | hLj
  · rw [ho] at hj; cases hj
    exact .inr (hdep e he hb)
  · exact .inr (hI.1 j oj hj hLj e he hb)
end Go.Ab
