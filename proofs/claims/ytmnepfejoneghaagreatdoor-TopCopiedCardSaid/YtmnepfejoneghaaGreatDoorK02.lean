import Derived.Test.YtmnepfejoneghaaGreatDoorK01
set_option linter.unusedVariables false
set_option linter.unusedSimpArgs false
section
namespace Go.Ab
open Go.RowKit
def D.one : D → Bool
  | .undef => false
  | .skp => false
  | .agg _ => false
  | .tup _ => false
  | .val v => v.oneCell'
  | _ => true
section
variable {c : Ctx} {s : St} {a : Act} {w : World} {g : Gh}
theorem Grow.size {w w' : World} {S S' : Addr → Prop} {M M' : MM} (h : Grow w S M w' S' M') : w.heap.size ≤ w'.heap.size := h.below.size
theorem BelowM.cells {w w' : World} {M : MM} (hb : BelowM M w.heap.size w w') (hM : MOk w M) {b : Nat} {cs : Array Value} {t : TypeId} {fz : Nat × Nat} (h : w.heap[b]? = some (.cells cs t fz)) :
    w'.heap[b]? = some (.cells cs t fz) := (hb.at b (Array.getElem?_eq_some_iff.1 h).1 (hM.noCells h)).trans h
theorem BelowM.cell {w w' : World} {M : MM} (hb : BelowM M w.heap.size w w') (hM : MOk w M) {x : Addr} {u : Value} (h : w.cell? x = some u) : w'.cell? x = w.cell? x := by
  obtain ⟨cs, t, fz, hx⟩ := cell_cells h
  exact World.cell?_of_block ((hb.cells hM hx).trans hx.symm)
theorem BelowM.row {w w' : World} {M : MM} (hb : BelowM M w.heap.size w w') (hM : MOk w M) {base : Nat} {e : TypeId} {sz : Nat} {v : Value} {n : Nat} {xs : List Value} (h : w.ownsRow base e sz v n xs) : w'.ownsRow base e sz v n xs := by
  refine ⟨h.1, ?_⟩
  rcases h.2 with hn | ⟨g, cap, cur, rfl, hg, hgg, rest⟩
  · exact .inl hn
  · exact .inr ⟨g, cap, cur, rfl, hg, hb.cells hM hgg, rest⟩
/-- Good again: the cells keep. -/
theorem Grow.good {w w' : World} {S S' : Addr → Prop} {M M' : MM} (h : Grow w S M w' S' M') (hM : MOk w M) (hS : Good w S) : ∀ x, S x → w'.cell? x = w.cell? x := fun x hx => by
  obtain ⟨u, hu⟩ := hS x hx
  exact h.below.cell hM hu
theorem RG.keeps {w' : World} {S' : Addr → Prop} {M' : MM} (h : RG c s a w g) (hb : BelowM g.M w.heap.size w w') (h1 : ∀ x, g.S x → S' x) (hm : ∀ b f, g.M b = some f → M' b = some f) : Keeps w g w' ⟨S', g.β, g.ρ, M'⟩ :=
  ⟨fun x hx => by obtain ⟨u, hu⟩ := h.good x hx; exact hb.cell h.df.mok hu, h1, fun _ _ h => h, fun _ _ h => h, hm⟩
/-- The world grows: nothing that lay is turned. -/
theorem RG.grow {w' : World} {S' : Addr → Prop} {M' : MM} (h : RG c s a w g) (hg : Grow w g.S g.M w' S' M') (h3 : Good w' S') : RG c s a w' ⟨S', g.β, g.ρ, M'⟩ := by
  have hb := hg.below
  have h1 := hg.s1
  have h2 := hg.s2
  have k := h.keeps hb h1 hg.m1
  have hM := h.df.mok
  have hsz : c.w0.heap.size ≤ w.heap.size := h.below.size
  refine ⟨⟨?_, hg.mok, fun b f hf => hg.m1 b f (h.df.m0 b f hf), fun b f hf => ?_, h.df.anc, fun x hx => (hg.good hM h.good x (h.S0 x hx)).trans (h.df.kp0 x hx), h.df.tab⟩, h.sz, h.below.trans hb hsz (fun i hi hn => by
    cases hm : g.M i with
    | none => exact (hn hm).elim
    | some f => rcases h.df.mfrom i f hm with h1 | h1
                · exact .inr (by rw [h1]; simp)
                · omega), h.own0, h3, fun x hx => ?_, fun x hx => h1 x (h.S0 x hx), h.good0, h.lβ, h.lρ, fun n => (h.sl n).keep k, ?_, ?_, ?_, h.ap⟩
  · refine ⟨h.df.dok.1, fun d hd => ?_⟩
    obtain ⟨D, hB, e, hD⟩ := h.df.dok.2 d hd
    exact ⟨D, hB, e, (hb.at D (Array.getElem?_eq_some_iff.1 hD).1 (hM.noDefs hD)).trans hD⟩
  · rcases hg.m2 b f hf with hf | hf
    · exact h.df.mfrom b f hf
    · exact .inr (Nat.le_trans hsz hf)
  · rcases h2 x hx with hx | hx
    · exact h.from0 x hx
    · exact .inr (h.own0 _ (Nat.le_trans hsz hx))
  · intro i cs hi
    obtain ⟨b, vs, t, e1, e2, e3, e4, e5, e6⟩ := (h.bx i cs hi).ex
    have hlt : b < w.heap.size := (Array.getElem?_eq_some_iff.1 e2).1
    refine ⟨b, vs, t, e1, hb.cells hM e2, e3.keep k, e4, fun _ x hx => ?_, fun h => by cases h⟩
    rcases h2 x hx with hx | hx
    · exact e5 rfl x hx
    · omega
  · intro i cs hi
    obtain ⟨b, vs, t, e1, e2, e3, e4, e5, e6⟩ := (h.fz i cs hi).ex
    exact ⟨b, vs, t, e1, hb.cells hM e2, e3.keep k.er, e4, (fun h => by cases h), fun _ q hq => h1 _ (e6 rfl q hq)⟩
  · intro r row hr
    obtain ⟨v, e1, e2, e3⟩ := (h.rw r row hr).ex
    refine ⟨v, e1, e2.keep k, fun hl => ?_⟩
    obtain ⟨⟨vals, hown⟩, hcl, hS⟩ := e3 hl
    refine ⟨⟨vals, BelowM.row hb hM hown⟩, hcl, fun gb hgb => ⟨(hS gb hgb).1, fun x hx hxb => ?_⟩⟩
    rcases h2 x hx with hx | hx
    · exact (hS gb hgb).2 x hx hxb
    · have := (hown.lt gb hgb).2
      omega
/-- The world turns where there are neither cells nor maps, and grows. -/
theorem RG.same {a' : Act} {w' : World} (h : RG c s a w g) (hc : ∀ (b : Nat) (cs : Array Value) (t : TypeId) (fz : Nat × Nat), w.heap[b]? = some (.cells cs t fz) → w'.heap[b]? = some (.cells cs t fz))
    (hm : ∀ (b : Nat) (es : Array MapEntry) (cl : Nat), w.heap[b]? = some (.map es cl) → w'.heap[b]? = some (.map es cl)) (hb : BelowP c.may c.w0.heap.size c.w0 w') (ht : a'.tmps = a.tmps) (hd : DefOk c.own w' a'.defers) :
    RG c s a' w' g := by
  have hcell : ∀ x, g.S x → w'.cell? x = w.cell? x := fun x hx => by
    obtain ⟨u, hu⟩ := h.good x hx
    obtain ⟨cs, t, fz, hx⟩ := cell_cells hu
    exact World.cell?_of_block ((hc _ _ _ _ hx).trans hx.symm)
  have k : Keeps w g w' g := ⟨hcell, fun _ h => h, fun _ _ h => h, fun _ _ h => h, fun _ _ h => h⟩
  refine ⟨⟨hd, fun b f hf => ?_, h.df.m0, h.df.mfrom, h.df.anc, fun x hx => (hcell x (h.S0 x hx)).trans (h.df.kp0 x hx), h.df.tab⟩, by rw [ht]; exact h.sz, hb, h.own0, fun x hx => ?_, h.from0, h.S0, h.good0, h.lβ, h.lρ, fun n => by rw [ht]; exact (h.sl n).keep k, ?_, ?_, ?_, h.ap⟩
  · obtain ⟨es, cl, h1, h2⟩ := h.df.mok b f hf
    exact ⟨es, cl, hm _ _ _ h1, h2⟩
  · obtain ⟨u, hu⟩ := h.good x hx
    exact ⟨u, (hcell x hx).trans hu⟩
  · intro i cs hi
    obtain ⟨b, vs, t, e1, e2, e3, e4, e5, e6⟩ := (h.bx i cs hi).ex
    exact ⟨b, vs, t, e1, hc _ _ _ _ e2, e3.keep k, e4, e5, e6⟩
  · intro i cs hi
    obtain ⟨b, vs, t, e1, e2, e3, e4, e5, e6⟩ := (h.fz i cs hi).ex
    exact ⟨b, vs, t, e1, hc _ _ _ _ e2, e3.keep k.er, e4, e5, e6⟩
  · intro r row hr
    obtain ⟨v, e1, e2, e3⟩ := (h.rw r row hr).ex
    refine ⟨v, e1, e2.keep k, fun hl => ?_⟩
    obtain ⟨⟨vals, hown⟩, hcl, hS⟩ := e3 hl
    refine ⟨⟨vals, hown.1, ?_⟩, hcl, hS⟩
    rcases hown.2 with hn | ⟨g, cap, cur, rfl, hg, hgg, rest⟩
    · exact .inl hn
    · exact .inr ⟨g, cap, cur, rfl, hg, hc _ _ _ _ hgg, rest⟩
theorem RG.turn {a' : Act} {D : Nat} {o o' : Obj} (h : RG c s a w g) (hD : w.heap[D]? = some o) (ho : o.isCells = false) (hm : ∀ es cl, o ≠ .map es cl) (hB : c.own D) (ht : a'.tmps = a.tmps)
    (hd : DefOk c.own (w.putObj D o') a'.defers) : RG c s a' (w.putObj D o') g := by
  refine h.same (fun b cs t fz hb => ?_) (fun b es cl hb => ?_) ?_ ht hd
  · rw [World.putObj_heap_other (fun e => by subst e; rw [hb] at hD; cases hD; cases ho)]; exact hb
  · rw [World.putObj_heap_other (fun e => by subst e; rw [hb] at hD; cases hD; exact hm _ _ rfl)]; exact hb
  · have hg := grownBy_putObj' w D o'
    exact ⟨hg.os.trans h.below.os, hg.tape.trans h.below.tape, hg.output.trans h.below.output, Nat.le_trans h.below.size hg.size, fun k hk hn => (hg.block k (Nat.lt_of_lt_of_le hk h.below.size) (fun e => hn (.inl (by cases e; exact hB)))).trans (h.below.block k hk hn)⟩
theorem RG.world {w' : World} {S' : Addr → Prop} (h : RG c s a w g) (hb : Below w.heap.size w w') (h1 : ∀ x, g.S x → S' x) (h2 : ∀ x, S' x → g.S x ∨ w.heap.size ≤ x.block)
    (h3 : Good w' S') : RG c s a w' ⟨S', g.β, g.ρ, g.M⟩ :=
  h.grow ⟨.of hb, h1, h2, fun _ _ h => h, fun _ _ h => .inl h, fun b f hf => by
    obtain ⟨es, cl, h1, h2⟩ := h.df.mok b f hf
    exact ⟨es, cl, (hb.block b (Array.getElem?_eq_some_iff.1 h1).1).trans h1, h2⟩⟩ h3
theorem Good.below {w w' : World} {S : Addr → Prop} (h : Good w S) (hb : Below w.heap.size w w') : Good w' S := fun x hx => by
  obtain ⟨u, hu⟩ := h x hx
  exact ⟨u, (hb.cell (h.lt hx)).trans hu⟩
theorem RG.boxlt (h : RG c s a w g) {i : Nat} {x : Bx} {b : Nat} (hi : s.bx[i]? = some x) (hl : x.live = true) (hb : g.β[i]? = some b) : b < w.heap.size ∧ c.own b := by
  cases x with
  | dead => cases hl
  | mu cs =>
    obtain ⟨b', vs, t, e1, e2, _, e4, _⟩ := (h.bx i cs hi).ex
    rw [e1] at hb; cases hb
    exact ⟨(Array.getElem?_eq_some_iff.1 e2).1, e4⟩
  | fz cs =>
    obtain ⟨b', vs, t, e1, e2, _, e4, _⟩ := (h.fz i cs hi).ex
    rw [e1] at hb; cases hb
    exact ⟨(Array.getElem?_eq_some_iff.1 e2).1, e4⟩
theorem RG.rowlt (h : RG c s a w g) {r : Nat} {row : Row} {v : Value} {gb : Nat} (hr : s.rw[r]? = some row) (hl : row.live = true) (hv : g.ρ[r]? = some v) (hb : v.ownBlock = some gb) : gb < w.heap.size ∧ c.own gb := by
  obtain ⟨v', e1, e2, e3⟩ := (h.rw r row hr).ex
  rw [e1] at hv; cases hv
  obtain ⟨⟨vals, hown⟩, _, ho⟩ := e3 hl
  have := hown.lt gb hb
  exact ⟨this.2, (ho gb hb).1⟩
theorem below_alloc (w : World) (o : Obj) : Below w.heap.size w (w.alloc o) := (Below.refl _ _).alloc (Nat.le_refl _) o
/-- A new box. -/
theorem RG.alloc {vs : Array Value} {t : TypeId} {cs : List D} (h : RG c s a w g) (hc : CellsR w g vs cs) :
    RG c { s with bx := s.bx ++ [.mu cs] } a (w.alloc (.cells vs t)) ⟨g.S, g.β ++ [w.heap.size], g.ρ, g.M⟩ := by
  have hb := below_alloc w (.cells vs t)
  have hw := h.world hb (fun _ h => h) (fun _ h => .inl h) (h.good.below hb)
  have k : Keeps (w.alloc (.cells vs t)) ⟨g.S, g.β, g.ρ, g.M⟩ (w.alloc (.cells vs t)) ⟨g.S, g.β ++ [w.heap.size], g.ρ, g.M⟩ :=
    ⟨fun _ _ => rfl, fun _ h => h, fun i b hi => by rw [List.getElem?_append_left (List.getElem?_eq_some_iff.1 hi).1]; exact hi, fun _ _ h => h, fun _ _ h => h⟩
  have hold : ∀ (i : Nat) (x : Bx), (s.bx ++ [Bx.mu cs])[i]? = some x → s.bx[i]? = some x ∧ i < s.bx.length ∨ x = .mu cs ∧ i = s.bx.length := fun i x hi => by
    rcases Nat.lt_or_ge i s.bx.length with hlt | hge
    · rw [List.getElem?_append_left hlt] at hi; exact .inl ⟨hi, hlt⟩
    · rw [List.getElem?_append_right hge] at hi
      have : i - s.bx.length = 0 := by have := (List.getElem?_eq_some_iff.1 hi).1; simp at this; omega
      rw [this] at hi; simp at hi; exact .inr ⟨hi.symm, by omega⟩
  have hβ : ∀ i, i < s.bx.length → ∀ b, (g.β ++ [w.heap.size])[i]? = some b → g.β[i]? = some b := fun i hi b hb => by
    rw [List.getElem?_append_left (by rw [h.lβ]; exact hi)] at hb; exact hb
  have hβn : (g.β ++ [w.heap.size])[s.bx.length]? = some w.heap.size := by rw [← h.lβ]; simp
  refine ⟨hw.df.gh rfl (fun i b _ hi => by show (g.β ++ [w.heap.size])[i]? = some b; rw [List.getElem?_append_left (List.getElem?_eq_some_iff.1 hi).1]; exact hi), hw.sz, hw.below, hw.own0, hw.good, hw.from0, hw.S0, hw.good0, by simp [h.lβ], hw.lρ, fun n => (hw.sl n).keep k, ?_, ?_, ?_, ?_⟩
  · intro i ds hi
    rcases hold i _ hi with ⟨hi, hl⟩ | ⟨e, rfl⟩
    · obtain ⟨b, vs', t', e1, e2, e3, e4, e5, e6⟩ := (hw.bx i ds hi).ex
      exact ⟨b, vs', t', k.β _ _ e1, e2, e3.keep k, e4, e5, e6⟩
    · cases e
      refine ⟨w.heap.size, vs, t, hβn, heap_alloc_new w _, (hc.keep (h.keeps (.of hb) (fun _ h => h) (fun _ _ h => h))).keep k, h.own0 _ h.below.size, fun _ x hx => ?_, fun h => by cases h⟩
      have := h.good.lt hx
      omega
  · intro i ds hi
    rcases hold i _ hi with ⟨hi, hl⟩ | ⟨e, rfl⟩
    · obtain ⟨b, vs', t', e1, e2, e3, e4, e5, e6⟩ := (hw.fz i ds hi).ex
      exact ⟨b, vs', t', k.β _ _ e1, e2, e3, e4, e5, e6⟩
    · cases e
  · intro r row hr
    obtain ⟨v, e1, e2, e3⟩ := (hw.rw r row hr).ex
    exact ⟨v, e1, e2.keep k, e3⟩
  · obtain ⟨κ, k1, k2⟩ := h.ap
    refine ⟨fun b => if b = w.heap.size then .inl s.bx.length else κ b, fun i x b hi hx hb => ?_, fun r row v gb hr hl hv hgb => ?_⟩
    · rcases hold i _ hi with ⟨hi, hl⟩ | ⟨rfl, rfl⟩
      · have hb' := hβ i hl b hb
        have := (h.boxlt hi hx hb').1
        simp only
        rw [if_neg (by omega)]
        exact k1 i x b hi hx hb'
      · rw [hβn] at hb; cases hb
        simp
    · have := (h.rowlt hr hl hv hgb).1
      simp only
      rw [if_neg (by omega)]
      exact k2 r row v gb hr hl hv hgb
def dstOk (s : St) (dst : Option Tmp) : Prop := match dst with | some n => n < s.n | none => True
def St.put (s : St) (dst : Option Tmp) (d : D) : St := match dst with | some n => { s with sl := Ab.put s.sl n d } | none => s
theorem RG.put {v : Value} {d : D} {dst : Option Tmp} (h : RG c s a w g) (hd : dstOk s dst) (hr : Rel w g v d) : RG c (s.put dst d) (a.put dst v) w g := by
  cases dst with
  | none => exact h
  | some n =>
    have hn : n < a.tmps.size := by rw [h.sz]; exact hd
    refine ⟨h.df.put (some n) v, by simp [Act.put, St.put, h.sz], h.below, h.own0, h.good, h.from0, h.S0, h.good0, h.lβ, h.lρ, fun m => ?_, h.bx, h.fz, h.rw, h.ap⟩
    simp only [Act.put, St.put, Ab.put]
    by_cases hm : m = n
    · subst hm
      simp [hn, hr]
    · rw [if_neg hm]
      have := h.sl m
      simpa [Array.getElem?_setIfInBounds, Ne.symm hm] using this
theorem RG.oneρ (h : RG c s a w g) {r : Nat} {v : Value} (hv : g.ρ[r]? = some v) : ∃ A n q, v = .slice A n q := by
  have hl : r < s.rw.length := by rw [← h.lρ]; exact (List.getElem?_eq_some_iff.1 hv).1
  obtain ⟨v', e1, e2, _⟩ := (h.rw r _ (List.getElem?_eq_getElem hl)).ex
  rw [e1] at hv; cases hv
  obtain ⟨A, c, _, _, rfl, _⟩ := e2.list_inv
  exact ⟨_, _, _, rfl⟩
theorem Rel.oneCell {v : Value} {d : D} (hρ : ∀ (r : Nat) (v : Value), g.ρ[r]? = some v → v.oneCell' = true) (hr : Rel w g v d) (h1 : d.one = true) : v.oneCell' = true := by
  cases hr <;> first | rfl | (simp [D.one] at h1; done) | (simpa [D.one] using h1) | skip
  rename_i r hv
  exact hρ r _ hv
theorem Rel.cellsR {v : Value} {d : D} (hρ : ∀ (r : Nat) (v : Value), g.ρ[r]? = some v → v.oneCell' = true) (hr : Rel w g v d) (h1 : d.cells.all D.one = true) : CellsR w g v.cells d.cells := by
  cases d with
  | agg cs =>
    obtain ⟨vs, rfl, hl, hr⟩ := hr.agg_inv
    exact ⟨by simpa [Value.cells, D.cells] using hl, fun q d hd => by simpa [Value.cells] using hr q d hd⟩
  | _ =>
    have h1' := hr.oneCell hρ (by simpa [D.cells] using h1)
    have hv : v.cells = #[v] := by cases v <;> simp_all [Value.cells, Value.oneCell']
    rw [hv]
    refine ⟨rfl, fun q d hd => ?_⟩
    have hq : q = 0 := by have := (List.getElem?_eq_some_iff.1 hd).1; simp [D.cells] at this; exact this
    subst hq
    simp [D.cells] at hd
    subst hd
    exact ⟨by simpa using hr, by simpa using h1'⟩
theorem RG.hρ (h : RG c s a w g) : ∀ (r : Nat) (v : Value), g.ρ[r]? = some v → v.oneCell' = true := fun r v hv => by
  obtain ⟨A, n, q, rfl⟩ := h.oneρ hv
  rfl
theorem er_hρ (g : Gh) : ∀ (r : Nat) (v : Value), g.er.ρ[r]? = some v → v.oneCell' = true := fun r v hv => by simp [Gh.er] at hv
end
end Go.Ab
end
section
namespace Go.Ab
open Go.RowKit
/-- A call of f with arguments that read so hands back what reads so; of what was there nothing has turned. -/
def CallsTo (P : Program) (f : FuncId) (ds : List D) (d : D) : Prop :=
  (∀ (args : Array Value) (w : World), (callFunc f args).run P w = .ok (.enter f args) w) ∧
  ∀ (S : Addr → Prop) (M : MM) (w : World) (args : List Value), Tab w → Good w S → MOk w M → args.length = ds.length → (∀ q x, ds[q]? = some x → Rel w ⟨S, [], [], M⟩ (args.getD q Go.undef) x) →
    Calls P f args.toArray w fun e w' => ∃ v S' M', e = .returned v ∧ Grow w S M w' S' M' ∧ Good w' S' ∧ Rel w' ⟨S', [], [], M'⟩ v d
def pureZ (bx : List Bx) (rw : List Row) : D → Option D
  | .own r => match rw[r]? with | some row => some (.list row.xs) | none => none
  | .box i off => match bx[i]? with | some (.fz cs) => some (.ro (cs.drop off)) | _ => none
  | .bsl i off n c => match bx[i]? with | some (.fz cs) => if off + n ≤ cs.length ∧ cs.all D.one = true ∧ n ≤ c then some (.list ((cs.drop off).take n)) else none | _ => none
  | .agg _ => none
  | .tup _ => none
  | .clo _ _ => none
  | .mth _ _ => none
  | d => some d
def pureLZ (bx : List Bx) (rw : List Row) : List D → Option (List D)
  | [] => some []
  | d :: ds => match pureZ bx rw d with | some d' => (pureLZ bx rw ds).map (d' :: ·) | none => none
def pureM (bx : List Bx) (rw : List Row) : D → Option D
  | .agg cs => (pureLZ bx rw cs).map .agg
  | d => pureZ bx rw d
def pureLM (bx : List Bx) (rw : List Row) : List D → Option (List D)
  | [] => some []
  | d :: ds => match pureM bx rw d with | some d' => (pureLM bx rw ds).map (d' :: ·) | none => none
def pureA (bx : List Bx) (rw : List Row) : D → Option D
  | .mth f cs => (pureLM bx rw cs).map (.mth f)
  | .clo f cs => (pureLZ bx rw cs).map (.clo f)
  | d => pureZ bx rw d
def pureL (bx : List Bx) (rw : List Row) : List D → Option (List D)
  | [] => some []
  | d :: ds => match pureA bx rw d with | some d' => (pureL bx rw ds).map (d' :: ·) | none => none
def pureD (bx : List Bx) (rw : List Row) : D → Option D
  | .agg cs => (pureL bx rw cs).map .agg
  | .clo f cs => (pureL bx rw cs).map (.clo f)
  | .val (.slice none 0 0) => some (.list [])
  | d => pureA bx rw d
def pureDs (bx : List Bx) (rw : List Row) : List D → Option (List D)
  | [] => some []
  | d :: ds => match pureD bx rw d with | some d' => (pureDs bx rw ds).map (d' :: ·) | none => none
section
variable {c : Ctx} {s : St} {a : Act} {w : World} {g : Gh}
theorem Rel.erase {v : Value} {d : D} (h : Rel w g v d) (hd : match d with | .box _ _ | .own _ | .agg _ | .tup _ | .clo _ _ | .bsl _ _ _ _ | .mth _ _ => False | _ => True) : Rel w g.er v d := by
  cases h with
  | undef g v => exact .undef _ _
  | int g k n => exact .int _ _ _
  | bool g b => exact .bool _ _
  | str g s => exact .str _ _
  | val g v => exact .val _ _
  | memo g b f h => exact .memo _ b f h
  | skp g => exact .skp _
  | list g A n c xs sz u hn hsz hcap hm hr => exact .list _ A n c xs sz u hn hsz hcap hm hr
  | ro g a cs u hm hr => exact .ro _ a cs u hm hr
  | _ => exact hd.elim
theorem Rel.nil (w : World) (g : Gh) : Rel w g (.slice none 0 0) (.list []) :=
  .list _ none 0 0 [] 0 (fun _ => Go.undef) rfl (by simp) (Nat.le_refl _) (fun q hq => by simp [flat] at hq) (fun q d hd => by simp [flat] at hd)
theorem pureZ_rel {v : Value} {d d' : D} (h : RG c s a w g) (hr : Rel w g v d) (hp : pureZ s.bx s.rw d = some d') : Rel w g.er v d' := by
  unfold pureZ at hp
  split at hp
  · rename_i r
    split at hp
    · rename_i row hrow
      simp only [Option.some.injEq] at hp
      subst hp
      cases hr with
      | own _ _ _ h' =>
        obtain ⟨v', e1, e2, _⟩ := (h.rw r row hrow).ex
        rw [e1] at h'; cases h'
        exact e2.erase trivial
    · cases hp
  · rename_i i off
    split at hp
    · rename_i cs hcs
      simp only [Option.some.injEq] at hp
      subst hp
      cases hr with
      | box _ _ _ b hb =>
        obtain ⟨b', vs, t, e1, e2, e3, e4, _, e6⟩ := (h.fz i cs hcs).ex
        rw [e1] at hb; cases hb
        obtain ⟨h1, h2⟩ := box_cells e2 e3 off
        refine .ro _ _ _ (fun q => vs.getD (off + q) Go.undef) (fun q hq => ?_) (fun q d hd => h2 q d hd)
        have hq' : off + q < cs.length := by simp at hq; omega
        exact ⟨(h1 q hq).1, by rw [add_block]; exact e6 rfl _ hq', (h1 q hq).2⟩
    · cases hp
  · rename_i i off n cp
    split at hp
    · rename_i cs hcs
      split at hp
      · rename_i hc
        simp only [Option.some.injEq] at hp
        subst hp
        cases hr with
        | bsl _ _ _ _ _ b hb =>
          obtain ⟨b', vs, t, e1, e2, e3, e4, _, e6⟩ := (h.fz i cs hcs).ex
          rw [e1] at hb; cases hb
          obtain ⟨h1, h2⟩ := box_cells e2 e3 off
          have hone : ∀ d ∈ cs, d.cells = [d] := fun d hd => by
            have := List.all_eq_true.1 hc.2.1 d hd
            cases d <;> first | rfl | (simp [D.one] at this)
          have hfl : ∀ l : List D, (∀ d ∈ l, d.cells = [d]) → flat l = l := fun l hl => by
            induction l with
            | nil => rfl
            | cons d l ih => show d.cells ++ flat l = _; rw [hl d (List.mem_cons_self ..), ih (fun x hx => hl x (List.mem_cons_of_mem _ hx))]; rfl
          have hmem : ∀ d ∈ (cs.drop off).take n, d ∈ cs := fun d hd => List.mem_of_mem_drop (List.mem_of_mem_take hd)
          have hf := hfl ((cs.drop off).take n) (fun d hd => hone d (hmem d hd))
          have hlen : ((cs.drop off).take n).length = n := by simp; omega
          refine .list _ _ _ _ _ 1 (fun q => vs.getD (off + q) Go.undef) hlen.symm (fun d hd => by rw [hone d (hmem d hd)]; rfl) hc.2.2 (fun q hq => ?_) (fun q d hd => ?_)
          · rw [hf, hlen] at hq
            have hq' : off + q < cs.length := by omega
            exact ⟨_, rfl, (h1 q (by simp; omega)).1, by rw [add_block]; exact e6 rfl _ hq', (h1 q (by simp; omega)).2⟩
          · rw [hf] at hd
            refine h2 q d ?_
            rw [List.getElem?_take] at hd
            split at hd
            · exact hd
            · cases hd
      · cases hp
    · cases hp
  · cases hp
  · cases hp
  · cases hp
  · cases hp
  · simp only [Option.some.injEq] at hp
    subst hp
    refine hr.erase ?_
    split <;> first | trivial | (exact (‹∀ (i off n c : Nat), D.bsl _ _ _ _ = D.bsl i off n c → False› _ _ _ _ rfl).elim) | (simp_all; done)
theorem pureLZ_get {bx : List Bx} {rw' : List Row} : ∀ {ds ds' : List D}, pureLZ bx rw' ds = some ds' → ds'.length = ds.length ∧ ∀ (q : Nat) (d' : D), ds'[q]? = some d' → ∃ d, ds[q]? = some d ∧ pureZ bx rw' d = some d'
  | [], ds', h => by simp [pureLZ] at h; subst h; simp
  | d :: ds, ds', h => by
    simp only [pureLZ] at h
    split at h
    · rename_i d1 h1
      simp only [Option.map_eq_some_iff] at h
      obtain ⟨l, hl, rfl⟩ := h
      obtain ⟨e1, e2⟩ := pureLZ_get hl
      refine ⟨by simp [e1], fun q d' hq => ?_⟩
      cases q with
      | zero => simp at hq; subst hq; exact ⟨d, rfl, h1⟩
      | succ q => exact e2 q d' (by simpa using hq)
    · cases h
theorem pureM_rel {v : Value} {d d' : D} (h : RG c s a w g) (hr : Rel w g v d) (hp : pureM s.bx s.rw d = some d') : Rel w g.er v d' := by
  unfold pureM at hp
  split at hp
  · rename_i cs
    simp only [Option.map_eq_some_iff] at hp
    obtain ⟨l, hl, rfl⟩ := hp
    obtain ⟨e1, e2⟩ := pureLZ_get hl
    obtain ⟨vs, rfl, hl', hr'⟩ := hr.agg_inv
    refine .agg _ _ _ (by simp [hl', e1]) (fun q hq => ?_) (fun q x hx => ?_)
    · obtain ⟨y, hy, _⟩ := e2 q _ (List.getElem?_eq_getElem hq)
      simpa using (hr' q y hy).2
    · obtain ⟨y, hy, hp⟩ := e2 q x hx
      exact pureZ_rel h (by simpa using (hr' q y hy).1) hp
  · exact pureZ_rel h hr hp
theorem pureLM_get {bx : List Bx} {rw' : List Row} : ∀ {ds ds' : List D}, pureLM bx rw' ds = some ds' → ds'.length = ds.length ∧ ∀ (q : Nat) (d' : D), ds'[q]? = some d' → ∃ d, ds[q]? = some d ∧ pureM bx rw' d = some d'
  | [], ds', h => by simp [pureLM] at h; subst h; simp
  | d :: ds, ds', h => by
    simp only [pureLM] at h
    split at h
    · rename_i d1 h1
      simp only [Option.map_eq_some_iff] at h
      obtain ⟨l, hl, rfl⟩ := h
      obtain ⟨e1, e2⟩ := pureLM_get hl
      refine ⟨by simp [e1], fun q d' hq => ?_⟩
      cases q with
      | zero => simp at hq; subst hq; exact ⟨d, rfl, h1⟩
      | succ q => exact e2 q d' (by simpa using hq)
    · cases h
theorem pureA_rel {v : Value} {d d' : D} (h : RG c s a w g) (hr : Rel w g v d) (hp : pureA s.bx s.rw d = some d') : Rel w g.er v d' := by
  unfold pureA at hp
  split at hp
  · simp only [Option.map_eq_some_iff] at hp
    obtain ⟨l, hl, rfl⟩ := hp
    obtain ⟨e1, e2⟩ := pureLM_get hl
    cases hr with
    | mth _ f vs cs hl' hr' =>
      refine .mth _ _ vs l (by rw [hl', e1]) (fun q x hx => ?_)
      obtain ⟨y, hy, hp⟩ := e2 q x hx
      exact pureM_rel h (hr' q y hy) hp
  · simp only [Option.map_eq_some_iff] at hp
    obtain ⟨l, hl, rfl⟩ := hp
    obtain ⟨e1, e2⟩ := pureLZ_get hl
    cases hr with
    | clo _ f vs cs hl' hr' =>
      refine .clo _ _ vs l (by rw [hl', e1]) (fun q x hx => ?_)
      obtain ⟨y, hy, hp⟩ := e2 q x hx
      exact pureZ_rel h (hr' q y hy) hp
  · exact pureZ_rel h hr hp
theorem pureL_get {bx : List Bx} {rw' : List Row} : ∀ {ds ds' : List D}, pureL bx rw' ds = some ds' → ds'.length = ds.length ∧ ∀ (q : Nat) (d' : D), ds'[q]? = some d' → ∃ d, ds[q]? = some d ∧ pureA bx rw' d = some d'
  | [], ds', h => by simp [pureL] at h; subst h; simp
  | d :: ds, ds', h => by
    simp only [pureL] at h
    split at h
    · rename_i d1 h1
      simp only [Option.map_eq_some_iff] at h
      obtain ⟨l, hl, rfl⟩ := h
      obtain ⟨e1, e2⟩ := pureL_get hl
      refine ⟨by simp [e1], fun q d' hq => ?_⟩
      cases q with
      | zero => simp at hq; subst hq; exact ⟨d, rfl, h1⟩
      | succ q => exact e2 q d' (by simpa using hq)
    · cases h
theorem pureD_rel {v : Value} {d d' : D} (h : RG c s a w g) (hr : Rel w g v d) (hp : pureD s.bx s.rw d = some d') : Rel w g.er v d' := by
  unfold pureD at hp
  split at hp
  · simp only [Option.map_eq_some_iff] at hp
    obtain ⟨l, hl, rfl⟩ := hp
    obtain ⟨e1, e2⟩ := pureL_get hl
    obtain ⟨vs, rfl, hl', hr'⟩ := hr.agg_inv
    refine .agg _ _ _ (by simp [hl', e1]) (fun q hq => ?_) (fun q x hx => ?_)
    · obtain ⟨y, hy, _⟩ := e2 q _ (List.getElem?_eq_getElem hq)
      simpa using (hr' q y hy).2
    · obtain ⟨y, hy, hp⟩ := e2 q x hx
      exact pureA_rel h (by simpa using (hr' q y hy).1) hp
  · simp only [Option.map_eq_some_iff] at hp
    obtain ⟨l, hl, rfl⟩ := hp
    obtain ⟨e1, e2⟩ := pureL_get hl
    cases hr with
    | clo _ f vs cs hl' hr' =>
      refine .clo _ _ vs l (by rw [hl', e1]) (fun q x hx => ?_)
      obtain ⟨y, hy, hp⟩ := e2 q x hx
      exact pureA_rel h (hr' q y hy) hp
  · simp only [Option.some.injEq] at hp
    subst hp
    cases hr
    exact .nil _ _
  · exact pureA_rel h hr hp
theorem pureDs_get {bx : List Bx} {rw' : List Row} : ∀ {ds ds' : List D}, pureDs bx rw' ds = some ds' → ds'.length = ds.length ∧ ∀ (q : Nat) (d' : D), ds'[q]? = some d' → ∃ d, ds[q]? = some d ∧ pureD bx rw' d = some d'
  | [], ds', h => by simp [pureDs] at h; subst h; simp
  | d :: ds, ds', h => by
    simp only [pureDs] at h
    split at h
    · rename_i d1 h1
      simp only [Option.map_eq_some_iff] at h
      obtain ⟨l, hl, rfl⟩ := h
      obtain ⟨e1, e2⟩ := pureDs_get hl
      refine ⟨by simp [e1], fun q d' hq => ?_⟩
      cases q with
      | zero => simp at hq; subst hq; exact ⟨d, rfl, h1⟩
      | succ q => exact e2 q d' (by simpa using hq)
    · cases h
/-- What a call leaves: a datum, a world that has grown. -/
def CallK (P : Program) (f : FuncId) (ds : List D) (k : D → Prop) : Prop := ∃ d, CallsTo P f ds d ∧ k d
theorem er_up (w : World) (S : Addr → Prop) (β : List Nat) (ρ : List Value) (M : MM) : Keeps w ⟨S, [], [], M⟩ w ⟨S, β, ρ, M⟩ :=
  ⟨fun _ _ => rfl, fun _ h => h, fun i b h => by simp at h, fun i b h => by simp at h, fun _ _ h => h⟩
/-- What is called: a function, with what goes ahead and behind. -/
def wFn (d : D) (k : FuncId → List D → List D → Prop) : Prop := match d with | .clo f cs => k f [] cs | .mth f fs => k f fs [] | _ => False
theorem wFn_rel {v : Value} {d : D} {k : FuncId → List D → List D → Prop} (hr : Rel w g v d) (hk : wFn d k) : ∃ f fs cs vf vc, k f fs cs ∧ v = .func (.func f) vf vc ∧ vf.size = fs.length ∧ vc.size = cs.length ∧
    (∀ q d, fs[q]? = some d → Rel w g (vf.getD q Go.undef) d) ∧ ∀ q d, cs[q]? = some d → Rel w g (vc.getD q Go.undef) d := by
  cases hr <;> first | exact hk.elim | skip
  · rename_i f vs cs hl hr
    exact ⟨f, [], cs, #[], vs, hk, rfl, rfl, hl, fun q d hd => by simp at hd, hr⟩
  · rename_i f vs cs hl hr
    exact ⟨f, cs, [], vs, #[], hk, rfl, hl, rfl, hr, fun q d hd => by simp at hd⟩
/-- One operation: a call. -/
theorem s_call {o : Oper} {fx : Operand} {xs : Array Operand} {at_ : Array TypeId} {K : St → Prop} {Q : Exit → Act → World → Prop}
    (ho : o.op = .call { callee := .value fx, args := xs, argTypes := at_ }) (h : RG c s a w g) (hd : dstOk s o.dst)
    (hk : wFn (s.ev fx) fun f fs cs => ∃ ds, pureDs s.bx s.rw (fs ++ xs.toList.map s.ev ++ cs) = some ds ∧ CallK c.P f ds fun d => K (s.put o.dst d)) : o.wp c.P a w (fun a' w' => ∃ s', R c s' a' w' ∧ K s') Q := by
  obtain ⟨f, fs, cs, ⟨vf⟩, ⟨vs⟩, ⟨ds, hp, d, ⟨hcall, hcs⟩, hk⟩, hv, hlf, hl, hrf, hr⟩ := wFn_rel (h.ev fx) hk
  obtain ⟨e1, e2⟩ := pureDs_get hp
  have hrun : (execOp a.eval o).run c.P w = .ok (.enter f (vf ++ xs.toList.map a.eval ++ vs).toArray) w := by
    simp [execOp, ho, resolve, hv, Deferred.ofValue, invoke]
    rw [hcall]
    simp
  have hlen : (vf ++ xs.toList.map a.eval ++ vs).length = ds.length := by
    rw [e1]; simp at hl hlf ⊢; omega
  have hlf' : vf.length = fs.length := by simpa using hlf
  have hcl := hcs g.S g.M w (vf ++ xs.toList.map a.eval ++ vs) (h.df.tab.at h.below) h.good h.df.mok hlen (fun q x hx => by
    obtain ⟨y, hy, hpy⟩ := e2 q x hx
    refine pureD_rel h ?_ hpy
    rw [List.getD_eq_getElem?_getD]
    rw [List.append_assoc] at hy ⊢
    rcases Nat.lt_or_ge q fs.length with hq | hq
    · rw [List.getElem?_append_left hq] at hy
      rw [List.getElem?_append_left (by omega)]
      have := hrf q y hy
      simpa using this
    rw [List.getElem?_append_right hq] at hy
    rw [List.getElem?_append_right (by omega), hlf']
    rcases Nat.lt_or_ge (q - fs.length) (xs.toList.map s.ev).length with hq | hq
    · rw [List.getElem?_append_left hq] at hy
      simp only [List.getElem?_map, Option.map_eq_some_iff] at hy
      obtain ⟨z, hz, rfl⟩ := hy
      rw [List.getElem?_append_left (by simpa using hq)]
      simp only [List.getElem?_map, hz, Option.map_some, Option.getD_some]
      exact h.ev z
    · rw [List.getElem?_append_right hq] at hy
      have := hr _ y hy
      rw [List.getElem?_append_right (by simpa using hq)]
      simpa using this)
  unfold Oper.wp
  rw [hrun]
  refine hcl.mono ?_
  rintro e w' ⟨v, S', M', rfl, hg, h3, hrel⟩
  exact ⟨s.put o.dst d, ⟨_, (h.grow hg h3).put hd (hrel.keep (er_up _ _ _ _ _))⟩, hk⟩
/-- One operation that only computes. -/
theorem s_pure {o : Oper} {K : St → Prop} {Q : Exit → Act → World → Prop} (h : RG c s a w g) (hd : dstOk s o.dst) (hy : Yields c.P o a w g fun d => K (s.put o.dst d)) :
    o.wp c.P a w (fun a' w' => ∃ s', R c s' a' w' ∧ K s') Q := by
  obtain ⟨v, d, hrun, hr, hk⟩ := hy
  unfold Oper.wp
  rw [hrun]
  exact ⟨s.put o.dst d, ⟨_, h.put hd hr⟩, hk⟩
end
end Go.Ab
end
section
namespace Go.Ab
open Go.RowKit
section
variable {c : Ctx} {s : St} {a : Act} {w : World} {g : Gh}
/-- Storing a list of cells into a list from some place on. -/
theorem foldl_set : ∀ (l : List Value) (k off : Nat) (arr : Array Value),
    ((l.zipIdx k).foldl (fun cs (p : Value × Nat) => cs.setIfInBounds (off + p.2) p.1) arr).size = arr.size ∧
    ∀ m, m < arr.size → ((l.zipIdx k).foldl (fun cs (p : Value × Nat) => cs.setIfInBounds (off + p.2) p.1) arr).getD m Go.undef =
      if off + k ≤ m ∧ m < off + k + l.length then l.getD (m - (off + k)) Go.undef else arr.getD m Go.undef
  | [], k, off, arr => by simp; intro m hm h1 h2; omega
  | v :: l, k, off, arr => by
    have ih := foldl_set l (k + 1) off (arr.setIfInBounds (off + k) v)
    simp only [List.zipIdx_cons, List.foldl_cons]
    refine ⟨by rw [ih.1]; simp, fun m hm => ?_⟩
    rw [ih.2 m (by simpa using hm)]
    by_cases h1 : off + (k + 1) ≤ m ∧ m < off + (k + 1) + l.length
    · rw [if_pos h1, if_pos (by simp; omega)]
      rw [show m - (off + k) = (m - (off + (k + 1))) + 1 by omega]
      simp
    · rw [if_neg h1]
      by_cases h2 : m = off + k
      · subst h2
        rw [if_pos (by simp)]
        simp [hm]
      · rw [if_neg (by simp; omega)]
        simp [hm, Ne.symm h2]
theorem cells_replace {vs us : Array Value} {cs ds : List D} {arr : Array Value} {off : Nat} (h : CellsR w g vs cs) (hu : CellsR w g us ds) (hle : off + ds.length ≤ cs.length)
    (hs : arr.size = vs.size) (hg : ∀ m, m < vs.size → arr.getD m Go.undef = if off ≤ m ∧ m < off + us.size then us.getD (m - off) Go.undef else vs.getD m Go.undef) :
    CellsR w g arr (cs.take off ++ ds ++ cs.drop (off + ds.length)) := by
  have hul := hu.1
  have hvl := h.1
  refine ⟨by simp; omega, fun q d hd => ?_⟩
  have hq : q < cs.length := by have := (List.getElem?_eq_some_iff.1 hd).1; simp at this; omega
  rw [hg q (by omega)]
  by_cases h1 : off ≤ q ∧ q < off + us.size
  · rw [if_pos h1]
    rw [List.append_assoc, List.getElem?_append_right (by simp; omega), List.getElem?_append_left (by simp; omega)] at hd
    have e : q - (cs.take off).length = q - off := by simp; omega
    rw [e] at hd
    exact hu.2 _ d hd
  · rw [if_neg h1]
    refine h.2 q d ?_
    rcases Nat.lt_or_ge q off with h2 | h2
    · rw [List.append_assoc, List.getElem?_append_left (by simp; omega), List.getElem?_take, if_pos h2] at hd
      exact hd
    · have h3 : off + ds.length ≤ q := by omega
      rw [List.getElem?_append_right (by simp; omega), List.getElem?_drop] at hd
      have e : off + ds.length + (q - (cs.take off ++ ds).length) = q := by simp; omega
      rw [e] at hd
      exact hd
theorem fold_arr (v : Value) (off : Nat) (cells : Array Value) :
    (v.cells.zipIdx.foldl (fun cs (p : Value × Nat) => cs.setIfInBounds (off + p.2) p.1) cells) = (v.cells.toList.zipIdx 0).foldl (fun cs (p : Value × Nat) => cs.setIfInBounds (off + p.2) p.1) cells := by
  rw [← Array.foldl_toList, Array.toList_zipIdx]
def fillD' (place : Nat → Option (Nat × Nat)) (cs : List D) : List (Nat × D) → Option (List D)
  | [] => some cs
  | (i, d) :: rest => match place i with
    | some (off, sz) => if d.cells.length = sz ∧ off + d.cells.length ≤ cs.length ∧ d.cells.all D.one = true
        then fillD' place (cs.take off ++ d.cells ++ cs.drop (off + d.cells.length)) rest else none
    | none => none
theorem fill_rel (place : Nat → Option (Nat × Nat)) : ∀ (l : List (Nat × Value × D)) (cells : Array Value) (cs cs' : List D), CellsR w g cells cs →
    (∀ t ∈ l, t.2.2.cells.all D.one = true → CellsR w g t.2.1.cells t.2.2.cells) →
    fillD' place cs (l.map fun t => (t.1, t.2.2)) = some cs' → ∃ cells', Instr.fill place cells (l.map fun t => (t.1, t.2.1)) = some cells' ∧ CellsR w g cells' cs'
  | [], cells, cs, cs', hc, _, hf => by simp [fillD'] at hf; subst hf; exact ⟨cells, by simp [Instr.fill], hc⟩
  | (i, v, d) :: l, cells, cs, cs', hc, hl, hf => by
    simp only [List.map_cons, fillD'] at hf
    split at hf
    · rename_i off sz hp
      split at hf
      · rename_i hcond
        obtain ⟨h1, h2, h3⟩ := hcond
        have hx : CellsR w g v.cells d.cells := hl (i, v, d) (List.mem_cons_self ..) h3
        have hsz : v.cells.size = d.cells.length := hx.1
        obtain ⟨f1, f2⟩ := foldl_set v.cells.toList 0 off cells
        have hc2 : CellsR w g (v.cells.zipIdx.foldl (fun cs (p : Value × Nat) => cs.setIfInBounds (off + p.2) p.1) cells) (cs.take off ++ d.cells ++ cs.drop (off + d.cells.length)) := by
          rw [fold_arr]
          refine cells_replace hc hx h2 f1 (fun m hm => ?_)
          rw [f2 m hm]
          simp
        obtain ⟨cells', e1, e2⟩ := fill_rel place l _ _ _ hc2 (fun t ht => hl t (List.mem_cons_of_mem _ ht)) hf
        refine ⟨cells', ?_, e2⟩
        have hcs : cells.size = cs.length := hc.1
        simp only [List.map_cons, Instr.fill, hp]
        rw [if_neg (by simp; omega)]
        exact e1
      · cases hf
    · cases hf
def placeD (P : Program) (t : TypeId) : Option (Nat → Option (Nat × Nat)) := match P.underlying t with
  | some (.struct fs) => if fs.all (fun f => (P.info? f.type).isSome) then some fun i => (fs.toList.map fun f => (f.offset, szOf P f.type))[i]? else none
  | some (.array _ e) => if szOf P e = 0 then none else some fun i => some (i * szOf P e, szOf P e)
  | _ => none
theorem run_mapM_ok {α β : Type} (P : Program) (w : World) (f : α → Sem β) (f' : α → β) : ∀ (l : List α), (∀ x ∈ l, (f x).run P w = .ok (f' x) w) → (l.mapM f).run P w = .ok (l.map f') w
  | [], _ => by simp
  | x :: l, h => by
    have h1 := h x (List.mem_cons_self ..)
    have h2 := run_mapM_ok P w f f' l (fun y hy => h y (List.mem_cons_of_mem _ hy))
    simp [h1, h2]
theorem zeroD_run {P : Program} {t : TypeId} {zs : List D} (h : zeroD P t = some zs) (w : World) (g : Gh) : ∃ z, (zeroValue t).run P w = .ok z w ∧ CellsR w g z.cells zs ∧ ∃ i, P.info? t = some i ∧ i.size = zs.length := by
  unfold zeroD at h
  split at h
  · rename_i i hi
    split at h
    · rename_i z hz
      split at h
      · rename_i hc
        simp only [Bool.and_eq_true, beq_iff_eq] at hc
        simp only [Option.some.injEq] at h
        subst h
        refine ⟨z, by simp [zeroValue, typeInfo, hi, hz], ⟨by simp, fun q d hd => ?_⟩, i, hi, by simp [hc.2]⟩
        simp only [List.getElem?_map, Array.getElem?_toList, Option.map_eq_some_iff] at hd
        obtain ⟨v, hv, rfl⟩ := hd
        have hl := (Array.getElem?_eq_some_iff.1 hv).1
        have he := (Array.getElem?_eq_some_iff.1 hv).2
        have e : z.cells.getD q Go.undef = v := by simp [hl, he]
        rw [e]
        exact ⟨rel_const _ _ _, Array.all_eq_true.1 hc.1 q hl |> fun h => by rw [he] at h; exact h⟩
      · cases h
    · cases h
  · cases h
theorem y_build {t : TypeId} {ps : Array (Nat × Operand)} {o : Oper} {k : D → Prop} (h : RG c s a w g) (ho : o.op = .build t ps)
    (hk : wOpt (zeroD c.P t) fun zs => wOpt (placeD c.P t) fun place => wOpt (fillD' place zs (ps.toList.map fun p => (p.1, s.ev p.2))) fun cs => k (.agg cs)) : Yields c.P o a w g k := by
  obtain ⟨zs, hz, hk⟩ := wOpt_some hk
  obtain ⟨place, hp, hk⟩ := wOpt_some hk
  obtain ⟨cs, hf, hk⟩ := wOpt_some hk
  obtain ⟨z, hzr, hzc, _⟩ := zeroD_run hz w g
  obtain ⟨cells', e1, e2⟩ := fill_rel place (ps.toList.map fun p => (p.1, a.eval p.2, s.ev p.2)) z.cells zs cs hzc (fun t ht h1 => by
    simp only [List.mem_map] at ht
    obtain ⟨p, _, rfl⟩ := ht
    exact (h.ev p.2).cellsR h.hρ h1) (by rw [List.map_map]; exact hf)
  rw [List.map_map] at e1
  simp only [Function.comp_def] at e1
  refine ⟨.agg cells', .agg cs, ?_, .agg _ _ _ e2.1 (fun q hq => (e2.2 q _ (List.getElem?_eq_getElem hq)).2) (fun q d hd => (e2.2 q d hd).1), hk⟩
  have hpl : (ps.map fun p => (p.1, a.eval p.2)).toList = ps.toList.map fun p => (p.1, a.eval p.2) := by simp
  unfold placeD at hp
  split at hp
  · rename_i fs hu
    split at hp
    · rename_i hall
      simp only [Option.some.injEq] at hp
      subst hp
      have hm : (fs.mapM fun f => do pure (f.offset, ← sizeOf f.type) : Sem (Array (Nat × Nat))).run c.P w = .ok (fs.map fun f => (f.offset, szOf c.P f.type)) w := by
        rw [Array.mapM_eq_mapM_toList]
        have := run_mapM_ok c.P w (fun f : Field => (do pure (f.offset, ← sizeOf f.type) : Sem (Nat × Nat))) (fun f => (f.offset, szOf c.P f.type)) fs.toList (fun f hf => by
          have hi : (c.P.info? f.type).isSome = true := by
            have := Array.all_eq_true'.1 hall f (Array.mem_toList_iff.1 hf)
            simpa using this
          obtain ⟨i, hi⟩ := Option.isSome_iff_exists.1 hi
          simp [sizeOf, typeInfo, hi, szOf, Program.cellsOf])
        simp at this ⊢
        rw [this]
        simp
        rw [← Array.toList_map, Array.toArray_toList]
      have e1' : Instr.fill (fun x => (fs.map fun f => (f.offset, szOf c.P f.type))[x]?) z.cells (ps.toList.map fun p => (p.1, a.eval p.2)) = some cells' := by
        rw [← e1]; congr 1; funext i; simp
      simp only [execOp, ho, Instr.build, Sem.run_bind, hzr, Result.andThen_ok, run_underlying hu, hm, hpl]
      rw [e1']
      simp
    · cases hp
  · rename_i n e hu
    split at hp
    · cases hp
    · rename_i hz0
      simp only [Option.some.injEq] at hp
      subst hp
      simp only [execOp, ho, Instr.build, Sem.run_bind, hzr, Result.andThen_ok, run_underlying hu, run_sizeOf hz0, hpl]
      rw [e1]
      simp
  · cases hp
theorem fillD_all (sz : Nat) : ∀ (ds done : List D), (∀ d ∈ ds, d.cells.length = sz ∧ d.cells.all D.one = true) → (∀ d ∈ done, d.cells.length = sz) →
    fillD' (fun i => some (i * sz, sz)) (flat done ++ List.replicate (ds.length * sz) D.undef) ((List.range' done.length ds.length).zip ds) = some (flat (done ++ ds))
  | [], done, _, _ => by simp [fillD', flat]
  | d :: ds, done, h, hd => by
    obtain ⟨h1, h2⟩ := h d (List.mem_cons_self ..)
    have hfl := flat_length sz done hd
    have ih := fillD_all sz ds (done ++ [d]) (fun x hx => h x (List.mem_cons_of_mem _ hx)) (fun x hx => by
      rcases List.mem_append.1 hx with hx | hx
      · exact hd x hx
      · rw [List.mem_singleton.1 hx]; exact h1)
    simp only [List.length_cons, List.range'_succ, List.zip_cons_cons, fillD']
    rw [if_pos ⟨h1, by simp only [List.length_append, List.length_replicate, hfl, h1, Nat.add_mul]; omega, h2⟩]
    have e : List.take (done.length * sz) (flat done ++ List.replicate ((ds.length + 1) * sz) D.undef) ++ d.cells ++ List.drop (done.length * sz + d.cells.length) (flat done ++ List.replicate ((ds.length + 1) * sz) D.undef) =
        flat (done ++ [d]) ++ List.replicate (ds.length * sz) D.undef := by
      rw [← hfl, List.take_left, h1, List.drop_append, List.drop_eq_nil_of_le (by omega), List.drop_replicate]
      have : (ds.length + 1) * sz - ((flat done).length + sz - (flat done).length) = ds.length * sz := by rw [Nat.add_mul]; omega
      rw [this]
      simp [flat]
    rw [e]
    have hl : (done ++ [d]).length = done.length + 1 := by simp
    rw [hl] at ih
    rw [ih]
    simp
/-- New immutable memory: a slice that reads as the list. -/
theorem RG.newList {cells : Array Value} {e : TypeId} {ds : List D} {sz : Nat} (h : RG c s a w g) (hc : CellsR w g.er cells (flat ds)) (hsz : ∀ d ∈ ds, d.cells.length = sz) :
    ∃ S', RG c s a (w.alloc (.cells cells e)) ⟨S', g.β, g.ρ, g.M⟩ ∧ (∀ x, g.S x → S' x) ∧ Rel (w.alloc (.cells cells e)) ⟨S', g.β, g.ρ, g.M⟩ (.slice (some ⟨w.heap.size, 0, none⟩) ds.length ds.length) (.list ds) := by
  have hb := below_alloc w (.cells cells e)
  refine ⟨fun x => g.S x ∨ ∃ q, q < (flat ds).length ∧ x = ⟨w.heap.size, q, none⟩, ?_, fun x hx => .inl hx, ?_⟩
  · refine h.world hb (fun x hx => .inl hx) (fun x hx => ?_) (fun x hx => ?_)
    · rcases hx with hx | ⟨q, _, rfl⟩
      · exact .inl hx
      · exact .inr (Nat.le_refl _)
    · rcases hx with hx | ⟨q, hq, rfl⟩
      · exact h.good.below hb x hx
      · refine ⟨cells.getD q Go.undef, ?_⟩
        rw [cell_of_row _ _ q cells e (0, 0) (heap_alloc_new w _)]
        have : q < cells.size := by rw [hc.1]; exact hq
        simp [this]
  · refine .list _ _ _ _ ds sz (fun q => cells.getD q Go.undef) rfl hsz (Nat.le_refl _) (fun q hq => ⟨⟨w.heap.size, 0, none⟩, rfl, ?_, ?_, ?_⟩) (fun q d hd => ?_)
    · rw [add_block, Nat.zero_add, cell_of_row _ _ q cells e (0, 0) (heap_alloc_new w _)]
      have : q < cells.size := by rw [hc.1]; exact hq
      simp [this]
    · rw [add_block, Nat.zero_add]; exact .inr ⟨q, hq, rfl⟩
    · exact (hc.2 q _ (List.getElem?_eq_getElem hq)).2
    · exact ((hc.2 q d hd).1.keep (h.keeps (.of hb) (fun _ h => h) (fun _ _ h => h)).er).keep ⟨fun _ _ => rfl, fun x hx => .inl hx, fun _ _ h => h, fun _ _ h => h, fun _ _ h => h⟩
theorem s_buildSlice {t : TypeId} {n : Nat} {ps : Array (Nat × Operand)} {o : Oper} {K : St → Prop} {Q : Exit → Act → World → Prop} (h : RG c s a w g) (ho : o.op = .buildSlice t n ps) (hd : dstOk s o.dst)
    (hk : wOpt (elemOf c.P t) fun e => szOf c.P e ≠ 0 ∧ n * szOf c.P e ≤ 16777216 ∧ (zeroD c.P e).isSome = true ∧ ps.toList.map (·.1) = List.range n ∧
      wOpt (pureDs s.bx s.rw (ps.toList.map fun p => s.ev p.2)) fun ds => (∀ d ∈ ds, d.cells.length = szOf c.P e ∧ d.cells.all D.one = true) ∧ K (s.put o.dst (.list ds))) :
    o.wp c.P a w (fun a' w' => ∃ s', R c s' a' w' ∧ K s') Q := by
  obtain ⟨e, he, hz, hle, hzo, hps, hk⟩ := wOpt_some hk
  obtain ⟨ds, hp, hds, hk⟩ := wOpt_some hk
  obtain ⟨zs, hzs⟩ := Option.isSome_iff_exists.1 hzo
  obtain ⟨z, hzr, hzc, i, hi, hisz⟩ := zeroD_run hzs w g
  obtain ⟨e1, e2⟩ := pureDs_get hp
  have hn : ps.toList.length = n := by have := congrArg List.length hps; simpa using this
  have hdl : ds.length = n := by rw [e1]; simpa using hn
  have hzl : zs.length = szOf c.P e := by simp [szOf, Program.cellsOf, hi, hisz]
  have hzcs : z.cells.size = szOf c.P e := by rw [hzc.1, hzl]
  -- the parts, each with its datum
  let l : List (Nat × Value × D) := (List.range n).zip ((ps.toList.map fun p => a.eval p.2).zip ds)
  have hl1 : (l.map fun t => (t.1, t.2.1)) = ps.toList.map fun p => (p.1, a.eval p.2) := by
    apply List.ext_getElem
    · simp [l, hn, hdl]
    · intro q h1 h2
      simp [l]
      have h3 : q < ps.toList.length := by simpa using h2
      have := congrArg (fun l => l[q]?) hps
      simp only [List.getElem?_map] at this
      rw [List.getElem?_eq_getElem h3, List.getElem?_range (by rw [← hn]; exact h3)] at this
      simp at this
      exact this.symm
  have hl2 : (l.map fun t => (t.1, t.2.2)) = (List.range' 0 ds.length).zip ds := by
    apply List.ext_getElem
    · simp [l, hn, hdl]
    · intro q h1 h2
      simp [l]
  have hinit : CellsR w g.er ((Array.range (n * szOf c.P e)).map (z.cells[· % z.cells.size]!)) (List.replicate (ds.length * szOf c.P e) D.undef) := by
    refine ⟨by simp [hdl], fun q d hd => ?_⟩
    have hq : q < n * szOf c.P e := by have := (List.getElem?_eq_some_iff.1 hd).1; simpa [hdl] using this
    have hd' : d = .undef := by have := (List.getElem?_eq_some_iff.1 hd).2; simpa using this.symm
    subst hd'
    have hm : q % z.cells.size < z.cells.size := Nat.mod_lt _ (by rw [hzcs]; omega)
    refine ⟨.undef _ _, ?_⟩
    have hm2 : q % z.cells.size < zs.length := by rw [← hzc.1]; exact hm
    have := (hzc.2 (q % z.cells.size) _ (List.getElem?_eq_getElem hm2)).2
    simp [hq, hm]
    simpa [hm] using this
  have hfill := fillD_all (szOf c.P e) ds [] (fun d hd => hds d hd) (by simp)
  obtain ⟨cells', f1, f2⟩ := fill_rel (w := w) (g := g.er) (fun i => some (i * szOf c.P e, szOf c.P e)) l _ _ (flat ds) hinit (fun t ht h1 => by
    obtain ⟨q, hq, rfl⟩ := List.getElem_of_mem ht
    have hq1 : q < ps.toList.length := by simp [l] at hq; simp; omega
    have hq2 : q < ds.length := by rw [hdl, ← hn]; exact hq1
    have hdq : ds[q]? = some (l[q]).2.2 := by simp [l, hq2]
    obtain ⟨y, hy, hpy⟩ := e2 q _ hdq
    simp only [List.getElem?_map, Option.map_eq_some_iff] at hy
    obtain ⟨p, hp', rfl⟩ := hy
    have hv : (l[q]).2.1 = a.eval p.2 := by
      have := (List.getElem?_eq_some_iff.1 hp').2
      simp only [l, List.getElem_zip, List.getElem_map]
      rw [this]
    rw [hv]
    exact (pureD_rel h (h.ev p.2) hpy).cellsR (er_hρ g) h1) (by rw [hl2]; simpa [flat] using hfill)
  obtain ⟨S', r1, r2, r3⟩ := h.newList (e := e) f2 (fun d hd => (hds d hd).1)
  have hrun : (execOp a.eval o).run c.P w = .ok (.value (.slice (some ⟨w.heap.size, 0, none⟩) n n)) (w.alloc (.cells cells' e)) := by
    have hpl : (ps.map fun p => (p.1, a.eval p.2)).toList = ps.toList.map fun p => (p.1, a.eval p.2) := by simp
    rw [hl1] at f1
    simp only [execOp, ho, Instr.buildSlice, Sem.run_bind, run_underlying (elemOf_u he), Result.andThen_ok, run_sizeOf hz, hpl]
    rw [if_neg (by simp; omega)]
    by_cases h0 : n * szOf c.P e = 0
    · rw [if_pos h0]
      have hn0 : n = 0 := by rcases Nat.mul_eq_zero.1 h0 with h | h; exact h; exact absurd h hz
      subst hn0
      have hpnil : ps.toList = [] := List.eq_nil_of_length_eq_zero hn
      simp [hpnil, Instr.fill] at f1 ⊢
      subst f1
      have r0 : Array.range 0 = #[] := rfl
      simp [newRow, r0]
    · rw [if_neg h0]
      simp only [Sem.run_bind, hzr, Result.andThen_ok, Sem.run_pure]
      rw [f1]
      simp [newRow]
  unfold Oper.wp
  rw [hrun]
  rw [hdl] at r3
  exact ⟨s.put o.dst (.list ds), ⟨_, r1.put hd r3⟩, hk⟩
end
end Go.Ab
end
