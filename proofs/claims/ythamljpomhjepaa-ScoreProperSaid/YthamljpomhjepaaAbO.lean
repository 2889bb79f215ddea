import Derived.Test.YthamljpomhjepaaAbN
set_option linter.unusedVariables false
set_option linter.unusedSimpArgs false
namespace Go.Ab
open Go.RowKit

section
variable {c : Ctx} {s : St} {a : Act} {w : World} {g : Gh}

/-- A slice that nothing else lies in is taken for a row of the call's own. -/
theorem RG.pushRow {v : Value} {xs : List D} {e : TypeId} {sz : Nat} {vals : List Value} (h : RG c s a w g) (hrel : Rel w g v (.list xs)) (hown : w.ownsRow 0 e sz v xs.length vals) (hcl : ∀ x ∈ xs, x.cells.length = sz)
    (hS : ∀ gb, v.ownBlock = some gb → c.own gb ∧ ∀ x, g.S x → x.block = gb → x.off < xs.length * sz)
    (hb1 : ∀ gb, v.ownBlock = some gb → ∀ (i : Nat) (x : Bx) (b : Nat), s.bx[i]? = some x → x.live = true → g.β[i]? = some b → b ≠ gb)
    (hb2 : ∀ gb, v.ownBlock = some gb → ∀ (r : Nat) (row : Row) (v2 : Value) (g2 : Nat), s.rw[r]? = some row → row.live = true → g.ρ[r]? = some v2 → v2.ownBlock = some g2 → g2 ≠ gb) :
    RG c { s with rw := s.rw ++ [⟨true, e, sz, xs⟩] } a w ⟨g.S, g.β, g.ρ ++ [v], g.M⟩ := by
  have k : Keeps w g w ⟨g.S, g.β, g.ρ ++ [v], g.M⟩ := ⟨fun _ _ => rfl, fun _ h => h, fun _ _ h => h, fun i b hi => by
    rw [List.getElem?_append_left (List.getElem?_eq_some_iff.1 hi).1]; exact hi, fun _ _ h => h⟩
  have hold : ∀ (i : Nat) (x : Row), (s.rw ++ [⟨true, e, sz, xs⟩])[i]? = some x → s.rw[i]? = some x ∧ i < s.rw.length ∨ x = ⟨true, e, sz, xs⟩ ∧ i = s.rw.length := fun i x hi => by
    rcases Nat.lt_or_ge i s.rw.length with hlt | hge
    · rw [List.getElem?_append_left hlt] at hi; exact .inl ⟨hi, hlt⟩
    · rw [List.getElem?_append_right hge] at hi
      have : i - s.rw.length = 0 := by have := (List.getElem?_eq_some_iff.1 hi).1; simp at this; omega
      rw [this] at hi; simp at hi; exact .inr ⟨hi.symm, by omega⟩
  have hn : (g.ρ ++ [v])[s.rw.length]? = some v := by rw [← h.lρ]; simp
  refine ⟨h.df.gh rfl, h.sz, h.below, h.own0, h.good, h.from0, h.S0, h.good0, h.lβ, by simp [h.lρ], fun n => (h.sl n).keep k, ?_, ?_, ?_, ?_⟩
  · intro i cs hi
    obtain ⟨b, vs, t, e1, e2, e3, e4, e5, e6⟩ := (h.bx i cs hi).ex
    exact ⟨b, vs, t, e1, e2, e3.keep k, e4, e5, e6⟩
  · intro i cs hi
    obtain ⟨b, vs, t, e1, e2, e3, e4, e5, e6⟩ := (h.fz i cs hi).ex
    exact ⟨b, vs, t, e1, e2, e3, e4, e5, e6⟩
  · intro r row hr
    rcases hold r _ hr with ⟨hr, _⟩ | ⟨rfl, rfl⟩
    · obtain ⟨v, e1, e2, e3⟩ := (h.rw r row hr).ex
      exact ⟨v, k.ρ _ _ e1, e2.keep k, e3⟩
    · exact ⟨_, hn, hrel.keep k, fun _ => ⟨⟨vals, hown⟩, hcl, hS⟩⟩
  · obtain ⟨κ, k1, k2⟩ := h.ap
    refine ⟨fun b => if v.ownBlock = some b then .inr s.rw.length else κ b, fun i x b hi hx hb => ?_, fun r row v2 gb hr hl hv hgb => ?_⟩
    · simp only
      rw [if_neg (fun e => hb1 b e i x b hi hx hb rfl)]
      exact k1 i x b hi hx hb
    · rcases hold r _ hr with ⟨hr, hlt⟩ | ⟨rfl, rfl⟩
      · rw [List.getElem?_append_left (by rw [h.lρ]; exact hlt)] at hv
        simp only
        rw [if_neg (fun e => hb2 gb e r row v2 gb hr hl hv hgb rfl)]
        exact k2 r row v2 gb hr hl hv hgb
      · rw [hn] at hv; cases hv
        simp only
        rw [if_pos hgb]

/-- A region that starts with a new empty slice. -/
theorem abs_region_row0 {id d : Nat} {t e : TypeId} {ty : TypeId} {pos : String} {aft : Array Edge} {l : List Oper} {Q : Exit → St → Prop} (he : elemOf c.P t = some e) (hz : szOf c.P e ≠ 0) (hd : d < s.n)
    (h : ∀ K : St → Prop, (∀ s', Q .normal s' → K s') → evOps c.P (⟨some d, .buildSlice t 0 #[], ty, pos, aft, none⟩ :: l) l (St.put { s with rw := s.rw ++ [⟨true, e, szOf c.P e, []⟩] } (some d) (.own s.rw.length)) K) :
    Abs c (.region id (⟨some d, .buildSlice t 0 #[], ty, pos, aft, none⟩ :: l).toArray false) Q s := by
  rintro a w ⟨g, hg⟩
  refine wpIn_region_lit ?_
  obtain ⟨o, ho⟩ : ∃ o : Oper, o = ⟨some d, .buildSlice t 0 #[], ty, pos, aft, none⟩ := ⟨_, rfl⟩
  rw [← ho] at h ⊢
  unfold wpListIn
  rw [if_pos (by rw [ho]; simp [Region.wanted])]
  have hrun : (execOp a.eval o).run c.P w = .ok (.value (.slice (some ⟨w.heap.size, 0, none⟩) 0 0)) (w.alloc (.cells #[] e)) := by
    have r0 : Array.range 0 = #[] := rfl
    rw [ho]
    simp [execOp, Instr.buildSlice, run_underlying (elemOf_u he), run_sizeOf hz, newRow, r0, Instr.fill]
  have hlt : ∀ {b}, b < w.heap.size → b ≠ w.heap.size := fun h e => by omega
  have hb := below_alloc w (.cells #[] e)
  have hw := hg.world hb (fun _ h => h) (fun _ h => .inl h) (hg.good.below hb)
  have hp := hw.pushRow (v := .slice (some ⟨w.heap.size, 0, none⟩) 0 0) (xs := []) (e := e) (sz := szOf c.P e) (vals := [])
    (.list _ _ 0 0 [] (szOf c.P e) (fun _ => Go.undef) rfl (by simp) (fun q hq => by simp [flat] at hq) (fun q d hd => by simp [flat] at hd))
    ⟨by simp, .inr ⟨w.heap.size, 0, #[], rfl, Nat.zero_le _, heap_alloc_new w _, Nat.le_refl _, Nat.zero_le _, by simp, by simp⟩⟩ (by simp)
    (fun gb hgb => by
      simp [Value.ownBlock] at hgb
      subst hgb
      exact ⟨hg.own0 _ hg.below.size, fun x hx e => by have := hg.good.lt hx; omega⟩)
    (fun gb hgb i x b hi hx hb => by
      simp [Value.ownBlock] at hgb
      subst hgb
      exact hlt (hg.boxlt hi hx hb).1)
    (fun gb hgb r row v2 g2 hr hl hv h2 => by
      simp [Value.ownBlock] at hgb
      subst hgb
      exact hlt (hg.rowlt hr hl hv h2).1)
  refine op_in (by rw [ho]; intro cl h; cases h) ?_
  unfold Oper.wp
  rw [hrun]
  have hdst : o.dst = some d := by rw [ho]
  show wpListIn c.F 0 c.P (o :: l).toArray (fun e a' w' => ∃ s', R c s' a' w' ∧ Q e s') l (a.put o.dst _) _
  rw [hdst]
  refine evOps_sound (K := Q .normal) (fun s a w hr hq => ⟨s, hr, hq⟩) l _ _ _ ⟨_, RG.put (s := { s with rw := s.rw ++ [⟨true, e, szOf c.P e, []⟩] }) (dst := some d) (d := .own s.rw.length) hp hd (.own _ _ _ ?_)⟩ (h _ (fun _ h => h))
  show (g.ρ ++ [_])[s.rw.length]? = _
  rw [← hg.lρ]; simp

/-- The leave of a function that hands back one slot. -/
theorem marks_leave1 {fn : Func} {t : Nat} {R : Ending → World → Prop} (hres : fn.results = #[.tmp t]) : ∀ (l : List Deferred) (a : Act) (w : World), RG c s a w g → a.defers = l →
    (∀ w', RG c s { a with defers := [] } w' g → R (.returned (a.tmps.getD t undef)) w') → LeavesInM Fence.wide 0 c.P fn a.tmps R l .returning w
  | [], a, w, h, hl, hR => by
    refine ⟨a.tmps.getD t undef, ?_, hR _ (by rw [show ({ a with defers := [] } : Act) = a by rw [← hl]]; exact h)⟩
    rw [results_eq, hres]
    simp [resOne]
  | d :: l, a, w, h, hl, hR => by
    obtain ⟨hnd, hall⟩ := h.df.dok
    rw [hl] at hnd hall
    obtain ⟨D, hB, rfl, hD⟩ := hall d (List.mem_cons_self ..)
    refine ⟨by simp, .inl ⟨D, _, rfl, run_takeDeferred hD, ?_⟩⟩
    have hg : RG c s { a with defers := l } (w.putObj D (.deferred none)) g := h.turn hD rfl (by simp) hB rfl ⟨(List.nodup_cons.1 hnd).2, fun d' hd' => by
      obtain ⟨D', hB', rfl, hD'⟩ := hall d' (List.mem_cons_of_mem _ hd')
      refine ⟨D', hB', rfl, ?_⟩
      rw [World.putObj_heap_other (fun e => by subst e; exact (List.nodup_cons.1 hnd).1 hd')]
      exact hD'⟩
    exact marks_leave1 hres l { a with defers := l } _ hg rfl hR
end

/-- A call that hands back a new slice, in which nothing else lies. -/
def CallsRow (P : Program) (f : FuncId) (ds : List D) (e : TypeId) (sz : Nat) (xs : List D) : Prop :=
  (∀ (args : Array Value) (w : World), (callFunc f args).run P w = .ok (.enter f args) w) ∧
  ∀ (S : Addr → Prop) (M : MM) (w : World) (args : List Value), Good w S → MOk w M → args.length = ds.length → (∀ q x, ds[q]? = some x → Rel w ⟨S, [], [], M⟩ (args.getD q Go.undef) x) →
    Calls P f args.toArray w fun e' w' => ∃ v S' M', e' = .returned v ∧ Grow w S M w' S' M' ∧ Good w' S' ∧ Rel w' ⟨S', [], [], M'⟩ v (.list xs) ∧ (∃ vals, w'.ownsRow 0 e sz v xs.length vals) ∧ (∀ x ∈ xs, x.cells.length = sz) ∧
      ∀ gb, v.ownBlock = some gb → w.heap.size ≤ gb ∧ ∀ x, S' x → x.block = gb → x.off < xs.length * sz

def rowQ (t : Nat) (e : TypeId) (sz : Nat) (xs : List D) : Exit → St → Prop
  | .normal, s => ∃ r, s.sl t = .own r ∧ s.rw[r]? = some ⟨true, e, sz, xs⟩
  | .ret, s => ∃ r, s.sl t = .own r ∧ s.rw[r]? = some ⟨true, e, sz, xs⟩
  | _, _ => False

theorem callsRow_of_abs {P : Program} {f : FuncId} {fn : Func} {code : Code} {ds : List D} {e : TypeId} {sz t n : Nat} {xs : List D} (hf : P.funcs[f]? = some fn) (hnt : fn.ntmps = n) (hres : fn.results = #[.tmp t])
    (hc : ∀ (args : Array Value) (w : World), (callFunc f args).run P w = .ok (.enter f args) w) (hb : fn.body = some code) (hn : ds.length ≤ n)
    (h : ∀ (w0 : World) (S0 : Addr → Prop) (M0 : MM), Abs ⟨P, w0, S0, M0, none, fun b => w0.heap.size ≤ b, []⟩ code (rowQ t e sz xs) ⟨n, ofL 0 ds, [], []⟩) : CallsRow P f ds e sz xs := by
  subst hnt
  refine ⟨hc, fun S M w args hS hM hl hrel => ?_⟩
  refine (callsIn_wide (n := 0)).1 (callsIn_of_wp_marks hf hb trivial ?_)
  have hw := h w S M { tmps := args.toArray ++ Array.replicate (fn.ntmps - args.toArray.size) undef, defers := [] } w
    ⟨⟨S, [], [], M⟩, ⟨⟨List.nodup_nil, fun d hd => by cases hd⟩, hM, fun _ _ h => h, fun _ _ h => .inl h, fun i b h => by simp at h, fun _ _ => rfl⟩, by simp; omega, .of (Below.refl _ _), fun _ h => h, hS, fun _ h => .inl h, fun _ h => h, hS, rfl, rfl, ?_, ?_, ?_, ?_, ?_⟩
  · refine wpIn_mono (F := Fence.wide) hw ?_
    rintro e' a' w' ⟨s', ⟨g, hg⟩, hq⟩
    have key : (∃ r, s'.sl t = .own r ∧ s'.rw[r]? = some ⟨true, e, sz, xs⟩) → LeavesInM Fence.wide 0 P fn a'.tmps (fun e' w' => ∃ v S' M', e' = .returned v ∧ Grow w S M w' S' M' ∧ Good w' S' ∧ Rel w' ⟨S', [], [], M'⟩ v (.list xs) ∧ (∃ vals, w'.ownsRow 0 e sz v xs.length vals) ∧ (∀ x ∈ xs, x.cells.length = sz) ∧
      ∀ gb, v.ownBlock = some gb → w.heap.size ≤ gb ∧ ∀ x, S' x → x.block = gb → x.off < xs.length * sz) a'.defers .returning w' := fun ⟨r, hr1, hr2⟩ => by
      refine marks_leave1 (c := ⟨P, w, S, M, none, fun b => w.heap.size ≤ b, []⟩) hres a'.defers a' w' hg rfl (fun w2 h2 => ?_)
      have hsl := h2.sl t
      rw [hr1] at hsl
      change Rel w2 g (a'.tmps.getD t undef) _ at hsl
      generalize hv : a'.tmps.getD t undef = v at hsl
      cases hsl with
      | own _ _ _ hρ =>
        obtain ⟨v', f1, f2, f3⟩ := (h2.rw r _ hr2).ex
        rw [f1] at hρ; cases hρ
        obtain ⟨hown, hcl, hgb⟩ := f3 rfl
        refine ⟨v, g.S, g.M, rfl, ⟨⟨h2.below.os, h2.below.tape, h2.below.output, h2.below.size, fun k hk hn => h2.below.block k hk (fun h => h.elim (fun h => absurd (show w.heap.size ≤ k from h) (Nat.not_le_of_lt hk)) hn)⟩, h2.S0, h2.from0, h2.df.m0, h2.df.mfrom, h2.df.mok⟩, h2.good, f2.erase trivial, hown, hcl, hgb⟩
    cases e' <;> first | exact key hq | exact hq.elim
  · intro m
    simp only
    rw [ofL_at]
    simp only [Nat.not_lt_zero, if_false, Nat.sub_zero]
    cases hd : ds[m]? with
    | none => exact .undef _ _
    | some x =>
      have hm := (List.getElem?_eq_some_iff.1 hd).1
      have := hrel m x hd
      have e : (args.toArray ++ Array.replicate (fn.ntmps - args.toArray.size) undef).getD m undef = args.getD m undef := by
        have : m < args.length := by omega
        simp [Array.getElem?_append, this]
      rw [e]; exact this
  · intro i cs hi; simp at hi
  · intro i cs hi; simp at hi
  · intro i cs hi; simp at hi
  · exact ⟨fun _ => .inl 0, fun i x b hi => by simp at hi, fun r row v gb hr => by simp at hr⟩

theorem flat_i64 (xs : List Int) : flat (xs.map (D.int .i64)) = xs.map (D.int .i64) := by
  induction xs with
  | nil => rfl
  | cons x xs ih => show _ :: flat (xs.map (D.int .i64)) = _; rw [ih]; rfl

/-- A pinned list reads as a list, where its cells count. -/
theorem Pin.rel {w : World} {e : TypeId} {v : Value} {xs : List Int} (h : Pin w e v xs) (g : Gh) (hS : ∀ gb q, v.ownBlock = some gb → q < xs.length → g.S ⟨gb, q, none⟩) : Rel w g v (.list (xs.map (D.int .i64))) := by
  rcases h.2 with ⟨rfl, h0⟩ | ⟨gb, cap, cur, rfl, _⟩
  · have : xs = [] := List.length_eq_zero_iff.1 h0
    subst this
    exact .nil _ _
  · have hcl : ∀ x ∈ xs.map (D.int .i64), x.cells.length = 1 := fun x hx => by
      obtain ⟨y, _, rfl⟩ := List.mem_map.1 hx; rfl
    refine .list _ _ _ _ _ 1 (fun q => .int .i64 (xs.getD q 0)) (by simp) hcl (fun q hq => ?_) (fun q d hd => ?_)
    · rw [flat_i64] at hq
      have hq' : q < xs.length := by simpa using hq
      have hc := World.ownsRow.cells h (g := gb) rfl q (.int .i64 (xs.getD q 0)) (by simp [hq'])
      exact ⟨_, rfl, hc, by rw [add_block, Nat.zero_add]; exact hS gb q rfl hq', rfl⟩
    · rw [flat_i64] at hd
      have hq' : q < xs.length := by have := (List.getElem?_eq_some_iff.1 hd).1; simpa using this
      have : d = .int .i64 (xs.getD q 0) := by
        simp [hq'] at hd
        simp [hq', hd]
      rw [this]
      exact .int _ _ _

/-- A copy of the list at hand. -/
theorem rs_clone {E : SEnv} (hE : E.Ok) {o : Oper} {x : Operand} {at_ : Array TypeId} {f : FuncId} {i : Ix} {s : St} {a : Act} {w : World} {N : Act → World → Prop} {Q : Exit → Act → World → Prop}
    (ho : o.op = .call ⟨.value (.func f), #[x], at_⟩) (hr : RS E none i s a w) (hx : s.ev x = .val E.v) (hC : CallsRow E.c.P f [.list (E.xs.map (D.int .i64))] E.e 1 (E.xs.map (D.int .i64))) (hdst : dstOk s o.dst)
    (hN : ∀ a' w', RS E none i (St.put { s with rw := s.rw ++ [⟨true, E.e, 1, E.xs.map (D.int .i64)⟩] } o.dst (.own s.rw.length)) a' w' → N a' w') : o.wpIn Fence.wide 0 E.c.P a w N Q := by
  have hpin : Pin w E.e E.v E.xs := by obtain ⟨_, _, _, _, _, _, _, _, hp, _⟩ := hr; exact hp
  obtain ⟨w0, S0, M0, own, ⟨g, hg⟩, hcl⟩ := rs_ok hE i s a w hr
  have hxr := hg.ev x
  rw [hx] at hxr
  have hvx : a.eval x = E.v := by
    generalize a.eval x = vx at hxr
    cases hxr; rfl
  obtain ⟨hcf, hcs⟩ := hC
  let S1 : Addr → Prop := fun y => g.S y ∨ ∃ gb q, E.v.ownBlock = some gb ∧ q < E.xs.length ∧ y = ⟨gb, q, none⟩
  have hgood1 : Good w S1 := fun y hy => by
    rcases hy with hy | ⟨gb, q, hgb, hq, rfl⟩
    · exact hg.good y hy
    · have hc := World.ownsRow.cells hpin hgb q (.int .i64 (E.xs.getD q 0)) (by simp [hq])
      rw [add_block, Nat.zero_add] at hc
      exact ⟨_, hc⟩
  have hcall := hcs S1 g.M w [E.v] hgood1 hg.df.mok rfl (fun q d hd => by
    match q, hd with
    | 0, hd => cases hd; exact hpin.rel ⟨S1, [], [], g.M⟩ (fun gb q hgb hq => .inr ⟨gb, q, hgb, hq, rfl⟩))
  refine ⟨fun _ _ => trivial, ?_⟩
  have hsem : (o.semAt Fence.wide.round a.eval).run E.c.P w = .ok (.enter f [E.v].toArray) w := by
    rw [Oper.semAt_eq _ _ _ (by rw [ho]; intro cl h; cases h)]
    have e1 : a.eval (.func f) = .func (.func f) #[] #[] := rfl
    simp [execOp, ho, resolve, e1, hvx, Deferred.ofValue, invoke, hcf]
  rw [hsem, Oper.uponIn_enter]
  refine ⟨fun h => (by cases h), callsIn_wide.2 (hcall.mono ?_)⟩
  rintro e' w' ⟨v', S', M', rfl, hgr, hgood, hrel, ⟨vals, hown⟩, hcell, hblk⟩
  let S2 : Addr → Prop := fun y => S' y ∧ (g.S y ∨ w.heap.size ≤ y.block)
  have hG2 : Grow w g.S g.M w' S2 M' := ⟨hgr.below, fun y hy => ⟨hgr.s1 y (.inl hy), .inl hy⟩, fun y hy => hy.2, hgr.m1, hgr.m2, hgr.mok⟩
  have h2 := hg.grow hG2 (fun y hy => hgood y hy.1)
  have hrel2 : Rel w' ⟨S2, g.β, g.ρ, M'⟩ v' (.list (E.xs.map (D.int .i64))) := by
    obtain ⟨A, cp, sz, u, hv', hsz, hm, hr'⟩ := hrel.list_inv
    rw [hv']
    refine .list _ _ _ _ _ sz u rfl hsz (fun q hq => ?_) (fun q d hd => ?_)
    · obtain ⟨ad, rfl, q1, q2, q3⟩ := hm q hq
      refine ⟨ad, rfl, q1, ⟨q2, .inr ?_⟩, q3⟩
      have := (hblk ad.block (by rw [hv']; rfl)).1
      show w.heap.size ≤ (ad.add q).block
      unfold Addr.add
      split <;> exact this
    · have hd' := hr' q d hd
      rw [flat_i64] at hd
      obtain ⟨y, _, rfl⟩ : ∃ y, y ∈ E.xs ∧ D.int .i64 y = d := by
        have := List.mem_of_getElem? hd
        simpa using this
      generalize u q = uq at hd'
      cases hd'
      exact .int _ _ _
  have h3 := h2.pushRow (e := E.e) (sz := 1) hrel2 (vals := vals) hown hcell
    (fun gb hgb => ⟨hg.own0 _ (Nat.le_trans hg.below.size (hblk gb hgb).1), fun y hy e => (hblk gb hgb).2 y hy.1 e⟩)
    (fun gb hgb j y b hj hy hb => by have h1 := (hg.boxlt hj hy hb).1; have h2 := (hblk gb hgb).1; omega)
    (fun gb hgb r row v2 g2 hr hl hv2 hg2 => by have h1 := (hg.rowlt hr hl hv2 hg2).1; have h2 := (hblk gb hgb).1; omega)
  refine hN _ _ (hcl _ _ _ ⟨_, RG.put (s := { s with rw := s.rw ++ [⟨true, E.e, 1, E.xs.map (D.int .i64)⟩] }) (dst := o.dst) (d := .own s.rw.length) h3 hdst (.own _ _ _ ?_)⟩)
  show (g.ρ ++ [v'])[s.rw.length]? = some v'
  rw [← hg.lρ]; simp

/-- The end of a search. -/
def endS (t k n : Nat) : Exit → Ix → St → Prop
  | .normal, i, s => s.sl t = .bool i.1 ∧ (i.1 = true → i.2 = k + n)
  | .ret, i, s => s.sl t = .bool i.1 ∧ (i.1 = true → i.2 = k + n)
  | _, _, _ => False

theorem searchC_of_ga {c : IC} (hok : c.Ok) {f : FuncId} {fn : Func} {code : Code} {e : TypeId} {lb : List Value} {cs : List D} {xs : List Int} {left : Int} {out : List (List D)} {t n : Nat}
    (hf : c.P.funcs[f]? = some fn) (hnt : fn.ntmps = n) (hres : fn.results = #[.tmp t]) (hb : fn.body = some code) (hn : cs.length + 2 ≤ n) (hlb : lb.length = cs.length)
    (h : ∀ E : SEnv, E.c = c → E.e = e → E.xs = xs → E.Ok → (∀ q x, cs[q]? = some x → Rel E.w0 ⟨E.S0, [], [], E.M0⟩ (lb.getD q Go.undef) x) → ∀ k, (∀ q, q < out.length → c.xs[k + q]? = out[q]?) →
      GA c.P (RS E none) code (endS t k out.length) (true, k) ⟨n, ofL 0 (.val E.v :: .int .i64 left :: cs), [], []⟩) : SearchC c f e lb cs xs left out := by
  subst hnt
  intro T S M w k v hJ lt hM hS hp hv hrel hxs
  refine (callsIn_wide (n := 0)).1 (callsIn_of_wp_marks hf hb trivial ?_)
  let E : SEnv := ⟨c, T, S, M, w, e, v, xs⟩
  have hE : E.Ok := ⟨hok, lt, hv⟩
  let args : Array Value := (v :: .int .i64 left :: lb).toArray
  have hw := h E rfl rfl rfl hE hrel k hxs { tmps := args ++ Array.replicate (fn.ntmps - args.size) undef, defers := [] } w
    ⟨T, fun _ => False, S, M, hJ, ⟨lt, fun _ h => h.elim, ⟨S, [], [], M⟩, rfl, rfl, ⟨⟨List.nodup_nil, fun d hd => by cases hd⟩, hM, fun _ _ h => h, fun _ _ h => .inl h, fun i b h => by simp at h, fun _ _ => rfl⟩, by simp [args]; omega, .of (Below.refl _ _), fun _ h => .inr h, hS, fun _ h => .inl h, fun _ h => h, hS, rfl, rfl, fun m => ?_, fun i cs hi => by simp at hi, fun i cs hi => by simp at hi, fun i cs hi => by simp at hi, ⟨fun _ => .inl 0, fun i x b hi => by simp at hi, fun r row v gb hr => by simp at hr⟩⟩,
      ⟨rfl, rfl, rfl, Nat.le_refl _, fun _ h => h, fun _ _ _ => rfl, fun _ h => h, fun _ h _ => h, fun _ _ => rfl, fun _ _ h => h⟩, fun _ _ h => h, hp, fun _ _ h => by cases h⟩
  · refine wpIn_mono (F := Fence.wide) hw ?_
    rintro e' a' w' ⟨i', s', hr', hq⟩
    have fin : (s'.sl t = .bool i'.1 ∧ (i'.1 = true → i'.2 = k + out.length)) → LeavesInM Fence.wide 0 c.P fn a'.tmps (fun e' w' => ∃ b k' T' S' M', e' = .returned (.bool b) ∧ JX c.J c.Jx (b, k') T' S' M' w' ∧ (b = true → k' = k + out.length) ∧ SG T S M w T' S' M' w' v.ownBlock ∧ Pin w' e v xs ∧
      (∀ b, T' b → b < w'.heap.size ∧ M' b = none) ∧ MOk w' M' ∧ Good w' S') a'.defers .returning w' := fun ⟨h1, h2⟩ => by
      obtain ⟨w0, S0, M0, own, ⟨g, hg⟩, hcl⟩ := rs_ok hE i' s' a' w' hr'
      refine marks_leave1 (c := ⟨c.P, w0, S0, M0, none, own, []⟩) hres a'.defers a' w' hg rfl (fun w2 hw2 => ?_)
      have hsl := hw2.sl t
      rw [h1] at hsl
      have hv := hsl.asBool
      simp only at hv
      rw [hv]
      obtain ⟨T', U', S', M', hJ', hir, hs', _, hp', _⟩ := hcl _ _ _ ⟨g, hw2⟩
      obtain ⟨b, k'⟩ := i'
      obtain ⟨lt', _, g2, rfl, rfl, hg2⟩ := hir
      exact ⟨b, k', T', g2.S, g2.M, rfl, hJ', h2, hs', hp', lt', hg2.df.mok, hg2.good⟩
    cases e' <;> first | exact fin hq | exact hq.elim
  · simp only
    rw [ofL_at]
    simp only [Nat.not_lt_zero, if_false, Nat.sub_zero]
    have e : (args ++ Array.replicate (fn.ntmps - args.size) undef).getD m undef = (v :: Value.int .i64 left :: lb).getD m undef := by
      simp only [args, Array.getD_eq_getD_getElem?, List.getD_eq_getElem?_getD]
      rw [Array.getElem?_append]
      split
      · simp
      · rename_i hm
        rw [List.getElem?_eq_none (by simpa using hm)]
        simp [Array.getElem?_replicate]
        split <;> rfl
    rw [e]
    match m with
    | 0 => exact .val _ _
    | 1 => exact .int _ _ _
    | m + 2 =>
      simp only [List.getElem?_cons_succ, List.getD_cons_succ]
      cases hd : cs[m]? with
      | none => exact .undef _ _
      | some x => exact hrel m x hd
end Go.Ab
