import Derived.Test.YtdbiiegohemahaaGreatDoorAbQ
set_option linter.unusedVariables false
set_option linter.unusedSimpArgs false
section
namespace Go.Ab
open Go.RowKit

/-- What a call is handed, exact values kept (a nil slice stays one). -/
def pureDV (bx : List Bx) (rw : List Row) : D → Option D
  | .val v => some (.val v)
  | d => pureD bx rw d
def pureDsV (bx : List Bx) (rw : List Row) : List D → Option (List D)
  | [] => some []
  | d :: ds => match pureDV bx rw d with | some d' => (pureDsV bx rw ds).map (d' :: ·) | none => none
theorem pureDsV_get {bx : List Bx} {rw' : List Row} : ∀ {ds ds' : List D}, pureDsV bx rw' ds = some ds' → ds'.length = ds.length ∧ ∀ (q : Nat) (d' : D), ds'[q]? = some d' → ∃ d, ds[q]? = some d ∧ pureDV bx rw' d = some d'
  | [], ds', h => by simp [pureDsV] at h; subst h; simp
  | d :: ds, ds', h => by
    simp only [pureDsV] at h
    split at h
    · rename_i d1 h1
      simp only [Option.map_eq_some_iff] at h
      obtain ⟨l, hl, rfl⟩ := h
      obtain ⟨e1, e2⟩ := pureDsV_get hl
      refine ⟨by simp [e1], fun q d' hq => ?_⟩
      cases q with
      | zero => simp at hq; subst hq; exact ⟨d, rfl, h1⟩
      | succ q => exact e2 q d' (by simpa using hq)
    · cases h

section
variable {c : Ctx} {s : St} {a : Act} {w : World} {g : Gh}
theorem pureDV_rel {v : Value} {d d' : D} (h : RG c s a w g) (hr : Rel w g v d) (hp : pureDV s.bx s.rw d = some d') : Rel w g.er v d' := by
  unfold pureDV at hp
  split at hp
  · cases hp; exact hr.erase trivial
  · exact pureD_rel h hr hp

/-- What is done at a call of a function that is named. -/
theorem s_enter {o : Oper} {f : FuncId} {xs : Array Operand} {at_ : Array TypeId} {ds : List D} (ho : o.op = .call { callee := .value (.func f), args := xs, argTypes := at_ }) (h : RG c s a w g)
    (hp : pureDsV s.bx s.rw (xs.toList.map s.ev) = some ds) (hcf : ∀ (args : Array Value) (w : World), (callFunc f args).run c.P w = .ok (.enter f args) w) :
    (execOp a.eval o).run c.P w = .ok (.enter f (xs.toList.map a.eval).toArray) w ∧ (xs.toList.map a.eval).length = ds.length ∧ ∀ q x, ds[q]? = some x → Rel w ⟨g.S, [], [], g.M⟩ ((xs.toList.map a.eval).getD q Go.undef) x := by
  obtain ⟨e1, e2⟩ := pureDsV_get hp
  refine ⟨?_, by rw [e1]; simp, fun q x hx => ?_⟩
  · have : a.eval (.func f) = .func (.func f) #[] #[] := rfl
    simp [execOp, ho, resolve, this, Deferred.ofValue, invoke]
    rw [hcf]
    simp
    rw [← Array.toList_map, Array.toArray_toList]
  · obtain ⟨y, hy, hpy⟩ := e2 q x hx
    refine pureDV_rel h ?_ hpy
    simp only [List.getElem?_map, Option.map_eq_some_iff] at hy
    obtain ⟨z, hz, rfl⟩ := hy
    rw [List.getD_eq_getElem?_getD]
    simp only [List.getElem?_map, hz, Option.map_some, Option.getD_some]
    exact h.ev z

end
attribute [go_sem] pureDV pureDsV
end Go.Ab
namespace Go.Ab
open Go.RowKit
/-!
  Functions that may panic with a struct of one text.
-/
/-- What such a panic holds. -/
def pchain (t : TypeId) (x : ByteArray) : List PanicEntry := [{ v := .iface t (.agg #[.string x]), recovered := false }]
/-- A call that comes back with d, or panics (none). -/
def CallsE (P : Program) (f : FuncId) (ds : List D) (t : TypeId) (res : Option D) : Prop :=
  (∀ (args : Array Value) (w : World), (callFunc f args).run P w = .ok (.enter f args) w) ∧
  ∀ (S : Addr → Prop) (M : MM) (w : World) (args : List Value), Tab w → Good w S → MOk w M → args.length = ds.length → (∀ q x, ds[q]? = some x → Rel w ⟨S, [], [], M⟩ (args.getD q Go.undef) x) →
    Calls P f args.toArray w fun e w' => ∃ S' M', Grow w S M w' S' M' ∧ Good w' S' ∧ ((∃ v d, res = some d ∧ e = .returned v ∧ Rel w' ⟨S', [], [], M'⟩ v d) ∨ (res = none ∧ ∃ x, e = .panicked (pchain t x)))
theorem CallsE.calls {P : Program} {f : FuncId} {ds : List D} {t : TypeId} {d : D} (h : CallsE P f ds t (some d)) : CallsTo P f ds d := by
  refine ⟨h.1, fun S M w args hT hS hM hl hrel => (h.2 S M w args hT hS hM hl hrel).mono ?_⟩
  rintro e w' ⟨S', M', h1, h2, ⟨v, d', e1, rfl, h3⟩ | ⟨e1, _⟩⟩
  · cases e1; exact ⟨v, S', M', rfl, h1, h2, h3⟩
  · cases e1
/-- How a body of such a function ends. -/
def endE (P : Program) (rs : Array ResultVar) (t : TypeId) (res : Option D) : Exit → St → Prop
  | .panic ch, _ => res = none ∧ ∃ x, ch = pchain t x
  | e, s => ∃ d, res = some d ∧ retQ P rs d e s
section
variable {c : Ctx} {s : St}
theorem marks_panic {a0 : Act} {fn : Func} {chain : List PanicEntry} {R : Ending → World → Prop} {g : Gh} : ∀ (l : List Deferred) (a : Act) (w : World), RG c s a w g → a.defers = l →
    (∀ w', RG c s { a with defers := [] } w' g → (∀ x, g.S x → w'.cell? x = w.cell? x) → R (.panicked chain) w') → LeavesInM Fence.wide 0 c.P fn a.tmps R l (.panicking chain) w
  | [], a, w, h, hl, hR => hR w (by rw [show ({ a with defers := [] } : Act) = a by rw [← hl]]; exact h) (fun _ _ => rfl)
  | d :: l, a, w, h, hl, hR => by
    obtain ⟨hnd, hall⟩ := h.df.dok
    rw [hl] at hnd hall
    obtain ⟨D, hB, rfl, hD⟩ := hall d (List.mem_cons_self ..)
    refine ⟨by simp, .inl ⟨D, _, rfl, run_takeDeferred hD, ?_⟩⟩
    have hg : RG c s { a with defers := l } (w.putObj D (.deferred none)) g := h.turn hD rfl (by simp) hB rfl ⟨(List.nodup_cons.1 hnd).2, fun d' hd' => by
      obtain ⟨D', hB', rfl, hD'⟩ := hall d' (List.mem_cons_of_mem _ hd')
      refine ⟨D', hB', rfl, ?_⟩
      rw [World.putObj_heap_other (fun e => by subst e; exact (List.nodup_cons.1 hnd).1 hd')]
      exact hD'⟩
    have hc : ∀ x, g.S x → (w.putObj D (.deferred none)).cell? x = w.cell? x := fun x hx => by
      obtain ⟨u, hu⟩ := h.good x hx
      obtain ⟨cs, t, fz, hx⟩ := cell_cells hu
      exact World.cell?_of_block (World.putObj_heap_other (fun e => by subst e; rw [hD] at hx; cases hx))
    exact marks_panic (a0 := a0) l { a with defers := l } _ hg rfl (fun w' h1 h2 => hR w' h1 (fun x hx => (h2 x hx).trans (hc x hx)))
end

theorem callsE_of_abs {P : Program} {f : FuncId} {fn : Func} {code : Code} {ds : List D} {t : TypeId} {res : Option D} (hf : P.funcs[f]? = some fn) (hb : fn.body = some code)
    (hc : ∀ (args : Array Value) (w : World), (callFunc f args).run P w = .ok (.enter f args) w) (hn : ds.length ≤ fn.ntmps)
    (h : ∀ c : Ctx, c.P = P → c.l = none → (c.own = fun b => c.w0.heap.size ≤ b) → c.β0 = [] → Abs c code (endE P fn.results t res) ⟨fn.ntmps, ofL 0 ds, [], []⟩) : CallsE P f ds t res := by
  refine ⟨hc, fun S M w args hT hS hM hl hrel => ?_⟩
  refine (callsIn_wide (n := 0)).1 (callsIn_of_wp_marks hf hb trivial ?_)
  have hw := h ⟨P, w, S, M, none, fun b => w.heap.size ≤ b, []⟩ rfl rfl rfl rfl { tmps := args.toArray ++ Array.replicate (fn.ntmps - args.toArray.size) undef, defers := [] } w
    ⟨⟨S, [], [], M⟩, ⟨⟨List.nodup_nil, fun d hd => by cases hd⟩, hM, fun _ _ h => h, fun _ _ h => .inl h, fun i b h => by simp at h, fun _ _ => rfl, hT.fresh hM⟩, by simp; omega, .of (Below.refl _ _), fun _ h => h, hS, fun _ h => .inl h, fun _ h => h, hS, rfl, rfl, ?_, ?_, ?_, ?_, ?_⟩
  · refine wpIn_mono (F := Fence.wide) hw ?_
    have grow : ∀ {s' : St} {a' : Act} {w' : World} {g : Gh}, RG ⟨P, w, S, M, none, fun b => w.heap.size ≤ b, []⟩ s' a' w' g → Grow w S M w' g.S g.M := fun hg =>
      ⟨⟨hg.below.os, hg.below.tape, hg.below.output, hg.below.size, fun k hk hn => hg.below.block k hk (fun h => h.elim (fun h => absurd (show w.heap.size ≤ k from h) (Nat.not_le_of_lt hk)) hn)⟩, hg.S0, hg.from0, hg.df.m0, hg.df.mfrom, hg.df.mok⟩
    rintro e a' w' ⟨s', ⟨g, hg⟩, hq⟩
    cases e with
    | panic ch =>
      obtain ⟨hres, x, rfl⟩ := hq
      exact marks_panic (c := ⟨P, w, S, M, none, fun b => w.heap.size ≤ b, []⟩) (s := s') (g := g) (a0 := a') a'.defers a' w' hg rfl (fun w2 h2 _ => ⟨g.S, g.M, grow h2, h2.good, .inr ⟨hres, x, rfl⟩⟩)
    | normal => obtain ⟨d, hd, hq⟩ := hq; exact retQ_sound (c := ⟨P, w, S, M, none, fun b => w.heap.size ≤ b, []⟩) hg hq (fun v w' hg hv => ⟨g.S, g.M, grow hg, hg.good, .inl ⟨v, d, hd, rfl, hv⟩⟩)
    | ret => obtain ⟨d, hd, hq⟩ := hq; exact retQ_sound (c := ⟨P, w, S, M, none, fun b => w.heap.size ≤ b, []⟩) hg hq (fun v w' hg hv => ⟨g.S, g.M, grow hg, hg.good, .inl ⟨v, d, hd, rfl, hv⟩⟩)
    | exit id => obtain ⟨d, hd, hq⟩ := hq; exact retQ_sound (c := ⟨P, w, S, M, none, fun b => w.heap.size ≤ b, []⟩) hg hq (fun v w' hg hv => ⟨g.S, g.M, grow hg, hg.good, .inl ⟨v, d, hd, rfl, hv⟩⟩)
    | goto id => obtain ⟨d, hd, hq⟩ := hq; exact retQ_sound (c := ⟨P, w, S, M, none, fun b => w.heap.size ≤ b, []⟩) hg hq (fun v w' hg hv => ⟨g.S, g.M, grow hg, hg.good, .inl ⟨v, d, hd, rfl, hv⟩⟩)
    | outgrown => obtain ⟨d, hd, hq⟩ := hq; exact retQ_sound (c := ⟨P, w, S, M, none, fun b => w.heap.size ≤ b, []⟩) hg hq (fun v w' hg hv => ⟨g.S, g.M, grow hg, hg.good, .inl ⟨v, d, hd, rfl, hv⟩⟩)
  · intro m
    simp only
    rw [ofL_at]
    simp only [Nat.not_lt_zero, if_false, Nat.sub_zero]
    cases hd : ds[m]? with
    | none => exact .undef _ _
    | some x =>
      have hm := (List.getElem?_eq_some_iff.1 hd).1
      have := hrel m x hd
      have e : (args.toArray ++ Array.replicate (fn.ntmps - args.toArray.size) undef).getD m undef = args.getD m undef := by
        have : m < args.length := by omega
        simp [Array.getElem?_append, this]
      rw [e]; exact this
  · intro i cs hi; simp at hi
  · intro i cs hi; simp at hi
  · intro i cs hi; simp at hi
  · exact ⟨fun _ => .inl 0, fun i x b hi => by simp at hi, fun r row v gb hr => by simp at hr⟩

/-- What stands ahead of such a call, and what holds behind it. -/
def atE (c : Ctx) (Q : Exit → St → Prop) (N : St → Prop) (xs : List Operand) (dst : Option Tmp) (ds : List D) (t : TypeId) (res : Option D) (s1 : St) : Prop :=
  pureDsV s1.bx s1.rw (xs.map s1.ev) = some ds ∧ dstOk s1 dst ∧ (∀ d, res = some d → N (s1.put dst d)) ∧ (res = none → ∀ x, Q (.panic (pchain t x)) s1)
section
variable {c : Ctx} {s : St}
theorem callE_in {Q : Exit → St → Prop} {N : St → Prop} {y : Oper} {f : FuncId} {xs : Array Operand} {dst : Option Tmp} {at_ : Array TypeId} {ty : TypeId} {pos : String} {aft : Array Edge} {res : Option D} {ds : List D} {t : TypeId} {s1 : St} {a1 : Act} {w1 : World} {N' : Act → World → Prop}
    (hy : y = ⟨dst, .call ⟨.value (.func f), xs, at_⟩, ty, pos, aft, none⟩) (hC : CallsE c.P f ds t res) (hr : R c s1 a1 w1) (hk : atE c Q N xs.toList dst ds t res s1) (hN : ∀ s a w, R c s a w → N s → N' a w) :
    y.wpIn c.F 0 c.P a1 w1 N' (fun e a' w' => ∃ s', R c s' a' w' ∧ Q e s') := by
  obtain ⟨h1, h2, h3, h4⟩ := hk
  obtain ⟨g1, hg1⟩ := hr
  obtain ⟨q1, q2, q3⟩ := s_enter (o := y) (by rw [hy]) hg1 h1 hC.1
  have hcl := hC.2 g1.S g1.M w1 _ (hg1.df.tab.at hg1.below) hg1.good hg1.df.mok q2 q3
  refine op_in (by rw [hy]; intro cl h; cases h) ?_
  unfold Oper.wp
  rw [q1]
  refine hcl.mono ?_
  rintro e w' ⟨S', M', hgr, hgood, ⟨v, d, hd, rfl, hrel⟩ | ⟨hn, x, rfl⟩⟩
  · have hyd : y.dst = dst := by rw [hy]
    show N' (a1.put y.dst v) w'
    rw [hyd]
    exact hN _ _ _ ⟨_, (hg1.grow hgr hgood).put h2 (hrel.keep (er_up _ _ _ _ _))⟩ (h3 d hd)
  · exact ⟨s1, ⟨_, hg1.grow hgr hgood⟩, h4 hn x⟩

/-- A region with a call that may panic. -/
theorem abs_regionE {Q : Exit → St → Prop} {id : Nat} {l : List Oper} (n : Nat) {f : FuncId} {xs : Array Operand} {dst : Option Tmp} {at_ : Array TypeId} {ty : TypeId} {pos : String} {aft : Array Edge} {res : Option D} {ds : List D} {t : TypeId}
    (hl : l = l.take n ++ ⟨dst, .call ⟨.value (.func f), xs, at_⟩, ty, pos, aft, none⟩ :: l.drop (n + 1)) (hC : CallsE c.P f ds t res)
    (h : ∀ K1 : St → Prop, (∀ s1, atE c Q (fun s2 => evOps c.P l (l.drop (n + 1)) s2 (fun s2 => Q .normal s2)) xs.toList dst ds t res s1 → K1 s1) → evOps c.P l (l.take n) s K1) :
    Abs c (.region id l.toArray false) Q s := by
  intro a w hr
  refine wpIn_region_lit ?_
  rw [hl]
  rw [hl] at h
  have hl1 : (l.take n ++ (⟨dst, .call ⟨.value (.func f), xs, at_⟩, ty, pos, aft, none⟩ : Oper) :: l.drop (n + 1)).take n = l.take n := by rw [← hl]
  have hl2 : (l.take n ++ (⟨dst, .call ⟨.value (.func f), xs, at_⟩, ty, pos, aft, none⟩ : Oper) :: l.drop (n + 1)).drop (n + 1) = l.drop (n + 1) := by rw [← hl]
  rw [hl1, hl2] at h
  generalize l.take n = l1 at *
  generalize l.drop (n + 1) = l2 at *
  obtain ⟨y, hy⟩ : ∃ y : Oper, y = ⟨dst, .call ⟨.value (.func f), xs, at_⟩, ty, pos, aft, none⟩ := ⟨_, rfl⟩
  rw [← hy] at h ⊢
  refine evOps_pre (c := c) (fun s1 a1 w1 hr1 hk1 => ?_) l1 s a w hr (h _ (fun s1 h1 => h1))
  show wpListIn c.F 0 c.P _ _ (y :: l2) a1 w1
  unfold wpListIn
  rw [if_pos (by rw [hy]; simp [Region.wanted])]
  exact callE_in (c := c) hy hC hr1 hk1 (fun s3 a3 w3 hr3 hk3 => evOps_sound (c := c) (K := fun s2 => Q .normal s2) (fun s4 a4 w4 hr4 hk4 => ⟨s4, hr4, hk4⟩) l2 _ _ _ hr3 hk3)
end

/-! ## The last operation of a region that draws its order, where it awaits all others -/
def sinkOk (l : List Oper) (o : Oper) : Bool := (List.range l.length).all fun i => ((l ++ [o]).drop (i + 1)).any fun p => p.after.any fun e => Region.binds .any e && e.on == i
def upOk (l : List Oper) : Bool := (List.range l.length).all fun i => (l[i]?).all fun p => p.guard.isNone && p.after.all fun e => !Region.binds .any e || decide (e.on < i)
section
variable {l : List Oper} {o : Oper}
def closedE (l : List Oper) (listed : Array Bool) : Prop := ∀ (j : Nat) (p : Oper), l[j]? = some p → listed.getD j true = true → ∀ e ∈ p.after, Region.binds .any e = true → listed.getD e.on false = true
theorem all_of_sink (hs : sinkOk l o = true) {listed : Array Bool} (hz : listed.size = l.length) (hc : closedE l listed) (ho : ∀ e ∈ o.after, Region.binds .any e = true → listed.getD e.on false = true) : ∀ (k i : Nat), l.length - i ≤ k → i < l.length → listed.getD i true = true := by
  intro k
  induction k with
  | zero => intro i h1 h2; omega
  | succ k ih =>
    intro i h1 h2
    unfold sinkOk at hs
    have := List.all_eq_true.1 hs i (List.mem_range.2 h2)
    obtain ⟨p, hp, hp2⟩ := List.any_eq_true.1 this
    obtain ⟨e, he, he2⟩ := Array.any_eq_true'.1 hp2
    simp only [Bool.and_eq_true, beq_iff_eq] at he2
    obtain ⟨q, hq⟩ := List.mem_iff_getElem?.1 hp
    rw [List.getElem?_drop] at hq
    have key : listed.getD e.on false = true := by
      by_cases hlt : i + 1 + q < l.length
      · rw [List.getElem?_append_left hlt] at hq
        exact hc _ p hq (ih (i + 1 + q) (by omega) hlt) e he he2.1
      · rw [List.getElem?_append_right (by omega)] at hq
        have : i + 1 + q - l.length = 0 := by
          cases hh : i + 1 + q - l.length with
          | zero => rfl
          | succ _ => rw [hh] at hq; simp at hq
        rw [this] at hq
        simp at hq; subst hq
        exact ho e he he2.1
    rw [he2.2] at key
    rw [Array.getD_eq_getD_getElem?, Array.getElem?_eq_getElem (by omega)] at key ⊢
    exact key
theorem all_of_ready (hu : upOk l = true) {listed : Array Bool} (hz : listed.size = l.length) (hr : Region.ready .any l.toArray listed = []) : ∀ (i : Nat), i < l.length → listed.getD i true = true := by
  intro i
  induction i using Nat.strongRecOn with
  | _ i ih =>
    intro hi
    cases hb : listed.getD i true with
    | true => rfl
    | false =>
      have : i ∈ Region.ready .any l.toArray listed := mem_ready.2 ⟨hb, l[i], by simp [hi], fun e he hbd => by
        unfold upOk at hu
        have := List.all_eq_true.1 hu i (List.mem_range.2 hi)
        rw [List.getElem?_eq_getElem hi] at this
        simp only [Option.all_some, Bool.and_eq_true] at this
        have h2 := Array.all_eq_true'.1 this.2 e he
        simp only [hbd, Bool.not_true, Bool.false_or, decide_eq_true_eq] at h2
        have := ih e.on h2 (by omega)
        rw [Array.getD_eq_getD_getElem?, Array.getElem?_eq_getElem (by omega)] at this ⊢
        exact this⟩
      rw [hr] at this; cases this
theorem up_guard (hu : upOk l = true) {i : Nat} {p : Oper} (hp : l[i]? = some p) : p.guard = none := by
  have hi := (List.getElem?_eq_some_iff.1 hp).1
  unfold upOk at hu
  have := List.all_eq_true.1 hu i (List.mem_range.2 hi)
  rw [hp] at this
  simp only [Option.all_some, Bool.and_eq_true, Option.isNone_iff_eq_none] at this
  exact this.1
theorem getD_push {b : Bool} {listed : Array Bool} {x : Bool} {i : Nat} (h : i < listed.size) : (listed.push b).getD i x = listed.getD i x := by
  rw [Array.getD_eq_getD_getElem?, Array.getD_eq_getD_getElem?, Array.getElem?_push_lt h, Array.getElem?_eq_getElem h]
theorem anyE_sound {c : Ctx} {Q : Exit → Act → World → Prop} {K1 : St → Prop} (hs : sinkOk l o = true) (hu : upOk l = true) (hoo : (o.after.all fun e => !Region.binds .any e || decide (e.on < l.length)) = true) (hog : o.guard = none) (hK : ∀ s a w, R c s a w → K1 s → o.wpIn c.F 0 c.P a w (Q .normal) Q) :
    ∀ (fuel : Nat) (listed : Array Bool) (s : St) (a : Act) (w : World), R c s a w → listed.size = l.length → closedE l listed → anyA c.P l.toArray K1 fuel listed s → wpAnyIn c.F 0 c.P .any (l ++ [o]).toArray Q (fuel + 1) (listed.push false) a w := by
  have full_get : ∀ {i : Nat}, i < l.length → (l ++ [o]).toArray[i]? = l[i]? := fun {i} hi => by simp [List.getElem?_append_left hi]
  have full_o : (l ++ [o]).toArray[l.length]? = some o := by simp
  have full_lt : ∀ {listed : Array Bool} {i : Nat}, listed.size = l.length → closedE l listed → i ∈ Region.ready .any (l ++ [o]).toArray (listed.push false) →
      (i < l.length ∧ i ∈ Region.ready .any l.toArray listed) ∨ (i = l.length ∧ ∀ j, j < l.length → listed.getD j true = true) := fun {listed i} hz hc hi => by
    obtain ⟨h1, p, hp, h2⟩ := mem_ready.1 hi
    have hil : i < (l ++ [o]).length := by have := (Array.getElem?_eq_some_iff.1 hp).1; simpa using this
    have hon : ∀ e : Edge, (listed.push false).getD e.on false = true → listed.getD e.on false = true := fun e he => by
      by_cases hlt : e.on < listed.size
      · rwa [getD_push hlt] at he
      · rw [Array.getD_eq_getD_getElem?, Array.getElem?_push] at he
        split at he <;> simp_all
    by_cases hlt : i < l.length
    · rw [full_get hlt] at hp
      exact .inl ⟨hlt, mem_ready.2 ⟨by rwa [getD_push (by omega)] at h1, p, by simpa using hp, fun e he hb => hon e (h2 e he hb)⟩⟩
    · have hi : i = l.length := by simp at hil; omega
      subst hi
      rw [full_o] at hp; cases hp
      exact .inr ⟨rfl, fun j hj => all_of_sink hs hz hc (fun e he hb => hon e (h2 e he hb)) l.length j (by omega) hj⟩
  have notnil : ∀ {listed : Array Bool}, listed.size = l.length → Region.ready .any (l ++ [o]).toArray (listed.push false) ≠ [] := fun {listed} hz h0 => by
    by_cases hr : Region.ready .any l.toArray listed = []
    · have hall := all_of_ready hu hz hr
      have : l.length ∈ Region.ready .any (l ++ [o]).toArray (listed.push false) := mem_ready.2 ⟨by rw [Array.getD_eq_getD_getElem?, Array.getElem?_push, if_pos hz.symm]; rfl, o, full_o, fun e he hb => ?_⟩
      · rw [h0] at this; cases this
      · by_cases hlt : e.on < l.length
        · rw [getD_push (by omega)]
          have := hall _ hlt
          rw [Array.getD_eq_getD_getElem?, Array.getElem?_eq_getElem (by omega)] at this ⊢
          exact this
        · have h2 := Array.all_eq_true'.1 hoo e he
          simp only [hb, Bool.not_true, Bool.false_or, decide_eq_true_eq] at h2
          exact absurd h2 hlt
    · obtain ⟨i, hi⟩ := List.exists_mem_of_ne_nil _ hr
      obtain ⟨h1, p, hp, h2⟩ := mem_ready.1 hi
      have hil : i < l.length := by have := (Array.getElem?_eq_some_iff.1 hp).1; simpa using this
      have : i ∈ Region.ready .any (l ++ [o]).toArray (listed.push false) := mem_ready.2 ⟨by rwa [getD_push (by omega)], p, by rw [full_get hil]; simpa using hp, fun e he hb => by
        have h3 := h2 e he hb
        have hlt : e.on < listed.size := by
          rcases Nat.lt_or_ge e.on listed.size with h | h
          · exact h
          · rw [Array.getD_eq_getD_getElem?, Array.getElem?_eq_none h] at h3; simp at h3
        rwa [getD_push hlt]⟩
      rw [h0] at this; cases this
  have last : ∀ {listed : Array Bool} {s : St} {a : Act} {w : World} (fuel : Nat), R c s a w → listed.size = l.length → (∀ j, j < l.length → listed.getD j true = true) → K1 s →
      wpOpIn c.F 0 c.P (l ++ [o]).toArray Q l.length (wpAnyIn c.F 0 c.P .any (l ++ [o]).toArray Q fuel ((listed.push false).setIfInBounds l.length true)) a w := fun {listed s a w} fuel hr hz hall hk => by
    have hnil : Region.ready .any (l ++ [o]).toArray ((listed.push false).setIfInBounds l.length true) = [] := by
      refine List.eq_nil_iff_forall_not_mem.2 fun i hi => ?_
      obtain ⟨h1, p, hp, _⟩ := mem_ready.1 hi
      have hil : i < l.length + 1 := by have := (Array.getElem?_eq_some_iff.1 hp).1; simpa using this
      rw [Array.getD_eq_getD_getElem?, Array.getElem?_setIfInBounds] at h1
      split at h1
      · simp_all
      · rename_i hne
        have hlt : i < l.length := by omega
        rw [← Array.getD_eq_getD_getElem?, getD_push (by omega), hall i hlt] at h1
        cases h1
    unfold wpOpIn
    rw [full_o]
    simp only
    rw [if_pos (by simp [Region.wanted, hog])]
    refine Oper.wpIn_mono (fun a' w' h => ?_) (hK s a w hr hk)
    cases fuel with
    | zero => exact ⟨hnil, h⟩
    | succ fuel => exact ⟨fun _ => h, fun i hi => by rw [hnil] at hi; cases hi⟩
  intro fuel
  induction fuel with
  | zero =>
    intro listed s a w hr hz hc h
    refine ⟨fun h0 => absurd h0 (notnil hz), fun i hi => ?_⟩
    rcases full_lt hz hc hi with ⟨hlt, h1⟩ | ⟨rfl, hall⟩
    · rw [h.1] at h1; cases h1
    · exact last 0 hr hz hall h.2
  | succ fuel ih =>
    intro listed s a w hr hz hc h
    refine ⟨fun h0 => absurd h0 (notnil hz), fun i hi => ?_⟩
    rcases full_lt hz hc hi with ⟨hlt, h1⟩ | ⟨rfl, hall⟩
    · obtain ⟨_, p, hp, h2⟩ := mem_ready.1 h1
      have hp' : l[i]? = some p := by simpa using hp
      have hgd := up_guard hu hp'
      obtain ⟨g, hg⟩ := hr
      unfold wpOpIn
      rw [full_get hlt, hp']
      have hst := h.2 i h1 p hp
      have hsz : (listed.setIfInBounds i true).size = l.length := by simp [hz]
      have hcl : closedE l (listed.setIfInBounds i true) := fun j q hq hl e he hb => by
        have up : ∀ k, listed.getD k false = true → (listed.setIfInBounds i true).getD k false = true := fun k hk => by
          rw [Array.getD_eq_getD_getElem?] at hk ⊢
          rw [Array.getElem?_setIfInBounds]
          split <;> rename_i h
          · subst h; rw [if_pos (by omega)]; rfl
          · exact hk
        refine up _ ?_
        by_cases hji : j = i
        · subst hji; rw [hp'] at hq; cases hq; exact h2 e he hb
        · refine hc j q hq ?_ e he hb
          rw [Array.getD_eq_getD_getElem?, Array.getElem?_setIfInBounds, if_neg (Ne.symm hji)] at hl
          rw [Array.getD_eq_getD_getElem?]; exact hl
      have e1 : (listed.push false).setIfInBounds i true = (listed.setIfInBounds i true).push false := by
        apply Array.ext_getElem?
        intro k
        rw [Array.getElem?_setIfInBounds, Array.getElem?_push, Array.getElem?_push, Array.getElem?_setIfInBounds]
        simp only [Array.size_setIfInBounds, Array.size_push]
        by_cases hki : i = k
        · subst hki
          have h1 : ¬ i = listed.size := by omega
          have h2 : i < listed.size := by omega
          simp [h1, h2, Nat.lt_succ_of_lt h2]
        · simp [hki]
      have := gst_sound (c := c) (ops := l.toArray) (Q := Q) (N := wpAnyIn c.F 0 c.P .any (l ++ [o]).toArray Q (fuel + 1) ((listed.push false).setIfInBounds i true)) hg (fun s' a' w' hr' hk' => by rw [e1]; exact ih _ s' a' w' hr' hsz hcl hk') hst
      rw [if_pos (by simp [Region.wanted, hgd])] at this
      simp only
      rw [if_pos (by simp [Region.wanted, hgd])]
      exact this
    · have hnil : Region.ready .any l.toArray listed = [] := by
        refine List.eq_nil_iff_forall_not_mem.2 fun i hi => ?_
        obtain ⟨h1, p, hp, _⟩ := mem_ready.1 hi
        have hil : i < l.length := by have := (Array.getElem?_eq_some_iff.1 hp).1; simpa using this
        rw [hall i hil] at h1; cases h1
      exact last (fuel + 1) hr hz hall (h.1 hnil)
end
section
variable {c : Ctx} {s : St}
/-- A region that draws its order, of which the last operation is a call that may panic and that awaits all others. -/
theorem abs_drawE {Q : Exit → St → Prop} {id : Nat} {l : List Oper} (n : Nat) {f : FuncId} {xs : Array Operand} {dst : Option Tmp} {at_ : Array TypeId} {ty : TypeId} {pos : String} {aft : Array Edge} {res : Option D} {ds : List D} {t : TypeId}
    (hm : c.P.follows .mixedOrders = true) (hl : l = (l.take n) ++ [⟨dst, .call ⟨.value (.func f), xs, at_⟩, ty, pos, aft, none⟩])
    (hB : (Region.lexB .any (l.take n).toArray && kindsOk (l.take n) && pairsOk 0 (l.take n) && upOk (l.take n) && sinkOk (l.take n) ⟨dst, .call ⟨.value (.func f), xs, at_⟩, ty, pos, aft, none⟩ && aft.all fun e => !Region.binds .any e || decide (e.on < (l.take n).length)) = true)
    (hC : CallsE c.P f ds t res) (h : ∀ K1 : St → Prop, (∀ s1, atE c Q (Q .normal) xs.toList dst ds t res s1 → K1 s1) → evOps c.P (l.take n) (l.take n) s K1) : Abs c (.region id l.toArray true) Q s := by
  intro a w hr
  rw [hl]
  generalize l.take n = l1 at *
  obtain ⟨y, hy⟩ : ∃ y : Oper, y = ⟨dst, .call ⟨.value (.func f), xs, at_⟩, ty, pos, aft, none⟩ := ⟨_, rfl⟩
  rw [← hy] at hB ⊢
  simp only [Bool.and_eq_true, Region.lexB] at hB
  obtain ⟨⟨⟨⟨⟨⟨_, hx⟩, hk⟩, hp⟩, hu⟩, hs⟩, ho⟩ := hB
  refine wpIn_region_any hm ?_
  have e1 : (l1 ++ [y]).toArray.size = l1.length + 1 := by simp
  have e2 : Array.replicate (l1.length + 1) false = (Array.replicate l1.length false).push false := Array.replicate_succ
  rw [e1, e2]
  refine anyE_sound (c := c) (K1 := atE c Q (Q .normal) xs.toList dst ds t res) (Q := fun e a' w' => ∃ s', R c s' a' w' ∧ Q e s') hs hu (by rw [hy]; exact ho) (by rw [hy]) (fun s a w hr hk => callE_in (c := c) hy hC hr hk (fun s' a' w' hr' hq => ⟨s', hr', hq⟩)) l1.length _ s _ _ (RG.drewTick hr) (by simp) ?_ ?_
  · intro j p hj hl
    rw [Array.getD_eq_getD_getElem?, Array.getElem?_replicate, if_pos (List.getElem?_eq_some_iff.1 hj).1] at hl
    cases hl
  · have := anyA_lex (P := c.P) (ops := l1.toArray) (K := atE c Q (Q .normal) xs.toList dst ds t res) (by simpa using hk) (by simpa using hp) l1 0 (Array.replicate l1.length false) s (by simp) (by simp) (by simpa using hx) (by simpa using h _ (fun _ h => h))
    simpa using this
end
end Go.Ab
end
section
namespace Go.Ab
open Go.RowKit
/-! ## A range over any string; a round may panic -/
theorem dec_high (s : ByteArray) (i : Nat) (h : 128 ≤ (s.get! i).toNat) : ∃ c w, Utf8.decode s i = (c, w) ∧ 128 ≤ c := by
  have e : Utf8.runeError = 65533 := rfl
  unfold Utf8.decode
  simp only [Nat.add_zero]
  rw [if_neg (by omega)]
  split
  · split
    · exact ⟨_, _, rfl, by omega⟩
    · exact ⟨_, _, rfl, by rw [e]; decide⟩
  · split
    · split
      · rename_i hh; simp only [Bool.and_eq_true, decide_eq_true_eq, ge_iff_le] at hh
        exact ⟨_, _, rfl, by omega⟩
      · exact ⟨_, _, rfl, by rw [e]; decide⟩
    · split
      · split
        · rename_i hh; simp only [Bool.and_eq_true, decide_eq_true_eq, ge_iff_le] at hh
          exact ⟨_, _, rfl, by omega⟩
        · exact ⟨_, _, rfl, by rw [e]; decide⟩
      · exact ⟨_, _, rfl, by rw [e]; decide⟩
theorem dec_case (str : ByteArray) (k : Nat) (hk : k < str.size) : ∃ r w, Utf8.decode str k = (r, w) ∧ (if (str[k]'hk).toNat < 128 then r = (str[k]'hk).toNat else 128 ≤ r) ∧ ((str[k]'hk).toNat < 128 → w = 1) := by
  by_cases h : (str[k]'hk).toNat < 128
  · exact ⟨_, _, decode_ascii str k hk h, by rw [if_pos h], fun _ => rfl⟩
  · have e : str.get! k = str[k]'hk := by
      simp [ByteArray.get!, ByteArray.getElem_eq_getElem_data, hk]
    obtain ⟨c, w, h1, h2⟩ := dec_high str k (by rw [e]; omega)
    exact ⟨c, w, h1, by rw [if_neg h]; exact h2, fun h' => absurd h' h⟩
theorem next_wpE {P : Program} {a : Act} {w : World} {o : Oper} {x : Operand} {str : ByteArray} {B k r wd : Nat} {N : Act → World → Prop} {Q : Exit → Act → World → Prop} (ho : o.op = .next x true) (hx : a.eval x = .pointer (some ⟨B, 0, none⟩)) (hB : w.heap[B]? = some (.stringIter str k)) (hk : k < str.size)
    (ha : Utf8.decode str k = (r, wd)) (h : N (a.put o.dst (.tuple #[.bool true, .int .i64 k, .int .i32 r])) (turned w B str (k + wd))) : o.wp P a w N Q := by
  have hrun : (execOp a.eval o).run P w = .ok (.value (.tuple #[.bool true, .int .i64 k, .int .i32 r])) (turned w B str (k + wd)) := by
    simp [execOp, ho, hx, Instr.next, getObj, setObj, Sem.run, hB, hk, ha, goInt, turned]
  unfold Oper.wp
  rw [hrun]
  exact h
theorem abs_rangeStrE {c : Ctx} {Q : Exit → St → Prop} {s : St} {str : ByteArray} {x : Operand} {t7 t8 t9 t10 : Tmp} {tS ty7 ty8 ty9 ty10 : TypeId} {p7 p8 p9 p10 : String} {f7 f8 f9 f10 : Array Edge} {id0 id1 e0 : Nat} {body : Code}
    (hx : s.ev x = .str str) (hst : strTy c.P tS = true) (h7 : t7 < s.n) (h8 : t8 < s.n) (h9 : t9 < s.n) (h10 : t10 < s.n) (h98 : t9 ≠ t8) (hβ : c.β0 = []) (hbx : s.bx = []) (hrw : s.rw = [])
    (p : Nat → Prop) (hp0 : p 0) (inv : Nat → List (Nat × D)) (hnm : ∀ k, ((inv k).all fun p => namesB 0 0 p.2) = true)
    (hle : ∀ B, Le ((s.put (some t7) (.str str)).put (some t8) (itD B)) (mkSt s.n ((t8, itD B) :: inv 0) [] []))
    (round : ∀ (B k : Nat) (hk : k < str.size), p k → ∀ (w1 : World) (S1 : Addr → Prop) (M1 : MM) (o1 : Nat → Prop) (r : Nat), (if (str[k]'hk).toNat < 128 then r = (str[k]'hk).toNat else 128 ≤ r) → Abs ⟨c.P, w1, S1, M1, c.l, o1, []⟩ body (fun e s' => (e = .normal ∧ (str[k]'hk).toNat < 128 ∧ p (k + 1) ∧ Le s' (mkSt s.n ((t8, itD B) :: inv (k + 1)) [] [])) ∨ ((∃ ch, e = .panic ch) ∧ s'.bx = [] ∧ s'.rw = [] ∧ Q e s'))
      (((⟨s.n, ((t8, itD B) :: inv k).foldr (fun p f => put f p.1 p.2) none', [], []⟩ : St).put (some t9) (.tup [.bool true, .int .i64 k, .int .i32 r])).put (some t10) (.bool true)))
    (done : p str.size → ∀ B, Q .normal (((⟨s.n, ((t8, itD B) :: inv str.size).foldr (fun p f => put f p.1 p.2) none', [], []⟩ : St).put (some t9) (.tup [.bool false])).put (some t10) (.bool false))) :
    Abs c (.seq (.region id0 #[⟨some t7, .move x, ty7, p7, f7, none⟩, ⟨some t8, .range tS (.tmp t7), ty8, p8, f8, none⟩] false)
      (.block e0 (.loop (.seq (.region id1 #[⟨some t9, .next (.tmp t8) true, ty9, p9, f9, none⟩, ⟨some t10, .extract (.tmp t9) 0, ty10, p10, f10, none⟩] false) (.seq (.cond (.tmp t10) .skip (.exit e0)) body))))) Q s := by
  intro a w hr
  have hnm' : ∀ B k, (mkSt s.n ((t8, itD B) :: inv k) [] []).named := fun B k => named_of (by
    simp only [List.all_cons, List.length_nil, hnm k]; rfl) rfl
  refine wpIn_seq (wpIn_region_lit (l := [⟨some t7, .move x, ty7, p7, f7, none⟩, ⟨some t8, .range tS (.tmp t7), ty8, p8, f8, none⟩]) ?_)
  obtain ⟨g, hg⟩ := hr
  unfold wpListIn
  rw [if_pos (by simp [Region.wanted])]
  have hst7 : stepOp c.P ⟨some t7, .move x, ty7, p7, f7, none⟩ s (fun s1 => s1 = s.put (some t7) (.str str)) := ⟨h7, by show St.put s _ (s.ev x) = _; rw [hx]⟩
  refine op_in (step_nodefer hst7) (Oper.wp_mono (fun a1 w1 ⟨s1, hr1, e1⟩ => ?_) (step_sound hg hst7))
  subst e1
  obtain ⟨g1, hg1⟩ := hr1
  unfold wpListIn
  rw [if_pos (by simp [Region.wanted])]
  refine op_in (fun cl e => by cases e) ?_
  have hs7 : a1.eval (.tmp t7) = .string str := by
    have := hg1.sl t7
    have e : (s.put (some t7) (.str str)).sl t7 = .str str := by simp [St.put, put]
    rw [e] at this
    have : Rel w1 g1 (a1.eval (.tmp t7)) (.str str) := this
    generalize a1.eval (.tmp t7) = v at this
    cases this; rfl
  refine range_wp (t := tS) (x := .tmp t7) rfl hs7 hst ?_
  obtain ⟨B, hBe⟩ : ∃ B, B = w1.heap.size := ⟨_, rfl⟩
  have h0B : c.w0.heap.size ≤ B := by rw [hBe]; exact hg1.below.size
  have hbI := below_alloc w1 (.stringIter str 0)
  have hg2 : RG c (s.put (some t7) (.str str)) a1 (w1.iter str 0) ⟨g1.S, g1.β, g1.ρ, g1.M⟩ := hg1.world hbI (fun _ h => h) (fun _ h => .inl h) (hg1.good.below hbI)
  have hg3 : RG c ((s.put (some t7) (.str str)).put (some t8) (itD B)) (a1.put (some t8) (.pointer (some ⟨B, 0, none⟩))) (w1.iter str 0) ⟨g1.S, g1.β, g1.ρ, g1.M⟩ := hg2.put (show t8 < s.n from h8) (.val _ _)
  have hR : R c (mkSt s.n ((t8, itD B) :: inv 0) [] []) (a1.put (some t8) (.pointer (some ⟨B, 0, none⟩))) (w1.iter str 0) := R.le ⟨_, hg3⟩ (hle B) (hnm' B 0) (by rw [hβ]; exact Nat.le_refl _)
  have hheap : (w1.iter str 0).heap[B]? = some (.stringIter str 0) := by rw [hBe]; exact World.iter_heap w1 str 0
  rw [← hBe]
  unfold wpListIn
  refine wpIn_block ?_
  refine wp_loop_ix (fun k a w => (k ≤ str.size ∧ p k) ∧ R c (mkSt s.n ((t8, itD B) :: inv k) [] []) a w ∧ w.heap[B]? = some (.stringIter str k)) (fun k => str.size - k) (fun k a w ⟨⟨hk, hpk⟩, hr, hh⟩ => ?_) 0 ⟨⟨Nat.zero_le _, hp0⟩, hR, hheap⟩
  obtain ⟨g, hg⟩ := hr
  have hev8 : a.eval (.tmp t8) = .pointer (some ⟨B, 0, none⟩) := by
    have := hg.sl t8
    have e : (mkSt s.n ((t8, itD B) :: inv k) [] []).sl t8 = itD B := by simp [mkSt, put]
    rw [e] at this
    have : Rel w g (a.eval (.tmp t8)) (itD B) := this
    generalize a.eval (.tmp t8) = v at this
    cases this; rfl
  refine wpIn_seq (wpIn_region_lit (l := [⟨some t9, .next (.tmp t8) true, ty9, p9, f9, none⟩, ⟨some t10, .extract (.tmp t9) 0, ty10, p10, f10, none⟩]) ?_)
  unfold wpListIn
  rw [if_pos (by simp [Region.wanted])]
  refine op_in (fun cl e => by cases e) ?_
  by_cases hlt : k < str.size
  · obtain ⟨r, wd, hdec, hr128⟩ := dec_case str k hlt
    refine next_wpE (x := .tmp t8) rfl hev8 hh hlt hdec ?_
    have hgt := hg.iterTurn rfl rfl (k := k + wd) hh h0B
    have ht := turned_here (k := k + wd) hh
    have hgp := hgt.put (dst := some t9) (show t9 < s.n from h9) (v := .tuple #[.bool true, .int .i64 k, .int .i32 r]) (d := .tup [.bool true, .int .i64 k, .int .i32 r]) (.tup _ _ _ rfl (fun q d hd => by
      match q, hd with
      | 0, hd => cases hd; exact .bool _ _
      | 1, hd => cases hd; exact .int _ _ _
      | 2, hd => cases hd; exact .int _ _ _
      | q + 3, hd => simp at hd))
    unfold wpListIn
    rw [if_pos (by simp [Region.wanted])]
    have hex : stepOp c.P ⟨some t10, .extract (.tmp t9) 0, ty10, p10, f10, none⟩ ((mkSt s.n ((t8, itD B) :: inv k) [] []).put (some t9) (.tup [.bool true, .int .i64 k, .int .i32 r]))
        (fun s1 => s1 = ((mkSt s.n ((t8, itD B) :: inv k) [] []).put (some t9) (.tup [.bool true, .int .i64 k, .int .i32 r])).put (some t10) (.bool true)) := by
      refine ⟨h10, ?_⟩
      have e : ((mkSt s.n ((t8, itD B) :: inv k) [] []).put (some t9) (.tup [.bool true, .int .i64 k, .int .i32 r])).ev (.tmp t9) = .tup [.bool true, .int .i64 k, .int .i32 r] := by simp [St.ev, St.put, put]
      show wTup (St.ev _ (.tmp t9)) _
      rw [e]
      rfl
    have hge := hgp.iterEnter rfl rfl ht
    have hP : (c.from_ (turned w B str (k + wd)) g.S g.M B).P = c.P := rfl
    have hF : (c.from_ (turned w B str (k + wd)) g.S g.M B).F = c.F := rfl
    refine op_in (c := c.from_ (turned w B str (k + wd)) g.S g.M B) (step_nodefer hex) (Oper.wp_mono (fun a3 w3 ⟨s3, hr3, e3⟩ => ?_) (step_sound hge hex))
    subst e3
    unfold wpListIn
    refine wpIn_seq ?_
    obtain ⟨g3, hg3⟩ := hr3
    have hb10 : a3.eval (.tmp t10) = .bool true := by
      have := hg3.sl t10
      have e : (((mkSt s.n ((t8, itD B) :: inv k) [] []).put (some t9) (.tup [.bool true, .int .i64 k, .int .i32 r])).put (some t10) (.bool true)).sl t10 = .bool true := by simp [St.put, put]
      rw [e] at this
      exact Rel.asBool this
    refine wpIn_cond hb10 ?_
    simp only [if_true]
    refine wpIn_skip ?_
    show body.wpIn c.F 0 c.P _ a3 w3
    have hbody := round B k hlt hpk (turned w B str (k + wd)) g.S g.M (c.from_ (turned w B str (k + wd)) g.S g.M B).own r hr128.1 a3 w3 ⟨g3, hg3⟩
    refine wpIn_mono hbody ?_
    rintro e a4 w4 ⟨s4, hr4, ⟨rfl, hasc, hp4, hl4⟩ | ⟨⟨ch, rfl⟩, hb4, hw4, hq4⟩⟩
    · obtain rfl := hr128.2 hasc
      obtain ⟨g5, hg5⟩ := R.le hr4 hl4 (hnm' B (k + 1)) (Nat.le_refl _)
      have := hgp.iterLeave rfl ht h0B hg5 rfl rfl
      exact ⟨k + 1, ⟨⟨by omega, hp4⟩, ⟨_, this.1⟩, this.2⟩, by omega⟩
    · obtain ⟨g5, hg5⟩ := hr4
      have := hgp.iterLeave rfl ht h0B hg5 hb4 hw4
      exact ⟨s4, ⟨_, this.1⟩, hq4⟩
  · obtain rfl : k = str.size := by omega
    refine next_end (x := .tmp t8) rfl hev8 hh hlt ?_
    have hgp := hg.put (dst := some t9) (show t9 < s.n from h9) (v := .tuple #[.bool false]) (d := .tup [.bool false]) (.tup _ _ _ rfl (fun q d hd => by
      match q, hd with
      | 0, hd => cases hd; exact .bool _ _
      | q + 1, hd => simp at hd))
    unfold wpListIn
    rw [if_pos (by simp [Region.wanted])]
    have hex : stepOp c.P ⟨some t10, .extract (.tmp t9) 0, ty10, p10, f10, none⟩ ((mkSt s.n ((t8, itD B) :: inv str.size) [] []).put (some t9) (.tup [.bool false]))
        (fun s1 => s1 = ((mkSt s.n ((t8, itD B) :: inv str.size) [] []).put (some t9) (.tup [.bool false])).put (some t10) (.bool false)) := by
      refine ⟨h10, ?_⟩
      have e : ((mkSt s.n ((t8, itD B) :: inv str.size) [] []).put (some t9) (.tup [.bool false])).ev (.tmp t9) = .tup [.bool false] := by simp [St.ev, St.put, put]
      show wTup (St.ev _ (.tmp t9)) _
      rw [e]
      rfl
    refine op_in (step_nodefer hex) (Oper.wp_mono (fun a3 w3 ⟨s3, hr3, e3⟩ => ?_) (step_sound hgp hex))
    subst e3
    unfold wpListIn
    refine wpIn_seq ?_
    obtain ⟨g3, hg3⟩ := hr3
    have hb10 : a3.eval (.tmp t10) = .bool false := by
      have := hg3.sl t10
      have e : (((mkSt s.n ((t8, itD B) :: inv str.size) [] []).put (some t9) (.tup [.bool false])).put (some t10) (.bool false)).sl t10 = .bool false := by simp [St.put, put]
      rw [e] at this
      exact Rel.asBool this
    refine wpIn_cond hb10 ?_
    simp only [Bool.false_eq_true, if_false]
    refine wpIn_exit ?_
    simp only [Exit.then, Exit.inBlock, if_true]
    exact ⟨_, ⟨g3, hg3⟩, done hpk B⟩
/-! ## How such functions are opened and end -/
theorem callsE_abs {P : Program} {f : FuncId} {fn : Func} {code : Code} {ds : List D} {t : TypeId} {res : Option D} {n : Nat} {rs : Array ResultVar} (hf : P.funcs[f]? = some fn) (hn : fn.ntmps = n) (hr : fn.results = rs)
    (hc : ∀ (args : Array Value) (w : World), (callFunc f args).run P w = .ok (.enter f args) w) (hb : fn.body = some code) (hl : ds.length ≤ n)
    (h : ∀ (w0 : World) (S0 : Addr → Prop) (M0 : MM), Abs ⟨P, w0, S0, M0, none, fun b => w0.heap.size ≤ b, []⟩ code (endE P rs t res) ⟨n, ofL 0 ds, [], []⟩) : CallsE P f ds t res := by
  subst hn; subst hr
  refine callsE_of_abs hf hb hc hl ?_
  rintro ⟨_, w0, S0, M0, l, own, b0⟩ h1 h2 h3 h4
  simp only at h1 h2 h3 h4
  subst h1; subst h2; subst h3; subst h4
  exact h w0 S0 M0
theorem ende_ret {P : Program} {rs : Array ResultVar} {t : TypeId} {d : D} {s : St} (h : retQ P rs d .ret s) : endE P rs t (some d) .ret s := ⟨d, rfl, h⟩
theorem ende_normal {P : Program} {rs : Array ResultVar} {t : TypeId} {d : D} {s : St} (h : retQ P rs d .normal s) : endE P rs t (some d) .normal s := ⟨d, rfl, h⟩
theorem ende_panic {P : Program} {rs : Array ResultVar} {t : TypeId} {x : ByteArray} {s : St} : endE P rs t none (.panic (pchain t x)) s := ⟨rfl, x, rfl⟩
end Go.Ab
namespace Go.Ab
open Go.RowKit
theorem str_agg {w : World} {g : Gh} {v : Value} {x : ByteArray} (h : Rel w g v (.agg [.str x])) : v = .agg #[.string x] := by
  cases h
  case agg vs hl h1 h2 =>
    have h3 := h2 0 (.str x) rfl
    have hs : vs.size = 1 := by simpa using hl
    obtain ⟨vs⟩ := vs
    match vs, hs with
    | [a], _ =>
      have h3 : Rel w g a (.str x) := h3
      cases h3
      rfl
/-- A region that ends in a panic with a struct of one text. -/
theorem abs_panic {c : Ctx} {s : St} {Q : Exit → St → Prop} {id : Nat} {l : List Oper} (n : Nat) {t : TypeId} {d7 d8 : Tmp} {x : ByteArray} {ty ty' : TypeId} {pos pos' : String} {aft aft' : Array Edge}
    (hl : l = l.take n ++ [⟨some d8, .makeInterface t (.tmp d7), ty, pos, aft, none⟩, ⟨none, .panic (.tmp d8), ty', pos', aft', none⟩]) {fs : Array Field} (ht : c.P.underlying t = some (.struct fs))
    (h : ∀ K1 : St → Prop, (∀ s1, s1.sl d7 = .agg [.str x] → d8 < s1.n → (∀ s2, Q (.panic (pchain t x)) s2) → K1 s1) → evOps c.P l (l.take n) s K1) : Abs c (.region id l.toArray false) Q s := by
  intro a w hr
  refine wpIn_region_lit ?_
  rw [hl]
  rw [hl] at h
  have hl1 : (l.take n ++ [(⟨some d8, .makeInterface t (.tmp d7), ty, pos, aft, none⟩ : Oper), ⟨none, .panic (.tmp d8), ty', pos', aft', none⟩]).take n = l.take n := by rw [← hl]
  rw [hl1] at h
  generalize l.take n = l1 at *
  refine evOps_pre (c := c) (fun s1 a1 w1 hr1 hk1 => ?_) l1 s a w hr (h (fun s1 => s1.sl d7 = .agg [.str x] ∧ d8 < s1.n ∧ ∀ s2, Q (.panic (pchain t x)) s2) (fun s1 h1 h2 h3 => ⟨h1, h2, h3⟩))
  obtain ⟨h1, h2, h3⟩ := hk1
  obtain ⟨g1, hg1⟩ := hr1
  have hv := hg1.sl d7
  rw [h1] at hv
  have hv := str_agg hv
  unfold wpListIn
  rw [if_pos (by simp [Region.wanted])]
  refine op_in (c := c) (by intro cl h; cases h) ?_
  have hx : a1.eval (.tmp d7) = .agg #[.string x] := hv
  have hrun : (execOp a1.eval ⟨some d8, .makeInterface t (.tmp d7), ty, pos, aft, none⟩).run c.P w1 = .ok (.value (.iface t (.agg #[.string x]))) w1 := by
    simp [execOp, hx, Instr.makeInterface, underlying, ht, Sem.run]
  unfold Oper.wp
  rw [hrun]
  show wpListIn _ _ _ _ _ [_] _ _
  unfold wpListIn
  rw [if_pos (by simp [Region.wanted])]
  have hg2 := hg1.put (dst := some d8) (show d8 < s1.n from h2) (v := .iface t (.agg #[.string x])) (d := .val (.iface t (.agg #[.string x]))) (.val _ _)
  have hy : (a1.put (some d8) (.iface t (.agg #[.string x]))).eval (.tmp d8) = .iface t (.agg #[.string x]) := by
    have := hg2.sl d8
    have e : (s1.put (some d8) (.val (.iface t (.agg #[.string x])))).sl d8 = .val (.iface t (.agg #[.string x])) := by simp [St.put, put]
    rw [e] at this
    have : Rel w1 g1 ((a1.put (some d8) (.iface t (.agg #[.string x]))).eval (.tmp d8)) (.val (.iface t (.agg #[.string x]))) := this
    generalize (a1.put (some d8) (.iface t (.agg #[.string x]))).eval (.tmp d8) = v at this
    cases this; rfl
  generalize (a1.put (some d8) (.iface t (.agg #[.string x]))) = a2 at hg2 hy
  refine ⟨fun _ _ => trivial, ?_⟩
  have hsem : (Oper.semAt c.F.round a2.eval ⟨none, .panic (.tmp d8), ty', pos', aft', none⟩).run c.P w1 = .halt (.panic (.iface t (.agg #[.string x]))) w1 := by
    rw [Oper.semAt_eq _ _ _ (by intro cl h; cases h)]
    simp [execOp, hy, Instr.panic, goPanic]
  rw [hsem, Oper.uponIn_panic]
  exact ⟨_, ⟨_, hg2⟩, h3 _⟩
end Go.Ab
namespace Go.Ab
theorem atE_none {c : Ctx} {Q : Exit → St → Prop} {N : St → Prop} {xs : List Operand} {dst : Option Tmp} {ds : List D} {t : TypeId} {s1 : St} (h1 : pureDsV s1.bx s1.rw (xs.map s1.ev) = some ds) (h2 : dstOk s1 dst) (h3 : ∀ x, Q (.panic (pchain t x)) s1) : atE c Q N xs dst ds t none s1 :=
  ⟨h1, h2, (fun d h => by cases h), fun _ => h3⟩
theorem atE_some {c : Ctx} {Q : Exit → St → Prop} {N : St → Prop} {xs : List Operand} {dst : Option Tmp} {ds : List D} {t : TypeId} {s1 : St} {d : D} (h1 : pureDsV s1.bx s1.rw (xs.map s1.ev) = some ds) (h2 : dstOk s1 dst) (h3 : N (s1.put dst d)) : atE c Q N xs dst ds t (some d) s1 :=
  ⟨h1, h2, (fun d' h => by cases h; exact h3), (fun h => by cases h)⟩
end Go.Ab
end
