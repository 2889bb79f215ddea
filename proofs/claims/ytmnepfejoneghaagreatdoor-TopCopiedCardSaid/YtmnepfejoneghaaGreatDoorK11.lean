import Derived.Test.YtmnepfejoneghaaGreatDoorK10
import Derived.Test.YtmnepfejoneghaaGreatDoorK06
import Derived.RecoverIn
set_option linter.unusedVariables false
set_option linter.unusedSimpArgs false
namespace Go.Ab
open Go.RowKit
/-!
  '==' at structs whose fields are whole numbers or structs of whole numbers.
-/
def FOk (P : Program) (k : Nat) (f : Field) (m : Nat) : Prop := f.name ≠ "_" ∧ f.offset = k ∧ ((intOfTy P f.type = some .i64 ∧ m = 1) ∨
  (P.underlying f.type = some (.struct (P.fieldsOf f.type)) ∧ (flatFields P 0 (P.fieldsOf f.type).toList && decide ((P.fieldsOf f.type).toList.length = m)) = true ∧ P.stoodInHeld f.type = false ∧ aggO P f.type = some true ∧ szOf P f.type = m ∧ m ≠ 0))
def FsOk (P : Program) : Nat → List Field → Nat → Prop
  | k, [], n => k = n
  | k, f :: fs, n => ∃ m, FOk P k f m ∧ FsOk P (k + m) fs n
theorem extract_map (xs : List Int) (k m : Nat) : (xs.map (Value.int .i64)).toArray.extract k (k + m) = (((xs.drop k).take m).map (Value.int .i64)).toArray := by
  apply Array.ext'
  simp [List.map_drop, List.map_take, List.extract_eq_take_drop]
theorem drop_split (xs ys : List Int) (k m : Nat) : (xs.drop k = ys.drop k) ↔ ((xs.drop k).take m = (ys.drop k).take m ∧ xs.drop (k + m) = ys.drop (k + m)) := by
  constructor
  · intro h; rw [h]; refine ⟨rfl, ?_⟩; rw [← List.drop_drop, ← List.drop_drop, h]
  · rintro ⟨h1, h2⟩
    rw [← List.take_append_drop m (xs.drop k), ← List.take_append_drop m (ys.drop k), h1, List.drop_drop, List.drop_drop, h2]
theorem FsOk.le {P : Program} : ∀ (fs : List Field) (k n : Nat), FsOk P k fs n → k ≤ n
  | [], k, n, h => Nat.le_of_eq h
  | f :: fs, k, n, ⟨m, _, h⟩ => by have := FsOk.le fs (k + m) n h; omega
theorem eqFields_mix {P : Program} (d : Nat) (xs ys : List Int) (w : World) (hx : xs.length = ys.length) : ∀ (fs : List Field) (k : Nat), FsOk P k fs xs.length →
    (Op.eqFields (d + 2) (xs.map (Value.int .i64)).toArray (ys.map (Value.int .i64)).toArray fs).run P w = .ok (decide (xs.drop k = ys.drop k)) w
  | [], k, h => by
    have h : k = xs.length := h
    simp [Op.eqFields, List.drop_eq_nil_of_le (Nat.le_of_eq h.symm), List.drop_eq_nil_of_le (Nat.le_of_eq (h.trans hx).symm)]
  | f :: fs, k, ⟨m, ⟨hn, ho, hk⟩, hr⟩ => by
    have ih := eqFields_mix d xs ys w hx fs (k + m) hr
    have hle := FsOk.le fs _ _ hr
    have hs := drop_split xs ys k m
    rcases hk with ⟨hu, rfl⟩ | ⟨hu, hf, hp, hag, hsz, hm0⟩
    · have hu := intOf_u hu
      have hag : aggO P f.type = some false := by unfold aggO; rw [hu]
      have hxk : k < xs.length := by omega
      have hyk : k < ys.length := by omega
      have p1 := run_part_int hag xs k hxk w
      have p2 := run_part_int hag ys k hyk w
      have p3 : ∀ a b : Int, (Op.equalIn (d + 2) f.type (.int .i64 a) (.int .i64 b)).run P w = .ok (a == b) w := fun a b => by
        simp [Op.equalIn, run_underlying hu]
      simp only [Op.eqFields, hn, ne_eq, not_false_eq_true, if_true, Sem.run_bind, ho, p1, p2, p3, Result.andThen_ok]
      have hd : (xs.drop k = ys.drop k) = (xs[k] = ys[k] ∧ xs.drop (k + 1) = ys.drop (k + 1)) := by
        rw [List.drop_eq_getElem_cons hxk, List.drop_eq_getElem_cons hyk, List.cons.injEq]
      simp only [hd]
      by_cases hxy : xs[k] = ys[k]
      · simp [hxy, ih]
      · simp [hxy]
    · simp only [Bool.and_eq_true, decide_eq_true_eq] at hf
      have hz : szOf P f.type ≠ 0 := by rw [hsz]; exact hm0
      have p : ∀ zs : List Int, (part f.type (zs.map (Value.int .i64)).toArray k).run P w = .ok (.agg (((zs.drop k).take m).map (Value.int .i64)).toArray) w := fun zs => by
        simp only [part, Sem.run_bind, aggO_run hag, Result.andThen_ok, if_true, run_sizeOf hz, Sem.run_pure, hsz, extract_map]
      have l1 : ((xs.drop k).take m).length = m := by simp; omega
      have l2 : ((ys.drop k).take m).length = m := by simp; omega
      have p3 : (Op.equalIn (d + 2) f.type (.agg (((xs.drop k).take m).map (Value.int .i64)).toArray) (.agg (((ys.drop k).take m).map (Value.int .i64)).toArray)).run P w = .ok (decide ((xs.drop k).take m = (ys.drop k).take m)) w := by
        have h := eqFields_ints (P := P) d ((xs.drop k).take m) ((ys.drop k).take m) w (P.fieldsOf f.type).toList 0 hf.1 (by omega) (by omega)
        rw [run_equalIn_struct w _ f.type _ _ hu hp, h]
        simp
      simp only [Op.eqFields, hn, ne_eq, not_false_eq_true, if_true, Sem.run_bind, ho, p, p3, Result.andThen_ok]
      by_cases hxy : (xs.drop k).take m = (ys.drop k).take m
      · simp [hxy, ih, hs]
      · simp [hxy, hs]
def fB (P : Program) (k : Nat) (f : Field) : Option Nat := if (f.name != "_" && f.offset == k) = true then (match P.underlying f.type with
  | some (.int .i64) => some 1
  | some (.struct fs) => if (flatFields P 0 fs.toList && !P.stoodInHeld f.type && decide (aggO P f.type = some true) && decide (szOf P f.type = fs.toList.length) && decide (fs.toList.length ≠ 0)) = true then some fs.toList.length else none
  | _ => none) else none
def fsB (P : Program) : Nat → List Field → Option Nat
  | k, [] => some k
  | k, f :: fs => match fB P k f with
    | some m => fsB P (k + m) fs
    | none => none
theorem fB_ok {P : Program} {k m : Nat} {f : Field} (h : fB P k f = some m) : FOk P k f m := by
  unfold fB at h
  split at h
  · rename_i h1
    simp only [Bool.and_eq_true, bne_iff_ne, ne_eq, beq_iff_eq] at h1
    split at h
    · rename_i hu
      cases h
      exact ⟨h1.1, h1.2, .inl ⟨by unfold intOfTy; rw [hu], rfl⟩⟩
    · rename_i fs hu
      split at h
      · rename_i h2
        cases h
        simp only [Bool.and_eq_true, Bool.not_eq_true', decide_eq_true_eq] at h2
        obtain ⟨⟨⟨⟨q1, q2⟩, q3⟩, q4⟩, q5⟩ := h2
        have hf : P.fieldsOf f.type = fs := by unfold Program.fieldsOf; rw [hu]
        refine ⟨h1.1, h1.2, .inr ⟨by rw [hf]; exact hu, ?_, q2, q3, q4, q5⟩⟩
        rw [hf]; simp [q1]
      · cases h
    · cases h
  · cases h
theorem fsB_ok {P : Program} {n : Nat} : ∀ (fs : List Field) (k : Nat), fsB P k fs = some n → FsOk P k fs n
  | [], k, h => by
    have : k = n := by simpa [fsB] using h
    exact this
  | f :: fs, k, h => by
    simp only [fsB] at h
    split at h
    · rename_i m hm
      exact ⟨m, fB_ok hm, fsB_ok fs _ h⟩
    · cases h
theorem eq_struct2 {P : Program} {t : TypeId} {n : Nat} (ht : P.underlying t = some (.struct (P.fieldsOf t))) (hf : FsOk P 0 (P.fieldsOf t).toList n) (hp : P.stoodInHeld t = false) (hg : P.eqGuardType P.depth t = false) : EqInts P t n := by
  have key : ∀ (xs ys : List Int) (w : World), xs.length = n → ys.length = n → (Op.equalIn 10000 t (.agg (xs.map (Value.int .i64)).toArray) (.agg (ys.map (Value.int .i64)).toArray)).run P w = .ok (decide (xs = ys)) w := fun xs ys w hx hy => by
    have h := eqFields_mix (P := P) 9997 xs ys w (by omega) (P.fieldsOf t).toList 0 (by rw [hx]; exact hf)
    rw [show (10000 : Nat) = 9997 + 2 + 1 from rfl, run_equalIn_struct w _ t _ _ ht hp, h]
    simp
  refine ⟨hg, fun xs ys w hx hy => ?_⟩
  have h := key xs ys w hx hy
  constructor
  · simp [binOp, Op.equal, Op.maxDepth, h]
  · simp [binOp, Op.equal, Op.maxDepth, h]
end Go.Ab
section
namespace Go.Ab
open Go.RowKit
/-- What a call is handed, exact values kept (a nil slice stays one). -/
def pureDV (bx : List Bx) (rw : List Row) : D → Option D
  | .val v => some (.val v)
  | d => pureD bx rw d
section
variable {c : Ctx} {s : St} {a : Act} {w : World} {g : Gh}
theorem pureDV_rel {v : Value} {d d' : D} (h : RG c s a w g) (hr : Rel w g v d) (hp : pureDV s.bx s.rw d = some d') : Rel w g.er v d' := by
  unfold pureDV at hp
  split at hp
  · cases hp; exact hr.erase trivial
  · exact pureD_rel h hr hp
end
attribute [go_sem] pureDV
end Go.Ab
namespace Go.Ab
open Go.RowKit
/-!
  Functions that may panic with a struct of one text.
-/
/-- What such a panic holds. -/
def pchain (t : TypeId) (x : ByteArray) : List PanicEntry := [{ v := .iface t (.agg #[.string x]), recovered := false }]
/-- A call that comes back with d, or panics (none). -/
def CallsE (P : Program) (f : FuncId) (ds : List D) (t : TypeId) (res : Option D) : Prop :=
  (∀ (args : Array Value) (w : World), (callFunc f args).run P w = .ok (.enter f args) w) ∧
  ∀ (S : Addr → Prop) (M : MM) (w : World) (args : List Value), Tab w → Good w S → MOk w M → args.length = ds.length → (∀ q x, ds[q]? = some x → Rel w ⟨S, [], [], M⟩ (args.getD q Go.undef) x) →
    Calls P f args.toArray w fun e w' => ∃ S' M', Grow w S M w' S' M' ∧ Good w' S' ∧ ((∃ v d, res = some d ∧ e = .returned v ∧ Rel w' ⟨S', [], [], M'⟩ v d) ∨ (res = none ∧ ∃ x, e = .panicked (pchain t x)))
theorem CallsE.calls {P : Program} {f : FuncId} {ds : List D} {t : TypeId} {d : D} (h : CallsE P f ds t (some d)) : CallsTo P f ds d := by
  refine ⟨h.1, fun S M w args hT hS hM hl hrel => (h.2 S M w args hT hS hM hl hrel).mono ?_⟩
  rintro e w' ⟨S', M', h1, h2, ⟨v, d', e1, rfl, h3⟩ | ⟨e1, _⟩⟩
  · cases e1; exact ⟨v, S', M', rfl, h1, h2, h3⟩
  · cases e1
/-- How a body of such a function ends. -/
def endE (P : Program) (rs : Array ResultVar) (t : TypeId) (res : Option D) : Exit → St → Prop
  | .panic ch, _ => res = none ∧ ∃ x, ch = pchain t x
  | e, s => ∃ d, res = some d ∧ retQ P rs d e s
section
variable {c : Ctx} {s : St}
theorem marks_panic {a0 : Act} {fn : Func} {chain : List PanicEntry} {R : Ending → World → Prop} {g : Gh} : ∀ (l : List Deferred) (a : Act) (w : World), RG c s a w g → a.defers = l →
    (∀ w', RG c s { a with defers := [] } w' g → (∀ x, g.S x → w'.cell? x = w.cell? x) → R (.panicked chain) w') → LeavesInM Fence.wide 0 c.P fn a.tmps R l (.panicking chain) w
  | [], a, w, h, hl, hR => hR w (by rw [show ({ a with defers := [] } : Act) = a by rw [← hl]]; exact h) (fun _ _ => rfl)
  | d :: l, a, w, h, hl, hR => by
    obtain ⟨hnd, hall⟩ := h.df.dok
    rw [hl] at hnd hall
    obtain ⟨D, hB, rfl, hD⟩ := hall d (List.mem_cons_self ..)
    refine ⟨by simp, .inl ⟨D, _, rfl, run_takeDeferred hD, ?_⟩⟩
    have hg : RG c s { a with defers := l } (w.putObj D (.deferred none)) g := h.turn hD rfl (by simp) hB rfl ⟨(List.nodup_cons.1 hnd).2, fun d' hd' => by
      obtain ⟨D', hB', rfl, hD'⟩ := hall d' (List.mem_cons_of_mem _ hd')
      refine ⟨D', hB', rfl, ?_⟩
      rw [World.putObj_heap_other (fun e => by subst e; exact (List.nodup_cons.1 hnd).1 hd')]
      exact hD'⟩
    have hc : ∀ x, g.S x → (w.putObj D (.deferred none)).cell? x = w.cell? x := fun x hx => by
      obtain ⟨u, hu⟩ := h.good x hx
      obtain ⟨cs, t, fz, hx⟩ := cell_cells hu
      exact World.cell?_of_block (World.putObj_heap_other (fun e => by subst e; rw [hD] at hx; cases hx))
    exact marks_panic (a0 := a0) l { a with defers := l } _ hg rfl (fun w' h1 h2 => hR w' h1 (fun x hx => (h2 x hx).trans (hc x hx)))
end
theorem callsE_of_abs {P : Program} {f : FuncId} {fn : Func} {code : Code} {ds : List D} {t : TypeId} {res : Option D} (hf : P.funcs[f]? = some fn) (hb : fn.body = some code)
    (hc : ∀ (args : Array Value) (w : World), (callFunc f args).run P w = .ok (.enter f args) w) (hn : ds.length ≤ fn.ntmps)
    (h : ∀ c : Ctx, c.P = P → c.l = none → (c.own = fun b => c.w0.heap.size ≤ b) → c.β0 = [] → Abs c code (endE P fn.results t res) ⟨fn.ntmps, ofL 0 ds, [], []⟩) : CallsE P f ds t res := by
  refine ⟨hc, fun S M w args hT hS hM hl hrel => ?_⟩
  refine (callsIn_wide (n := 0)).1 (callsIn_of_wp_marks hf hb trivial ?_)
  have hw := h ⟨P, w, S, M, none, fun b => w.heap.size ≤ b, []⟩ rfl rfl rfl rfl { tmps := args.toArray ++ Array.replicate (fn.ntmps - args.toArray.size) undef, defers := [] } w
    ⟨⟨S, [], [], M⟩, ⟨⟨List.nodup_nil, fun d hd => by cases hd⟩, hM, fun _ _ h => h, fun _ _ h => .inl h, fun i b h => by simp at h, fun _ _ => rfl, hT.fresh hM⟩, by simp; omega, .of (Below.refl _ _), fun _ h => h, hS, fun _ h => .inl h, fun _ h => h, hS, rfl, rfl, ?_, ?_, ?_, ?_, ?_⟩
  · refine wpIn_mono (F := Fence.wide) hw ?_
    have grow : ∀ {s' : St} {a' : Act} {w' : World} {g : Gh}, RG ⟨P, w, S, M, none, fun b => w.heap.size ≤ b, []⟩ s' a' w' g → Grow w S M w' g.S g.M := fun hg =>
      ⟨⟨hg.below.os, hg.below.tape, hg.below.output, hg.below.size, fun k hk hn => hg.below.block k hk (fun h => h.elim (fun h => absurd (show w.heap.size ≤ k from h) (Nat.not_le_of_lt hk)) hn)⟩, hg.S0, hg.from0, hg.df.m0, hg.df.mfrom, hg.df.mok⟩
    rintro e a' w' ⟨s', ⟨g, hg⟩, hq⟩
    cases e with
    | panic ch =>
      obtain ⟨hres, x, rfl⟩ := hq
      exact marks_panic (c := ⟨P, w, S, M, none, fun b => w.heap.size ≤ b, []⟩) (s := s') (g := g) (a0 := a') a'.defers a' w' hg rfl (fun w2 h2 _ => ⟨g.S, g.M, grow h2, h2.good, .inr ⟨hres, x, rfl⟩⟩)
    | normal => obtain ⟨d, hd, hq⟩ := hq; exact retQ_sound (c := ⟨P, w, S, M, none, fun b => w.heap.size ≤ b, []⟩) hg hq (fun v w' hg hv => ⟨g.S, g.M, grow hg, hg.good, .inl ⟨v, d, hd, rfl, hv⟩⟩)
    | ret => obtain ⟨d, hd, hq⟩ := hq; exact retQ_sound (c := ⟨P, w, S, M, none, fun b => w.heap.size ≤ b, []⟩) hg hq (fun v w' hg hv => ⟨g.S, g.M, grow hg, hg.good, .inl ⟨v, d, hd, rfl, hv⟩⟩)
    | exit id => obtain ⟨d, hd, hq⟩ := hq; exact retQ_sound (c := ⟨P, w, S, M, none, fun b => w.heap.size ≤ b, []⟩) hg hq (fun v w' hg hv => ⟨g.S, g.M, grow hg, hg.good, .inl ⟨v, d, hd, rfl, hv⟩⟩)
    | goto id => obtain ⟨d, hd, hq⟩ := hq; exact retQ_sound (c := ⟨P, w, S, M, none, fun b => w.heap.size ≤ b, []⟩) hg hq (fun v w' hg hv => ⟨g.S, g.M, grow hg, hg.good, .inl ⟨v, d, hd, rfl, hv⟩⟩)
    | outgrown => obtain ⟨d, hd, hq⟩ := hq; exact retQ_sound (c := ⟨P, w, S, M, none, fun b => w.heap.size ≤ b, []⟩) hg hq (fun v w' hg hv => ⟨g.S, g.M, grow hg, hg.good, .inl ⟨v, d, hd, rfl, hv⟩⟩)
  · intro m
    simp only
    rw [ofL_at]
    simp only [Nat.not_lt_zero, if_false, Nat.sub_zero]
    cases hd : ds[m]? with
    | none => exact .undef _ _
    | some x =>
      have hm := (List.getElem?_eq_some_iff.1 hd).1
      have := hrel m x hd
      have e : (args.toArray ++ Array.replicate (fn.ntmps - args.toArray.size) undef).getD m undef = args.getD m undef := by
        have : m < args.length := by omega
        simp [Array.getElem?_append, this]
      rw [e]; exact this
  · intro i cs hi; simp at hi
  · intro i cs hi; simp at hi
  · intro i cs hi; simp at hi
  · exact ⟨fun _ => .inl 0, fun i x b hi => by simp at hi, fun r row v gb hr => by simp at hr⟩
section
variable {c : Ctx} {s : St}
end
section
variable {l : List Oper} {o : Oper}
end
section
variable {c : Ctx} {s : St}
end
end Go.Ab
end
section
namespace Go.Ab
open Go.RowKit
/-! ## How such functions are opened and end -/
theorem callsE_abs {P : Program} {f : FuncId} {fn : Func} {code : Code} {ds : List D} {t : TypeId} {res : Option D} {n : Nat} {rs : Array ResultVar} (hf : P.funcs[f]? = some fn) (hn : fn.ntmps = n) (hr : fn.results = rs)
    (hc : ∀ (args : Array Value) (w : World), (callFunc f args).run P w = .ok (.enter f args) w) (hb : fn.body = some code) (hl : ds.length ≤ n)
    (h : ∀ (w0 : World) (S0 : Addr → Prop) (M0 : MM), Abs ⟨P, w0, S0, M0, none, fun b => w0.heap.size ≤ b, []⟩ code (endE P rs t res) ⟨n, ofL 0 ds, [], []⟩) : CallsE P f ds t res := by
  subst hn; subst hr
  refine callsE_of_abs hf hb hc hl ?_
  rintro ⟨_, w0, S0, M0, l, own, b0⟩ h1 h2 h3 h4
  simp only at h1 h2 h3 h4
  subst h1; subst h2; subst h3; subst h4
  exact h w0 S0 M0
theorem ende_ret {P : Program} {rs : Array ResultVar} {t : TypeId} {d : D} {s : St} (h : retQ P rs d .ret s) : endE P rs t (some d) .ret s := ⟨d, rfl, h⟩
theorem ende_normal {P : Program} {rs : Array ResultVar} {t : TypeId} {d : D} {s : St} (h : retQ P rs d .normal s) : endE P rs t (some d) .normal s := ⟨d, rfl, h⟩
end Go.Ab
namespace Go.Ab
open Go.RowKit
theorem str_agg {w : World} {g : Gh} {v : Value} {x : ByteArray} (h : Rel w g v (.agg [.str x])) : v = .agg #[.string x] := by
  cases h
  case agg vs hl h1 h2 =>
    have h3 := h2 0 (.str x) rfl
    have hs : vs.size = 1 := by simpa using hl
    obtain ⟨vs⟩ := vs
    match vs, hs with
    | [a], _ =>
      have h3 : Rel w g a (.str x) := h3
      cases h3
      rfl
/-- A region that ends in a panic with a struct of one text. -/
theorem abs_panic {c : Ctx} {s : St} {Q : Exit → St → Prop} {id : Nat} {l : List Oper} (n : Nat) {t : TypeId} {d7 d8 : Tmp} {x : ByteArray} {ty ty' : TypeId} {pos pos' : String} {aft aft' : Array Edge}
    (hl : l = l.take n ++ [⟨some d8, .makeInterface t (.tmp d7), ty, pos, aft, none⟩, ⟨none, .panic (.tmp d8), ty', pos', aft', none⟩]) {fs : Array Field} (ht : c.P.underlying t = some (.struct fs))
    (h : ∀ K1 : St → Prop, (∀ s1, s1.sl d7 = .agg [.str x] → d8 < s1.n → (∀ s2, Q (.panic (pchain t x)) s2) → K1 s1) → evOps c.P l (l.take n) s K1) : Abs c (.region id l.toArray false) Q s := by
  intro a w hr
  refine wpIn_region_lit ?_
  rw [hl]
  rw [hl] at h
  have hl1 : (l.take n ++ [(⟨some d8, .makeInterface t (.tmp d7), ty, pos, aft, none⟩ : Oper), ⟨none, .panic (.tmp d8), ty', pos', aft', none⟩]).take n = l.take n := by rw [← hl]
  rw [hl1] at h
  generalize l.take n = l1 at *
  refine evOps_pre (c := c) (fun s1 a1 w1 hr1 hk1 => ?_) l1 s a w hr (h (fun s1 => s1.sl d7 = .agg [.str x] ∧ d8 < s1.n ∧ ∀ s2, Q (.panic (pchain t x)) s2) (fun s1 h1 h2 h3 => ⟨h1, h2, h3⟩))
  obtain ⟨h1, h2, h3⟩ := hk1
  obtain ⟨g1, hg1⟩ := hr1
  have hv := hg1.sl d7
  rw [h1] at hv
  have hv := str_agg hv
  unfold wpListIn
  rw [if_pos (by simp [Region.wanted])]
  refine op_in (c := c) (by intro cl h; cases h) ?_
  have hx : a1.eval (.tmp d7) = .agg #[.string x] := hv
  have hrun : (execOp a1.eval ⟨some d8, .makeInterface t (.tmp d7), ty, pos, aft, none⟩).run c.P w1 = .ok (.value (.iface t (.agg #[.string x]))) w1 := by
    simp [execOp, hx, Instr.makeInterface, underlying, ht, Sem.run]
  unfold Oper.wp
  rw [hrun]
  show wpListIn _ _ _ _ _ [_] _ _
  unfold wpListIn
  rw [if_pos (by simp [Region.wanted])]
  have hg2 := hg1.put (dst := some d8) (show d8 < s1.n from h2) (v := .iface t (.agg #[.string x])) (d := .val (.iface t (.agg #[.string x]))) (.val _ _)
  have hy : (a1.put (some d8) (.iface t (.agg #[.string x]))).eval (.tmp d8) = .iface t (.agg #[.string x]) := by
    have := hg2.sl d8
    have e : (s1.put (some d8) (.val (.iface t (.agg #[.string x])))).sl d8 = .val (.iface t (.agg #[.string x])) := by simp [St.put, put]
    rw [e] at this
    have : Rel w1 g1 ((a1.put (some d8) (.iface t (.agg #[.string x]))).eval (.tmp d8)) (.val (.iface t (.agg #[.string x]))) := this
    generalize (a1.put (some d8) (.iface t (.agg #[.string x]))).eval (.tmp d8) = v at this
    cases this; rfl
  generalize (a1.put (some d8) (.iface t (.agg #[.string x]))) = a2 at hg2 hy
  refine ⟨fun _ _ => trivial, ?_⟩
  have hsem : (Oper.semAt c.F.round a2.eval ⟨none, .panic (.tmp d8), ty', pos', aft', none⟩).run c.P w1 = .halt (.panic (.iface t (.agg #[.string x]))) w1 := by
    rw [Oper.semAt_eq _ _ _ (by intro cl h; cases h)]
    simp [execOp, hy, Instr.panic, goPanic]
  rw [hsem, Oper.uponIn_panic]
  exact ⟨_, ⟨_, hg2⟩, h3 _⟩
end Go.Ab
namespace Go.Ab
end Go.Ab
end
section
namespace Go.Ab
open Go.RowKit
/-- Operations that only compute, or turn memory. -/
def calmOp : Op → Bool
  | .move _ | .assign _ | .alloc _ | .load .. | .store .. | .extract .. | .fieldAddr .. | .makeFunc .. | .unOp .. => true
  | _ => false
theorem calm_v {P : Program} {w w' : World} {s : Sem Value} {n : Next} (h : (do pure (.value (← s)) : Sem Next).run P w = .ok n w') : ∃ v, n = .value v := by
  rw [Sem.run_bind] at h
  cases hr : s.run P w with
  | ok v w2 => rw [hr] at h; simp only [Result.andThen_ok, Sem.run_pure] at h; cases h; exact ⟨v, rfl⟩
  | halt x w2 => rw [hr] at h; cases h
theorem calm_u {P : Program} {w w' : World} {s : Sem Unit} {n : Next} (h : (do s; pure .skip : Sem Next).run P w = .ok n w') : n = .skip := by
  rw [Sem.run_bind] at h
  cases hr : s.run P w with
  | ok v w2 => rw [hr] at h; simp only [Result.andThen_ok, Sem.run_pure] at h; cases h; rfl
  | halt x w2 => rw [hr] at h; cases h
theorem calm_run {P : Program} {ρ : Operand → Value} {o : Oper} {w w' : World} {n : Next} (hc : calmOp o.op = true) (h : (execOp ρ o).run P w = .ok n w') : (∃ v, n = .value v) ∨ n = .skip := by
  obtain ⟨dst, op, ty, pos, aft, gd⟩ := o
  cases op <;> first | (cases hc; done) | skip
  all_goals first
    | (exact .inl (calm_v h))
    | (exact .inr (calm_u h))
    | (simp only [execOp, Sem.run_pure] at h; cases h; exact .inl ⟨_, rfl⟩)
/-- The state of a frame that has deferred what the layer does not speak of. -/
def RX (l1 l2 : List Deferred) (c : Ctx) (s : St) (a : Act) (w : World) : Prop := a.defers = l1 ∧ R c s { a with defers := l2 } w
section
variable {c : Ctx} {l1 l2 : List Deferred} {s : St} {a : Act} {w : World}
theorem rx_step {o : Oper} {K : St → Prop} {Q' : Exit → Act → World → Prop} {N : Act → World → Prop} (hc : calmOp o.op = true) (hr : RX l1 l2 c s a w) (hst : stepOp c.P o s K) (hN : ∀ s' a' w', RX l1 l2 c s' a' w' → K s' → N a' w') : o.wpIn c.F 0 c.P a w N Q' := by
  obtain ⟨hd, g, hg⟩ := hr
  have hs := step_sound (Q := fun _ _ _ => False) hg hst
  refine op_in (fun cl e => by rw [e] at hc; cases hc) ?_
  unfold Oper.wp at hs ⊢
  have he : ({ a with defers := l2 } : Act).eval = a.eval := rfl
  rw [he] at hs
  have hput : ∀ v, (a.put o.dst v).defers = l1 ∧ ({ a.put o.dst v with defers := l2 } : Act) = ({ a with defers := l2 } : Act).put o.dst v := fun v => by
    cases o.dst with
    | none => exact ⟨hd, rfl⟩
    | some n => exact ⟨hd, rfl⟩
  cases hrun : (execOp a.eval o).run c.P w with
  | ok n w' =>
    rw [hrun] at hs
    rcases calm_run hc hrun with ⟨v, rfl⟩ | rfl
    · obtain ⟨s', h1, h2⟩ := hs
      exact hN s' _ _ ⟨(hput v).1, (hput v).2 ▸ h1⟩ h2
    · obtain ⟨s', h1, h2⟩ := hs
      exact hN s' _ _ ⟨(hput undef).1, (hput undef).2 ▸ h1⟩ h2
  | halt x w' =>
    rw [hrun] at hs
    cases x <;> exact hs.elim
theorem rx_list {ops : Array Oper} {K : St → Prop} {Q : Exit → Act → World → Prop} {rest : List Oper} (hK : ∀ s a w, RX l1 l2 c s a w → K s → wpListIn c.F 0 c.P ops Q rest a w) : ∀ (l : List Oper) (s : St) (a : Act) (w : World), (l.all fun o => calmOp o.op && o.guard.isNone) = true → RX l1 l2 c s a w → evOps c.P ops.toList l s K → wpListIn c.F 0 c.P ops Q (l ++ rest) a w
  | [], s, a, w, _, hr, h => hK s a w hr h
  | o :: l, s, a, w, hl, hr, h => by
    simp only [List.all_cons, Bool.and_eq_true, Option.isNone_iff_eq_none] at hl
    obtain ⟨⟨h1, h2⟩, h3⟩ := hl
    unfold evOps at h
    rw [h2] at h
    show wpListIn _ _ _ _ _ (o :: (l ++ rest)) a w
    unfold wpListIn
    rw [if_pos (by simp [Region.wanted, h2])]
    exact rx_step h1 hr h (fun s' a' w' hr' hk' => rx_list hK l s' a' w' (by simpa using h3) hr' hk')
/-- A value that is known, in a slot. -/
theorem RX.put {v : Value} {d : D} {dst : Option Tmp} (hr : RX l1 l2 c s a w) (hd : dstOk s dst) (h : ∀ g, RG c s { a with defers := l2 } w g → ∃ g', RG c s { a with defers := l2 } w g' ∧ Rel w g' v d) : RX l1 l2 c (s.put dst d) (a.put dst v) w := by
  obtain ⟨hdf, g, hg⟩ := hr
  obtain ⟨g', hg', hv⟩ := h g hg
  have h2 := hg'.put hd hv
  refine ⟨?_, g', ?_⟩
  · cases dst <;> exact hdf
  · have : ({ a.put dst v with defers := l2 } : Act) = ({ a with defers := l2 } : Act).put dst v := by cases dst <;> rfl
    rw [this]; exact h2
theorem RX.le {s' : St} (hr : RX l1 l2 c s a w) (hl : Le s s') (hn : s'.named) (h0 : c.β0.length ≤ s'.bx.length) : RX l1 l2 c s' a w := ⟨hr.1, hr.2.le hl hn h0⟩
end
/-- A frame that shares the boxes of the one ahead. -/
theorem RG.enterN {c : Ctx} {st : St} {a a' : Act} {W : World} {g : Gh} {n : Nat} {sl : Nat → D} (h : RG c st a W g) (hd : a'.defers = []) (hs : a'.tmps.size = n) (hsl : ∀ m, Rel W g (a'.tmps.getD m Go.undef) (sl m)) :
    RG ⟨c.P, W, g.S, g.M, none, fun b => W.heap.size ≤ b ∨ (c.own b ∧ ∃ cs t fz, W.heap[b]? = some (.cells cs t fz)), g.β⟩ ⟨n, sl, st.bx, st.rw⟩ a' W g := by
  refine ⟨⟨⟨by rw [hd]; exact List.nodup_nil, fun d h => by rw [hd] at h; cases h⟩, h.df.mok, fun _ _ h => h, fun _ _ h => .inl h, fun _ _ h => h, fun _ _ => rfl, h.df.tab.own h.below h.df.mok (fun b hb => hb.elim .inl fun h1 => .inr (.inl h1.1))⟩, hs, .of (Below.refl _ _), fun _ h => .inl h, h.good, fun _ h => .inl h, fun _ h => h, h.good, h.lβ, h.lρ, hsl, fun i cs hi => ?_, fun i cs hi => ?_, fun r row hr => ?_, h.ap⟩
  · obtain ⟨b, vs, t, e1, e2, e3, e4, e5⟩ := (h.bx i cs hi).ex
    exact ⟨b, vs, t, e1, e2, e3, .inr ⟨e4, _, _, _, e2⟩, e5⟩
  · obtain ⟨b, vs, t, e1, e2, e3, e4, e5⟩ := (h.fz i cs hi).ex
    exact ⟨b, vs, t, e1, e2, e3, .inr ⟨e4, _, _, _, e2⟩, e5⟩
  · obtain ⟨v, e1, e2, e3⟩ := (h.rw r row hr).ex
    refine ⟨v, e1, e2, fun hl => ?_⟩
    obtain ⟨h1, h2, h3⟩ := e3 hl
    refine ⟨h1, h2, fun gb hgb => ⟨.inr ⟨(h3 gb hgb).1, ?_⟩, (h3 gb hgb).2⟩⟩
    obtain ⟨vals, hown⟩ := h1
    rcases hown.2 with ⟨rfl, _⟩ | ⟨g2, cap, cur, rfl, _, hgg, _⟩
    · simp [Value.ownBlock] at hgb
    · simp [Value.ownBlock] at hgb
      subst hgb
      exact ⟨_, _, _, hgg⟩
/-- Back from such a frame. -/
theorem RG.leaveN {c : Ctx} {st s2 : St} {a a2 : Act} {W W2 : World} {g g2 : Gh} (h : RG c st a W g)
    (h2 : RG ⟨c.P, W, g.S, g.M, none, fun b => W.heap.size ≤ b ∨ (c.own b ∧ ∃ cs t fz, W.heap[b]? = some (.cells cs t fz)), g.β⟩ s2 a2 W2 g2) (hsl : ∀ m, Names st.bx.length 0 (st.sl m)) : RG c ⟨st.n, st.sl, s2.bx, s2.rw⟩ a W2 g2 := by
  have hown : ∀ b, (W.heap.size ≤ b ∨ (c.own b ∧ ∃ cs t fz, W.heap[b]? = some (.cells cs t fz))) → c.own b := fun b hb => hb.elim (fun h1 => h.own0 b (Nat.le_trans h.below.size h1)) (fun h1 => h1.1)
  refine h.back h2 (h2.later rfl rfl rfl (fun _ hb => hb)) hown hown h2.df.anc hsl (fun d hd D hD hb => ?_)
  obtain ⟨D', _, rfl, hD'⟩ := h.df.dok.2 d hd
  cases hD
  have hlt := (Array.getElem?_eq_some_iff.1 hD').1
  rcases hb with hb | ⟨_, cs, t, fz, hb⟩
  · omega
  · rw [hD'] at hb; cases hb
end Go.Ab
end
section
namespace Go.Ab
open Go.RowKit
/-! Calls in a frame that has deferred what the layer does not speak of. -/
def rxOp : Op → Bool
  | .binOp .. => true
  | .call ⟨.value _, _, _⟩ => true
  | o => calmOp o
section
variable {c : Ctx} {l1 l2 : List Deferred} {s : St} {a : Act} {w : World}
theorem rx_call {o : Oper} {fx : Operand} {xs : Array Operand} {at_ : Array TypeId} {K : St → Prop} {Q' : Exit → Act → World → Prop} {N : Act → World → Prop}
    (ho : o.op = .call { callee := .value fx, args := xs, argTypes := at_ }) (hr : RX l1 l2 c s a w) (hd : dstOk s o.dst)
    (hk : wFn (s.ev fx) fun f fs cs => ∃ ds, pureDs s.bx s.rw (fs ++ xs.toList.map s.ev ++ cs) = some ds ∧ CallK c.P f ds fun d => K (s.put o.dst d)) (hN : ∀ s' a' w', RX l1 l2 c s' a' w' → K s' → N a' w') : o.wpIn c.F 0 c.P a w N Q' := by
  obtain ⟨hdf, g, hg⟩ := hr
  have hs := s_call (Q := fun _ _ _ => False) ho hg hd hk
  refine op_in (fun cl e => by rw [e] at ho; cases ho) ?_
  obtain ⟨f, fs, cs, ⟨vf⟩, ⟨vs⟩, ⟨ds, hp, d, ⟨hcall, hcs⟩, hk⟩, hv, hlf, hl, hrf, hr⟩ := wFn_rel (hg.ev fx) hk
  have hrun : (execOp a.eval o).run c.P w = .ok (.enter f (vf ++ xs.toList.map a.eval ++ vs).toArray) w := by
    have hv' : a.eval fx = .func (.func f) vf.toArray vs.toArray := hv
    simp [execOp, ho, resolve, hv', Deferred.ofValue, invoke]
    rw [hcall]
    simp
  have he : ({ a with defers := l2 } : Act).eval = a.eval := rfl
  unfold Oper.wp at hs ⊢
  rw [he, hrun, Oper.upon_enter] at hs
  rw [hrun, Oper.upon_enter]
  refine hs.mono fun e w' h => ?_
  cases e with
  | returned v =>
    obtain ⟨s', h1, h2⟩ := h
    refine hN s' _ _ ⟨?_, ?_⟩ h2
    · cases o.dst <;> exact hdf
    · have : ({ a.put o.dst v with defers := l2 } : Act) = ({ a with defers := l2 } : Act).put o.dst v := by cases o.dst <;> rfl
      rw [this]; exact h1
  | panicked ch => exact h.elim
  | outgrown => obtain ⟨_, _, h⟩ := h; exact h.elim
theorem bin_run {P : Program} {ρ : Operand → Value} {o : Oper} {w w' : World} {n : Next} {op : BinOp} {xt yt : TypeId} {x y : Operand} (ho : o.op = .binOp op xt x y yt) (h : (execOp ρ o).run P w = .ok n w') : ∃ v, n = .value v := by
  simp only [execOp, ho] at h
  first
    | exact calm_v h
    | (rw [Sem.run_bind] at h
       revert h
       generalize (eqGuard _ _ _ _).run P w = r
       cases r with
       | ok v w2 => intro h; simp only [Result.andThen_ok] at h; exact calm_v h
       | halt x w2 => intro h; cases h)
theorem rx_bin {o : Oper} {op : BinOp} {xt yt : TypeId} {x y : Operand} {K : St → Prop} {Q' : Exit → Act → World → Prop} {N : Act → World → Prop} (ho : o.op = .binOp op xt x y yt) (hr : RX l1 l2 c s a w) (hst : stepOp c.P o s K) (hN : ∀ s' a' w', RX l1 l2 c s' a' w' → K s' → N a' w') : o.wpIn c.F 0 c.P a w N Q' := by
  obtain ⟨hd, g, hg⟩ := hr
  have hs := step_sound (Q := fun _ _ _ => False) hg hst
  refine op_in (fun cl e => by rw [e] at ho; cases ho) ?_
  unfold Oper.wp at hs ⊢
  have he : ({ a with defers := l2 } : Act).eval = a.eval := rfl
  rw [he] at hs
  have hput : ∀ v, (a.put o.dst v).defers = l1 ∧ ({ a.put o.dst v with defers := l2 } : Act) = ({ a with defers := l2 } : Act).put o.dst v := fun v => by
    cases o.dst with
    | none => exact ⟨hd, rfl⟩
    | some n => exact ⟨hd, rfl⟩
  cases hrun : (execOp a.eval o).run c.P w with
  | ok n w' =>
    rw [hrun] at hs
    obtain ⟨v, rfl⟩ := bin_run ho hrun
    obtain ⟨s', h1, h2⟩ := hs
    exact hN s' _ _ ⟨(hput v).1, (hput v).2 ▸ h1⟩ h2
  | halt x w' =>
    rw [hrun] at hs
    cases x <;> exact hs.elim
theorem rx_any {o : Oper} {K : St → Prop} {Q' : Exit → Act → World → Prop} {N : Act → World → Prop} (hc : rxOp o.op = true) (hr : RX l1 l2 c s a w) (hst : stepOp c.P o s K) (hN : ∀ s' a' w', RX l1 l2 c s' a' w' → K s' → N a' w') : o.wpIn c.F 0 c.P a w N Q' := by
  unfold rxOp at hc
  split at hc
  · exact rx_bin ‹_› hr hst hN
  · rename_i fx xs at_ ho
    unfold stepOp at hst
    rw [ho] at hst
    obtain ⟨hd, hst⟩ := hst
    unfold opB at hst
    simp only at hst
    refine rx_call ho hr hd ?_ hN
    unfold wFn at hst ⊢
    split at hst <;> first | exact hst.elim | skip
    all_goals
      obtain ⟨ds, h1, h2⟩ := wOpt_some hst
      exact ⟨ds, h1, h2⟩
  · exact rx_step hc hr hst hN
theorem rx_ops {ops : Array Oper} {K : St → Prop} {Q : Exit → Act → World → Prop} {rest : List Oper} (hK : ∀ s a w, RX l1 l2 c s a w → K s → wpListIn c.F 0 c.P ops Q rest a w) : ∀ (l : List Oper) (s : St) (a : Act) (w : World), (l.all fun o => rxOp o.op && o.guard.isNone) = true → RX l1 l2 c s a w → evOps c.P ops.toList l s K → wpListIn c.F 0 c.P ops Q (l ++ rest) a w
  | [], s, a, w, _, hr, h => hK s a w hr h
  | o :: l, s, a, w, hl, hr, h => by
    simp only [List.all_cons, Bool.and_eq_true, Option.isNone_iff_eq_none] at hl
    obtain ⟨⟨h1, h2⟩, h3⟩ := hl
    unfold evOps at h
    rw [h2] at h
    show wpListIn _ _ _ _ _ (o :: (l ++ rest)) a w
    unfold wpListIn
    rw [if_pos (by simp [Region.wanted, h2])]
    exact rx_any h1 hr h (fun s' a' w' hr' hk' => rx_ops hK l s' a' w' (by simpa using h3) hr' hk')
/-- A statement on code in such a frame. -/
def AbsX (l1 l2 : List Deferred) (c : Ctx) (code : Code) (Q : Exit → St → Prop) (s : St) : Prop := ∀ a w, RX l1 l2 c s a w → code.wpIn c.F 0 c.P (fun e a' w' => ∃ s', RX l1 l2 c s' a' w' ∧ Q e s') a w
theorem absx_region {id : Nat} {l : List Oper} {Q : Exit → St → Prop} (hl : (l.all fun o => rxOp o.op && o.guard.isNone) = true) (h : ∀ K : St → Prop, (∀ s', Q .normal s' → K s') → evOps c.P l l s K) : AbsX l1 l2 c (.region id l.toArray false) Q s := by
  intro a w hr
  refine wpIn_region_lit ?_
  have := rx_ops (c := c) (ops := l.toArray) (K := Q .normal) (Q := fun e a' w' => ∃ s', RX l1 l2 c s' a' w' ∧ Q e s') (rest := []) (fun s a w hr hq => ⟨s, hr, hq⟩) l s a w hl hr (by simpa using h _ (fun _ h => h))
  simpa using this
theorem absx_skip {Q : Exit → St → Prop} (h : Q .normal s) : AbsX l1 l2 c .skip Q s := fun _ _ hr => wpIn_skip ⟨s, hr, h⟩
theorem absx_ret {Q : Exit → St → Prop} (h : Q .ret s) : AbsX l1 l2 c .ret Q s := fun _ _ hr => wpIn_ret ⟨s, hr, h⟩
theorem absx_seq {x y : Code} {Q : Exit → St → Prop} (h : AbsX l1 l2 c x (thenQ (AbsX l1 l2 c y Q) Q) s) : AbsX l1 l2 c (.seq x y) Q s := by
  intro a w hr
  refine wpIn_seq (wpIn_mono (h a w hr) ?_)
  rintro e a' w' ⟨s', r, q⟩
  cases e with
  | normal => exact q a' w' r
  | _ => exact ⟨s', r, q⟩
theorem absx_if {x : Operand} {t e : Code} {Q : Exit → St → Prop} (h : wBool (s.ev x) fun b => (b = true → AbsX l1 l2 c t Q s) ∧ (b = false → AbsX l1 l2 c e Q s)) : AbsX l1 l2 c (.cond x t e) Q s := by
  intro a w hr
  obtain ⟨hd, g, hg⟩ := hr
  obtain ⟨b, hv, _, h1, h2⟩ := wBool_rel (hg.ev x) h
  have hv' : a.eval x = .bool b := hv
  cases b with
  | true => exact wpIn_cond_split hv' (fun _ => h1 rfl a w ⟨hd, g, hg⟩) (fun h => by cases h)
  | false => exact wpIn_cond_split hv' (fun h => by cases h) (fun _ => h2 rfl a w ⟨hd, g, hg⟩)
end
end Go.Ab
end
