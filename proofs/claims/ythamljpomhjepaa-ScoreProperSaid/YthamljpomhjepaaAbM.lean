import Derived.Test.YthamljpomhjepaaAbL
set_option linter.unusedVariables false
set_option linter.unusedSimpArgs false
namespace Go.Ab
open Go.RowKit

/-- A frame of a function that yields: T are the blocks that count as the iterator's, U of them those that this frame may turn. -/
structure IR2 (P : Program) (T U : Nat → Prop) (S : Addr → Prop) (M : MM) (s : St) (a : Act) (w : World) : Prop where
  lt : ∀ b, T b → b < w.heap.size ∧ M b = none
  ut : ∀ b, U b → T b
  rg : ∃ g : Gh, g.S = S ∧ g.M = M ∧ RG ⟨P, w, S, M, none, fun b => U b ∨ w.heap.size ≤ b, []⟩ s a w g

section
variable {P : Program} {T U : Nat → Prop} {S : Addr → Prop} {M : MM} {s : St} {a : Act} {w : World}

theorem IR2.next {s' : St} {a' : Act} {w' : World} {g' : Gh} (lt : ∀ b, T b → b < w.heap.size ∧ M b = none) (ut : ∀ b, U b → T b)
    (h : RG ⟨P, w, S, M, none, fun b => U b ∨ w.heap.size ≤ b, []⟩ s' a' w' g') :
    ∃ T' U', IGrow T S M w T' g'.S g'.M w' ∧ IR2 P T' U' g'.S g'.M s' a' w' ∧ (∀ b, T b → T' b) ∧ (∀ b, U' b → U b ∨ w.heap.size ≤ b) ∧ ∀ b, T b → ¬ U b → w'.heap[b]? = w.heap[b]? := by
  have hsz : w.heap.size ≤ w'.heap.size := h.below.size
  have hMn : ∀ b, T b → g'.M b = none := fun b hb => by
    cases hm : g'.M b with
    | none => rfl
    | some f => rcases h.df.mfrom b f hm with h1 | h1
                · have := (lt b hb).2; simp only at h1; rw [this] at h1; cases h1
                · have := (lt b hb).1; simp only at h1; omega
  let T' : Nat → Prop := fun b => T b ∨ (w.heap.size ≤ b ∧ b < w'.heap.size ∧ g'.M b = none)
  let U' : Nat → Prop := fun b => (U b ∨ w.heap.size ≤ b) ∧ b < w'.heap.size ∧ g'.M b = none
  have own' : ∀ b, (U b ∨ w.heap.size ≤ b) → b < w'.heap.size → g'.M b = none → U' b := fun b h1 h2 h3 => ⟨h1, h2, h3⟩
  refine ⟨T', U', ⟨⟨h.below.os, h.below.tape, h.below.output, h.below.size, fun k hk hn => h.below.block k hk (fun hm => hm.elim (fun ho => ho.elim (fun ht => hn (.inl (ut k ht))) (fun hl => by omega)) (fun hm => hn (.inr hm)))⟩,
    fun b hb => hb.elim .inl (fun h => .inr h.1), fun b hb => hb.elim (fun h => ⟨Nat.lt_of_lt_of_le (lt b h).1 hsz, hMn b h⟩) (fun h => h.2), h.S0, fun x hx => ?_, h.df.kp0, h.df.m0, h.df.mfrom, h.df.mok, h.good⟩,
    ⟨fun b hb => hb.elim (fun h => ⟨Nat.lt_of_lt_of_le (lt b h).1 hsz, hMn b h⟩) (fun h => h.2), fun b hb => hb.1.elim (fun h => .inl (ut b h)) (fun h => .inr ⟨h, hb.2⟩), g', rfl, rfl, ?_⟩, fun b hb => .inl hb, fun b hb => hb.1, fun b hb hu => ?_⟩
  · rcases h.from0 x hx with h1 | h1 | h1
    · exact .inl h1
    · exact .inr (.inl (ut _ h1))
    · exact .inr (.inr h1)
  · refine ⟨⟨⟨h.df.dok.1, fun d hd => ?_⟩, h.df.mok, fun _ _ h => h, fun _ _ h => .inl h, fun i b hb => by simp at hb, fun _ _ => rfl⟩, h.sz, .of (Below.refl _ _), fun b hb => .inr hb, h.good, fun _ h => .inl h, fun _ h => h, h.good, h.lβ, h.lρ, h.sl, fun i cs hi => ?_, fun i cs hi => ?_, fun r row hr => ?_, h.ap⟩
    · obtain ⟨D', hB, e, hD⟩ := h.df.dok.2 d hd
      exact ⟨D', .inl (own' D' hB (Array.getElem?_eq_some_iff.1 hD).1 (h.df.mok.noDefs hD)), e, hD⟩
    · obtain ⟨b, vs, t, e1, e2, e3, e4, e5⟩ := (h.bx i cs hi).ex
      exact ⟨b, vs, t, e1, e2, e3, .inl (own' b e4 (Array.getElem?_eq_some_iff.1 e2).1 (h.df.mok.noCells e2)), e5⟩
    · obtain ⟨b, vs, t, e1, e2, e3, e4, e5⟩ := (h.fz i cs hi).ex
      exact ⟨b, vs, t, e1, e2, e3, .inl (own' b e4 (Array.getElem?_eq_some_iff.1 e2).1 (h.df.mok.noCells e2)), e5⟩
    · obtain ⟨v, e1, e2, e3⟩ := (h.rw r row hr).ex
      refine ⟨v, e1, e2, fun hl => ?_⟩
      obtain ⟨⟨vals, hown⟩, hcl, hS⟩ := e3 hl
      refine ⟨⟨vals, hown⟩, hcl, fun gb hgb => ⟨.inl (own' gb (hS gb hgb).1 (hown.lt gb hgb).2 ?_), (hS gb hgb).2⟩⟩
      rcases hown.2 with ⟨rfl, _⟩ | ⟨g2, cap, cur, rfl, _, hgg, _⟩
      · simp [Value.ownBlock] at hgb
      · simp [Value.ownBlock] at hgb
        subst hgb
        exact h.df.mok.noCells hgg
  · refine h.below.block b (lt b hb).1 (fun hm => ?_)
    rcases hm with (h1 | h1) | h1
    · exact hu h1
    · have := (lt b hb).1; omega
    · exact h1 (lt b hb).2

/-- The world has turned elsewhere. -/
theorem IR2.move {T' : Nat → Prop} {S' : Addr → Prop} {M' : MM} {w' : World} (h : IR2 P T U S M s a w) (lt' : ∀ b, T' b → b < w'.heap.size ∧ M' b = none) (ut' : ∀ b, U b → T' b)
    (t : ∀ b, U b → w'.heap[b]? = w.heap[b]?) (cell : ∀ x, S x → w'.cell? x = w.cell? x) (s1 : ∀ x, S x → S' x) (s3 : ∀ x, S' x → U x.block → S x) (m1 : ∀ b f, M b = some f → M' b = some f) (mok : MOk w' M') (good : Good w' S') :
    IR2 P T' U S' M' s a w' := by
  obtain ⟨lt, ut, g, rfl, rfl, hg⟩ := h
  have k : Keeps w g w' ⟨S', g.β, g.ρ, M'⟩ := ⟨cell, s1, fun _ _ h => h, fun _ _ h => h, m1⟩
  have hT : ∀ b, b < w.heap.size → (U b ∨ w.heap.size ≤ b) → U b := fun b hb h => h.elim id (fun h => by omega)
  refine ⟨lt', ut', ⟨S', g.β, g.ρ, M'⟩, rfl, rfl, ?_⟩
  refine ⟨⟨⟨hg.df.dok.1, fun d hd => ?_⟩, mok, fun _ _ h => h, fun _ _ h => .inl h, fun i b hb => by simp at hb, fun _ _ => rfl⟩, hg.sz, .of (Below.refl _ _), fun b hb => .inr hb, good, fun _ h => .inl h, fun _ h => h, good, hg.lβ, hg.lρ, fun n => (hg.sl n).keep k, fun i cs hi => ?_, fun i cs hi => ?_, fun r row hr => ?_, hg.ap⟩
  · obtain ⟨D', hB, e, hD⟩ := hg.df.dok.2 d hd
    have ht := hT D' (Array.getElem?_eq_some_iff.1 hD).1 hB
    exact ⟨D', .inl ht, e, (t D' ht).trans hD⟩
  · obtain ⟨b, vs, tt, e1, e2, e3, e4, e5, e6⟩ := (hg.bx i cs hi).ex
    have ht := hT b (Array.getElem?_eq_some_iff.1 e2).1 e4
    exact ⟨b, vs, tt, e1, (t b ht).trans e2, e3.keep k, .inl ht, fun _ x hx e => e5 rfl x (s3 x hx (by rw [e]; exact ht)) e, fun h => by cases h⟩
  · obtain ⟨b, vs, tt, e1, e2, e3, e4, e5, e6⟩ := (hg.fz i cs hi).ex
    have ht := hT b (Array.getElem?_eq_some_iff.1 e2).1 e4
    exact ⟨b, vs, tt, e1, (t b ht).trans e2, e3.keep k.er, .inl ht, (fun h => by cases h), fun h q hq => s1 _ (e6 h q hq)⟩
  · obtain ⟨v, e1, e2, e3⟩ := (hg.rw r row hr).ex
    refine ⟨v, e1, e2.keep k, fun hl => ?_⟩
    obtain ⟨⟨vals, hown⟩, hcl, hS⟩ := e3 hl
    refine ⟨⟨vals, hown.1, ?_⟩, hcl, fun gb hgb => ?_⟩
    · rcases hown.2 with hn | ⟨g2, cap, cur, rfl, hg2, hgg, rest⟩
      · exact .inl hn
      · have ht := hT g2 (Array.getElem?_eq_some_iff.1 hgg).1 (hS g2 rfl).1
        exact .inr ⟨g2, cap, cur, rfl, hg2, (t g2 ht).trans hgg, rest⟩
    · have ht := hT gb (hown.lt gb hgb).2 (hS gb hgb).1
      exact ⟨.inl ht, fun x hx e => (hS gb hgb).2 x (s3 x hx (by rw [e]; exact ht)) e⟩
end

/-- What a call that yields may do to what lay before it: of the blocks T0 one may be written (behind what counts). -/
structure SG (T0 : Nat → Prop) (S0 : Addr → Prop) (M0 : MM) (w0 : World) (T : Nat → Prop) (S : Addr → Prop) (M : MM) (w : World) (pin : Option Nat) : Prop where
  os : w.os = w0.os
  tape : w.tape = w0.tape
  output : w.output = w0.output
  size : w0.heap.size ≤ w.heap.size
  t1 : ∀ b, T0 b → T b
  keep : ∀ b, T0 b → pin ≠ some b → w.heap[b]? = w0.heap[b]?
  s1 : ∀ x, S0 x → S x
  s3 : ∀ x, S x → T0 x.block → S0 x
  cell : ∀ x, S0 x → w.cell? x = w0.cell? x
  m1 : ∀ b f, M0 b = some f → M b = some f

/-- What is known at the start of a call of a function that searches: the list that it goes on from lies in the block of v. -/
structure SEnv where
  c : IC
  T0 : Nat → Prop
  S0 : Addr → Prop
  M0 : MM
  w0 : World
  e : TypeId
  v : Value
  xs : List Int
structure SEnv.Ok (E : SEnv) : Prop where
  ok : E.c.Ok
  lt0 : ∀ b, E.T0 b → b < E.w0.heap.size ∧ E.M0 b = none
  hv : ∀ g, E.v.ownBlock = some g → E.T0 g ∧ ∀ x, E.S0 x → x.block ≠ g

def Pin (w : World) (e : TypeId) (v : Value) (xs : List Int) : Prop := w.ownsRow 0 e 1 v xs.length (xs.map (Value.int .i64))
theorem Pin.kept {w w' : World} {e : TypeId} {v : Value} {xs : List Int} (h : Pin w e v xs) (hk : ∀ g, v.ownBlock = some g → w'.heap[g]? = w.heap[g]?) : Pin w' e v xs := by
  refine ⟨h.1, ?_⟩
  rcases h.2 with hn | ⟨g, cap, cur, rfl, hg, hgg, rest⟩
  · exact .inl hn
  · exact .inr ⟨g, cap, cur, rfl, hg, (hk g rfl).trans hgg, rest⟩

/-- The frame of a call that searches; tp is a list that was just made for the next call. -/
def RS (E : SEnv) (tp : Option (Value × List Int)) (i : Ix) (s : St) (a : Act) (w : World) : Prop :=
  ∃ T U S M, JX E.c.J E.c.Jx i T S M w ∧ IR2 E.c.P T U S M s a w ∧ SG E.T0 E.S0 E.M0 E.w0 T S M w E.v.ownBlock ∧ (∀ b, E.T0 b → ¬ U b) ∧ Pin w E.e E.v E.xs ∧
    ∀ v ys, tp = some (v, ys) → Pin w E.e v ys ∧ (E.v.ownBlock = v.ownBlock → ∀ w', Pin w' E.e v ys → Pin w' E.e E.v E.xs) ∧ ∀ g, v.ownBlock = some g → T g ∧ ¬ U g ∧ (∀ x, S x → x.block ≠ g) ∧ (E.T0 g → E.v.ownBlock = some g)

theorem rs_ok {E : SEnv} (hE : E.Ok) {tp : Option (Value × List Int)} : ROk E.c.P (RS E tp) := by
  rintro i s a w ⟨T, U, S, M, hJ, ⟨lt, ut, g, rfl, rfl, hg⟩, hs, hU, hp, ht⟩
  refine ⟨w, g.S, g.M, fun b => U b ∨ w.heap.size ≤ b, ⟨g, hg⟩, ?_⟩
  rintro s' a' w' ⟨g', h⟩
  obtain ⟨T', U', hi, hr, ht1, hu1, hk⟩ := IR2.next lt ut h
  have hUn : ∀ b, T b → ¬ U b → ¬ U' b := fun b h1 h2 h3 => (hu1 b h3).elim h2 (fun h => by have := (lt b h1).1; omega)
  have hSn : ∀ x, g'.S x → T x.block → ¬ U x.block → g.S x := fun x hx h1 h2 => by
    rcases h.from0 x hx with h3 | h3 | h3
    · exact h3
    · exact (h2 h3).elim
    · have := (lt _ h1).1; omega
  refine ⟨T', U', g'.S, g'.M, hE.ok.ab i _ _ _ _ _ _ _ _ hJ hi, hr, ⟨h.below.os.trans hs.os, h.below.tape.trans hs.tape, h.below.output.trans hs.output, Nat.le_trans hs.size h.below.size, fun b hb => ht1 b (hs.t1 b hb),
    fun b hb hn => (hk b (hs.t1 b hb) (hU b hb)).trans (hs.keep b hb hn), fun x hx => h.S0 x (hs.s1 x hx), fun x hx hb => hs.s3 x (hSn x hx (hs.t1 _ hb) (hU _ hb)) hb, fun x hx => (h.df.kp0 x (hs.s1 x hx)).trans (hs.cell x hx), fun b f hb => h.df.m0 b f (hs.m1 b f hb)⟩,
    fun b hb => hUn b (hs.t1 b hb) (hU b hb), hp.kept (fun gb hgb => hk gb (hs.t1 _ (hE.hv gb hgb).1) (hU _ (hE.hv gb hgb).1)), fun v ys e => ?_⟩
  obtain ⟨h1, h3, h2⟩ := ht v ys e
  refine ⟨h1.kept (fun gb hgb => hk gb (h2 gb hgb).1 (h2 gb hgb).2.1), h3, fun gb hgb => ?_⟩
  obtain ⟨q1, q2, q3, q4⟩ := h2 gb hgb
  exact ⟨ht1 gb q1, hUn gb q1 q2, fun x hx e => q3 x (hSn x hx (e ▸ q1) (e ▸ q2)) e, q4⟩

/-- A yield. -/
theorem rs_yield {E : SEnv} (hE : E.Ok) {o : Oper} {fx x : Operand} {at_ : Array TypeId} {k : Nat} {d : List D} {s : St} {a : Act} {w : World} {N : Act → World → Prop} {Q : Exit → Act → World → Prop}
    (ho : o.op = .call ⟨.value fx, #[x], at_⟩) (hr : RS E none (true, k) s a w) (hf : s.ev fx = .val (.func (.yield E.c.l) #[] #[])) (hd : pureDs s.bx s.rw [s.ev x] = some d) (hk : E.c.xs[k]? = some d) (hdst : dstOk s o.dst)
    (hN : ∀ (b : Bool) a' w', RS E none (b, k + 1) (s.put o.dst (.bool b)) a' w' → N a' w') : o.wpIn Fence.wide 0 E.c.P a w N Q := by
  obtain ⟨T, U, S, M, hJ, hir, hs, hU, hp, _⟩ := hr
  have hir0 := hir
  obtain ⟨lt, ut, g, rfl, rfl, hg⟩ := hir
  have hfx := hg.ev fx
  rw [hf] at hfx
  generalize hv : a.eval fx = vf at hfx
  cases hfx
  obtain ⟨q1, q2⟩ := pureDs_get hd
  have hY := hE.ok.rd k T g.S g.M w [a.eval x] d hk hJ (by rw [q1]; rfl) (fun q dd hq => by
    obtain ⟨z, hz, hp⟩ := q2 q dd hq
    have hq0 : q = 0 := by have := (List.getElem?_eq_some_iff.1 hz).1; simp at this; exact this
    subst hq0
    simp at hz
    subst hz
    exact pureD_rel hg (hg.ev x) hp)
  obtain ⟨fn, tmps, assign, body, hrun, hround⟩ := hY
  refine ⟨fun _ _ => trivial, ?_⟩
  have hsem : (o.semAt Fence.wide.round a.eval).run E.c.P w = .ok (.round E.c.l fn tmps assign body) w := by
    rw [Oper.semAt_eq _ _ _ (by rw [ho]; intro cl h; cases h)]
    simp [execOp, ho, resolve, hv, Deferred.ofValue, invoke, hrun]
  rw [hsem, Oper.uponIn_round]
  refine ⟨fun h => (by cases h), hround.mono ?_⟩
  rintro e w2 ⟨S2, M2, hf2, hres⟩
  have lt2 : ∀ b, T b → b < w2.heap.size ∧ M2 b = none := fun b hb => ⟨Nat.lt_of_lt_of_le (lt b hb).1 hf2.size, hf2.m3 b hb⟩
  have hr2 := hir0.move lt2 ut (fun b hb => hf2.t b (ut b hb)) hf2.cell hf2.s1 (fun x hx hu => hf2.s3 x hx (ut _ hu)) hf2.m1 hf2.mok hf2.good
  have hs2 : SG E.T0 E.S0 E.M0 E.w0 T S2 M2 w2 E.v.ownBlock := ⟨hf2.os.trans hs.os, hf2.tape.trans hs.tape, hf2.output.trans hs.output, Nat.le_trans hs.size hf2.size, hs.t1,
    fun b hb hn => (hf2.t b (hs.t1 b hb)).trans (hs.keep b hb hn), fun x hx => hf2.s1 x (hs.s1 x hx), fun x hx hb => hs.s3 x (hf2.s3 x hx (hs.t1 _ hb)) hb, fun x hx => (hf2.cell x (hs.s1 x hx)).trans (hs.cell x hx), fun b f hb => hf2.m1 b f (hs.m1 b f hb)⟩
  have fin : ∀ b : Bool, JX E.c.J E.c.Jx (b, k + 1) T S2 M2 w2 → N (a.put o.dst (.bool b)) w2 := fun b hJ2 => by
    obtain ⟨_, _, g2, f1, f2, hg2⟩ := hr2
    exact hN b _ _ ⟨T, U, S2, M2, hJ2, ⟨lt2, ut, g2, f1, f2, hg2.put hdst (.bool _ _)⟩, hs2, hU, hp.kept (fun gb hgb => hf2.t gb (hs.t1 _ (hE.hv gb hgb).1)), fun _ _ h => by cases h⟩
  rcases hres with ⟨rfl, hJ2⟩ | ⟨rfl, hJ2⟩
  · exact fin true hJ2
  · exact fin false hJ2
end Go.Ab
