import Derived.Test.YtmnepfejoneghaaGreatDoorK04
import Derived.ChangeKeysEq
set_option linter.unusedVariables false
set_option linter.unusedSimpArgs false
section
namespace Go.Ab
open Go.RowKit
/-- What an iterator may do between two rounds: T are the blocks of its own. -/
structure IGrow (T : Nat → Prop) (S : Addr → Prop) (M : MM) (W : World) (T' : Nat → Prop) (S' : Addr → Prop) (M' : MM) (W' : World) : Prop where
  below : BelowP (fun k => T k ∨ M k ≠ none) W.heap.size W W'
  t1 : ∀ b, T' b → T b ∨ W.heap.size ≤ b
  t2 : ∀ b, T' b → b < W'.heap.size ∧ M' b = none
  s1 : ∀ x, S x → S' x
  s2 : ∀ x, S' x → S x ∨ T x.block ∨ W.heap.size ≤ x.block
  cell : ∀ x, S x → W'.cell? x = W.cell? x
  m1 : ∀ b f, M b = some f → M' b = some f
  m2 : ∀ b f, M' b = some f → M b = some f ∨ W.heap.size ≤ b
  mok : MOk W' M'
  good : Good W' S'
/-- What a round may do: the iterator's blocks, the cells that count keep. -/
structure FGrow (T : Nat → Prop) (S : Addr → Prop) (M : MM) (W : World) (S' : Addr → Prop) (M' : MM) (W' : World) : Prop where
  os : W'.os = W.os
  tape : W'.tape = W.tape
  output : W'.output = W.output
  size : W.heap.size ≤ W'.heap.size
  t : ∀ b, T b → W'.heap[b]? = W.heap[b]?
  cell : ∀ x, S x → W'.cell? x = W.cell? x
  s1 : ∀ x, S x → S' x
  s3 : ∀ x, S' x → T x.block → S x
  tb : Tab W → Tab W'
  m1 : ∀ b f, M b = some f → M' b = some f
  m3 : ∀ b, T b → M' b = none
  mok : MOk W' M'
  good : Good W' S'
abbrev Inv := (Nat → Prop) → (Addr → Prop) → MM → World → Prop
def Abides (J : Inv) : Prop := ∀ T S M W T' S' M' W', J T S M W → IGrow T S M W T' S' M' W' → J T' S' M' W'
/-- A function that yields these data, one after the other. -/
def Iter (P : Program) (gf : FuncId) (cs : List D) (xs : List (List D)) : Prop :=
  (∀ (args : Array Value) (w : World), (callFunc gf args).run P w = .ok (.enter gf args) w) ∧
  ∀ (S : Addr → Prop) (M : MM) (w : World) (lb : List Value), Tab w → Good w S → MOk w M → lb.length = cs.length → (∀ q x, cs[q]? = some x → Rel w ⟨S, [], [], M⟩ (lb.getD q Go.undef) x) →
    ∀ (l : Nat) (J Jx : Nat → Inv), (∀ k, Abides (J k)) → (∀ k, Abides (Jx k)) →
      (∀ k T S M W (args : List Value) x, xs[k]? = some x → J k T S M W → args.length = x.length → (∀ q d, x[q]? = some d → Rel W ⟨S, [], [], M⟩ (args.getD q Go.undef) d) →
        YieldAt Fence.wide 0 P l args.toArray W fun e W' => ∃ S' M', FGrow T S M W S' M' W' ∧ ((e = .returned (.bool true) ∧ J (k + 1) T S' M' W') ∨ (e = .returned (.bool false) ∧ Jx (k + 1) T S' M' W'))) →
      J 0 (fun _ => False) S M w →
      Calls P gf (Value.func (.yield l) #[] #[] :: lb).toArray w fun e w' => (∃ v, e = .returned v) ∧ ∃ T S' M', J xs.length T S' M' w' ∨ ∃ k, Jx k T S' M' w'
section
variable {c : Ctx} {s : St} {a : Act} {w : World} {g : Gh}
/-- The walk's own things are none of the iterator's. -/
structure Free (T : Nat → Prop) (s : St) (a : Act) (w : World) (g : Gh) : Prop where
  bx : ∀ (i : Nat) (x : Bx) (b : Nat), s.bx[i]? = some x → x.live = true → g.β[i]? = some b → ¬ T b
  rw : ∀ (r : Nat) (row : Row) (v : Value) (gb : Nat), s.rw[r]? = some row → row.live = true → g.ρ[r]? = some v → v.ownBlock = some gb → ¬ T gb
  df : ∀ d ∈ a.defers, ∀ D, d.target = .collected D → ¬ T D
  lt : ∀ b, T b → b < w.heap.size ∧ g.M b = none ∧ c.w0.heap.size ≤ b
theorem RG.igrow {T T' : Nat → Prop} {S' : Addr → Prop} {M' : MM} {w' : World} (h : RG c s a w g) (hf : Free (c := c) T s a w g) (hg : IGrow T g.S g.M w T' S' M' w') :
    RG c s a w' ⟨S', g.β, g.ρ, M'⟩ ∧ Free (c := c) T' s a w' ⟨S', g.β, g.ρ, M'⟩ := by
  have hsz : c.w0.heap.size ≤ w.heap.size := h.below.size
  have hM := h.df.mok
  have hat : ∀ b, b < w.heap.size → ¬ T b → g.M b = none → w'.heap[b]? = w.heap[b]? := fun b hb ht hm => hg.below.block b hb (fun h => h.elim ht (fun h => h hm))
  have hcs : ∀ (b : Nat) (cs : Array Value) (t : TypeId) (fz : Nat × Nat), ¬ T b → w.heap[b]? = some (.cells cs t fz) → w'.heap[b]? = some (.cells cs t fz) := fun b cs t fz ht hb =>
    (hat b (Array.getElem?_eq_some_iff.1 hb).1 ht (hM.noCells hb)).trans hb
  have hcell : ∀ x, g.S x → w'.cell? x = w.cell? x := hg.cell
  have k : Keeps w g w' ⟨S', g.β, g.ρ, M'⟩ := ⟨hcell, hg.s1, fun _ _ h => h, fun _ _ h => h, hg.m1⟩
  have hnot : ∀ x, S' x → ∀ b, b < w.heap.size → ¬ T b → x.block = b → g.S x := fun x hx b hb ht e => by
    rcases hg.s2 x hx with h | h | h
    · exact h
    · exact absurd (e ▸ h) ht
    · omega
  refine ⟨⟨⟨⟨h.df.dok.1, fun d hd => ?_⟩, hg.mok, fun b f hb => hg.m1 b f (h.df.m0 b f hb), fun b f hb => ?_, h.df.anc, fun x hx => (hcell x (h.S0 x hx)).trans (h.df.kp0 x hx), h.df.tab⟩, h.sz,
    h.below.trans hg.below hsz (fun i hi hn => ?_), h.own0, hg.good, fun x hx => ?_, fun x hx => hg.s1 x (h.S0 x hx), h.good0, h.lβ, h.lρ, fun n => (h.sl n).keep k, ?_, ?_, ?_, h.ap⟩, ?_⟩
  · obtain ⟨D, hB, rfl, hD⟩ := h.df.dok.2 d hd
    exact ⟨D, hB, rfl, (hat D (Array.getElem?_eq_some_iff.1 hD).1 (hf.df _ hd D rfl) (hM.noDefs hD)).trans hD⟩
  · rcases hg.m2 b f hb with hb | hb
    · exact h.df.mfrom b f hb
    · exact .inr (Nat.le_trans hsz hb)
  · rcases hn with hn | hn
    · exact .inl (h.own0 i (hf.lt i hn).2.2)
    · cases hm : g.M i with
      | none => exact (hn hm).elim
      | some f => rcases h.df.mfrom i f hm with h1 | h1
                  · exact .inr (by rw [h1]; simp)
                  · omega
  · rcases hg.s2 x hx with hx | hx | hx
    · exact h.from0 x hx
    · exact .inr (h.own0 _ (hf.lt _ hx).2.2)
    · exact .inr (h.own0 _ (Nat.le_trans hsz hx))
  · intro i cs hi
    obtain ⟨b, vs, t, e1, e2, e3, e4, e5, e6⟩ := (h.bx i cs hi).ex
    have hlt : b < w.heap.size := (Array.getElem?_eq_some_iff.1 e2).1
    have ht := hf.bx i _ b hi rfl e1
    exact ⟨b, vs, t, e1, hcs _ _ _ _ ht e2, e3.keep k, e4, fun _ x hx e => e5 rfl x (hnot x hx b hlt ht e) e, fun h => by cases h⟩
  · intro i cs hi
    obtain ⟨b, vs, t, e1, e2, e3, e4, e5, e6⟩ := (h.fz i cs hi).ex
    have ht := hf.bx i _ b hi rfl e1
    exact ⟨b, vs, t, e1, hcs _ _ _ _ ht e2, e3.keep k.er, e4, (fun h => by cases h), fun _ q hq => hg.s1 _ (e6 rfl q hq)⟩
  · intro r row hr
    obtain ⟨v, e1, e2, e3⟩ := (h.rw r row hr).ex
    refine ⟨v, e1, e2.keep k, fun hl => ?_⟩
    obtain ⟨⟨vals, hown⟩, hcl, hS⟩ := e3 hl
    refine ⟨⟨vals, hown.1, ?_⟩, hcl, fun gb hgb => ⟨(hS gb hgb).1, fun x hx hxb => ?_⟩⟩
    · rcases hown.2 with hn | ⟨g2, cap, cur, rfl, hg2, hgg, rest⟩
      · exact .inl hn
      · exact .inr ⟨g2, cap, cur, rfl, hg2, hcs _ _ _ _ (hf.rw r row _ g2 hr hl e1 rfl) hgg, rest⟩
    · exact (hS gb hgb).2 x (hnot x hx gb (hown.lt gb hgb).2 (hf.rw r row v gb hr hl e1 hgb) hxb) hxb
  · refine ⟨fun i x b hi hx hb ht => ?_, fun r row v gb hr hl hv hgb ht => ?_, fun d hd D hD ht => ?_, fun b hb => ⟨(hg.t2 b hb).1, (hg.t2 b hb).2, ?_⟩⟩
    · rcases hg.t1 b ht with h1 | h1
      · exact hf.bx i x b hi hx hb h1
      · have := (h.boxlt hi hx hb).1; omega
    · rcases hg.t1 gb ht with h1 | h1
      · exact hf.rw r row v gb hr hl hv hgb h1
      · have := (h.rowlt hr hl hv hgb).1; omega
    · rcases hg.t1 D ht with h1 | h1
      · exact hf.df d hd D hD h1
      · obtain ⟨D', _, rfl, hD'⟩ := h.df.dok.2 d hd
        cases hD
        have := (Array.getElem?_eq_some_iff.1 hD').1; omega
    · rcases hg.t1 b hb with h1 | h1
      · exact (hf.lt b h1).2.2
      · omega
end
end Go.Ab
end
section
namespace Go.Ab
open Go.RowKit
/-- A later world: only these blocks have turned; the cells that count keep. -/
structure Later (p : Nat → Prop) (W : World) (g : Gh) (W' : World) (g' : Gh) : Prop where
  below : BelowP (fun k => p k ∨ g.M k ≠ none) W.heap.size W W'
  kp : ∀ x, g.S x → W'.cell? x = W.cell? x
  s1 : ∀ x, g.S x → g'.S x
  s2 : ∀ x, g'.S x → g.S x ∨ p x.block
  m1 : ∀ b f, g.M b = some f → g'.M b = some f
  m2 : ∀ b f, g'.M b = some f → g.M b = some f ∨ W.heap.size ≤ b
theorem Later.trans {p : Nat → Prop} {A B C : World} {g1 g2 g3 : Gh} (h : Later p A g1 B g2) (k : Later p B g2 C g3) (hp : ∀ b, A.heap.size ≤ b → p b) : Later p A g1 C g3 where
  below := h.below.trans k.below h.below.size (fun i hi hn => hn.elim .inl (fun hn => by
    cases hm : g2.M i with
    | none => exact (hn hm).elim
    | some f => rcases h.m2 i f hm with h1 | h1
                · exact .inr (by rw [h1]; simp)
                · exact .inl (hp i h1)))
  kp x hx := (k.kp x (h.s1 x hx)).trans (h.kp x hx)
  s1 x hx := k.s1 x (h.s1 x hx)
  s2 x hx := by
    rcases k.s2 x hx with h1 | h1
    · exact h.s2 x h1
    · exact .inr h1
  m1 b f hb := k.m1 b f (h.m1 b f hb)
  m2 b f hb := by
    rcases k.m2 b f hb with h1 | h1
    · exact h.m2 b f h1
    · exact .inr (Nat.le_trans h.below.size h1)
section
variable {c c2 : Ctx} {s s2 st : St} {a a2 : Act} {w W W2 : World} {g g2 : Gh}
theorem RG.later (h : RG c2 s2 a2 W2 g2) (hw : c2.w0 = W) (hS : c2.S0 = g.S) (hM : c2.M0 = g.M) {p : Nat → Prop} (hp : ∀ b, c2.own b → p b) : Later p W g W2 g2 := by
  subst hw
  refine ⟨⟨h.below.os, h.below.tape, h.below.output, h.below.size, fun k hk hn => h.below.block k hk (fun hm => hn (hm.elim (fun h => .inl (hp k h)) (fun h => .inr (by rw [← hM]; exact h))))⟩,
    fun x hx => h.df.kp0 x (hS ▸ hx), fun x hx => h.S0 x (hS ▸ hx), fun x hx => ?_, fun b f hb => h.df.m0 b f (hM ▸ hb), fun b f hb => ?_⟩
  · rcases h.from0 x hx with h1 | h1
    · exact .inl (hS ▸ h1)
    · exact .inr (hp _ h1)
  · rcases h.df.mfrom b f hb with h1 | h1
    · exact .inl (hM ▸ h1)
    · exact .inr h1
/-- Back from a round: the boxes and rows are the round's, the slots those that were. -/
theorem RG.back (h : RG c st a W g) (h2 : RG c2 s2 a2 W2 g2) {p : Nat → Prop} (hl : Later p W g W2 g2) (hp : ∀ b, p b → c.own b) (hp2 : ∀ b, c2.own b → c.own b) (anc : ∀ (i b : Nat), g.β[i]? = some b → g2.β[i]? = some b)
    (hsl : ∀ m, Names st.bx.length 0 (st.sl m)) (hD : ∀ d ∈ a.defers, ∀ D, d.target = .collected D → ¬ p D) : RG c ⟨st.n, st.sl, s2.bx, s2.rw⟩ a W2 g2 := by
  have hsz : c.w0.heap.size ≤ W.heap.size := h.below.size
  have k : Keeps W ⟨g.S, g.β.take st.bx.length, g.ρ.take 0, g.M⟩ W2 g2 := ⟨hl.kp, hl.s1, fun i b hi => anc i b (by
    rw [List.getElem?_take] at hi
    split at hi
    · exact hi
    · cases hi), fun i b hi => by simp at hi, hl.m1⟩
  refine ⟨⟨⟨h.df.dok.1, fun d hd => ?_⟩, h2.df.mok, fun b f hb => hl.m1 b f (h.df.m0 b f hb), fun b f hb => ?_, fun i b hb => anc i b (h.df.anc i b hb), fun x hx => (hl.kp x (h.S0 x hx)).trans (h.df.kp0 x hx), h.df.tab⟩, h.sz,
    h.below.trans hl.below hsz (fun i hi hn => ?_), h.own0, h2.good, fun x hx => ?_, fun x hx => hl.s1 x (h.S0 x hx), h.good0, h2.lβ, h2.lρ, fun n => ((h.sl n).cut (hsl n)).keep k, fun i cs hi => ?_, fun i cs hi => ?_, fun r row hr => ?_, h2.ap⟩
  · obtain ⟨D, hB, rfl, hd'⟩ := h.df.dok.2 d hd
    refine ⟨D, hB, rfl, (hl.below.block D (Array.getElem?_eq_some_iff.1 hd').1 (fun hn => hn.elim (hD _ hd D rfl) (fun hn => hn (h.df.mok.noDefs hd')))).trans hd'⟩
  · rcases hl.m2 b f hb with hb | hb
    · exact h.df.mfrom b f hb
    · exact .inr (Nat.le_trans hsz hb)
  · rcases hn with hn | hn
    · exact .inl (hp i hn)
    · cases hm : g.M i with
      | none => exact (hn hm).elim
      | some f => rcases h.df.mfrom i f hm with h1 | h1
                  · exact .inr (by rw [h1]; simp)
                  · omega
  · rcases hl.s2 x hx with hx | hx
    · exact h.from0 x hx
    · exact .inr (hp _ hx)
  · obtain ⟨b, vs, t, e1, e2, e3, e4, e5⟩ := (h2.bx i cs hi).ex
    exact ⟨b, vs, t, e1, e2, e3, hp2 b e4, e5⟩
  · obtain ⟨b, vs, t, e1, e2, e3, e4, e5⟩ := (h2.fz i cs hi).ex
    exact ⟨b, vs, t, e1, e2, e3, hp2 b e4, e5⟩
  · obtain ⟨v, e1, e2, e3⟩ := (h2.rw r row hr).ex
    refine ⟨v, e1, e2, fun hl => ?_⟩
    obtain ⟨h1, h2, h3⟩ := e3 hl
    exact ⟨h1, h2, fun gb hgb => ⟨hp2 gb (h3 gb hgb).1, (h3 gb hgb).2⟩⟩
/-- Yield's arguments in the round's slots. -/
def putL : List Tmp → List D → (Nat → D) → (Nat → D)
  | p :: ps, d :: ds, sl => putL ps ds (put sl p d)
  | _, _, sl => sl
theorem putL_rel : ∀ (ps : List Tmp) (ds : List D) (vs : List Value) (sl : Nat → D) (tmps : Array Value), vs.length = ds.length → (∀ q d, ds[q]? = some d → Rel w g (vs.getD q Go.undef) d) → (∀ p ∈ ps, p < tmps.size) →
    (∀ m, Rel w g (tmps.getD m Go.undef) (sl m)) → ((ps.zip vs).foldl (fun t (p, v) => t.setIfInBounds p v) tmps).size = tmps.size ∧
      ∀ m, Rel w g (((ps.zip vs).foldl (fun t (p, v) => t.setIfInBounds p v) tmps).getD m Go.undef) (putL ps ds sl m)
  | [], ds, vs, sl, tmps, _, _, _, h => by simpa [putL] using h
  | p :: ps, [], vs, sl, tmps, hl, _, _, h => by
    have : vs = [] := List.length_eq_zero_iff.1 hl
    subst this
    simpa [putL] using h
  | p :: ps, d :: ds, [], sl, tmps, hl, _, _, h => by simp at hl
  | p :: ps, d :: ds, v :: vs, sl, tmps, hl, hr, hp, h => by
    have ih := putL_rel ps ds vs (put sl p d) (tmps.setIfInBounds p v) (by simpa using hl) (fun q d hd => by have := hr (q + 1) d (by simpa using hd); simpa using this)
      (fun q hq => by simpa using hp q (List.mem_cons_of_mem _ hq)) (fun m => by
        simp only [put]
        by_cases hm : m = p
        · subst hm
          rw [if_pos rfl]
          have h0 := hr 0 d rfl
          have hlt := hp m (List.mem_cons_self ..)
          simpa [hlt] using h0
        · rw [if_neg hm]
          have := h m
          simpa [Array.getElem?_setIfInBounds, Ne.symm hm] using this)
    simp only [List.zip_cons_cons, List.foldl_cons, putL]
    refine ⟨ih.1.trans (by simp), ih.2⟩
/-- The walk's own things, seen from a round's start. -/
theorem RG.enter {T : Nat → Prop} (h : RG c st a W g) (hf : Free (c := c) T st a W g) (l : Option Nat) {a' : Act} {sl : Nat → D} (hd : a'.defers = []) (hs : a'.tmps.size = a.tmps.size) (hsl : ∀ m, Rel W g (a'.tmps.getD m Go.undef) (sl m)) :
    RG ⟨c.P, W, g.S, g.M, l, fun b => W.heap.size ≤ b ∨ (c.own b ∧ ¬ T b ∧ ∃ cs t fz, W.heap[b]? = some (.cells cs t fz)), g.β⟩ ⟨st.n, sl, st.bx, st.rw⟩ a' W g := by
  refine ⟨⟨⟨by rw [hd]; exact List.nodup_nil, fun d h => by rw [hd] at h; cases h⟩, h.df.mok, fun _ _ h => h, fun _ _ h => .inl h, fun _ _ h => h, fun _ _ => rfl, h.df.tab.own h.below h.df.mok (fun b hb => hb.elim .inl (fun hb => .inr (.inl hb.1)))⟩, hs.trans h.sz, .of (Below.refl _ _), fun _ h => .inl h, h.good, fun _ h => .inl h, fun _ h => h, h.good, h.lβ, h.lρ, hsl, fun i cs hi => ?_, fun i cs hi => ?_, fun r row hr => ?_, h.ap⟩
  · obtain ⟨b, vs, t, e1, e2, e3, e4, e5⟩ := (h.bx i cs hi).ex
    exact ⟨b, vs, t, e1, e2, e3, .inr ⟨e4, hf.bx i _ b hi rfl e1, _, _, _, e2⟩, e5⟩
  · obtain ⟨b, vs, t, e1, e2, e3, e4, e5⟩ := (h.fz i cs hi).ex
    exact ⟨b, vs, t, e1, e2, e3, .inr ⟨e4, hf.bx i _ b hi rfl e1, _, _, _, e2⟩, e5⟩
  · obtain ⟨v, e1, e2, e3⟩ := (h.rw r row hr).ex
    refine ⟨v, e1, e2, fun hl => ?_⟩
    obtain ⟨h1, h2, h3⟩ := e3 hl
    refine ⟨h1, h2, fun gb hgb => ⟨.inr ⟨(h3 gb hgb).1, hf.rw r row v gb hr hl e1 hgb, ?_⟩, (h3 gb hgb).2⟩⟩
    obtain ⟨vals, hown⟩ := h1
    rcases hown.2 with ⟨rfl, _⟩ | ⟨g2, cap, cur, rfl, _, hgg, _⟩
    · simp [Value.ownBlock] at hgb
    · simp [Value.ownBlock] at hgb
      subst hgb
      exact ⟨_, _, _, hgg⟩
end
end Go.Ab
end
section
namespace Go.Ab
open Go.RowKit
section
variable {c c2 : Ctx} {s s2 st : St} {a a2 : Act} {w W W2 : World} {g g2 : Gh}
theorem RG.rebase {w' : World} (h : RG c s a w g) (hc : ∀ (b : Nat) (cs : Array Value) (t : TypeId) (fz : Nat × Nat), w.heap[b]? = some (.cells cs t fz) → w'.heap[b]? = some (.cells cs t fz))
    (hm : ∀ (b : Nat) (es : Array MapEntry) (cl : Nat), w.heap[b]? = some (.map es cl) → w'.heap[b]? = some (.map es cl)) (hd : DefOk c.own w' a.defers) (ho : ∀ b, w'.heap.size ≤ b → c.own b) :
    RG ⟨c.P, w', g.S, g.M, c.l, c.own, c.β0⟩ s a w' g := by
  have hcell : ∀ x, g.S x → w'.cell? x = w.cell? x := fun x hx => by
    obtain ⟨u, hu⟩ := h.good x hx
    obtain ⟨cs, t, fz, hx⟩ := cell_cells hu
    exact World.cell?_of_block ((hc _ _ _ _ hx).trans hx.symm)
  have k : Keeps w g w' g := ⟨hcell, fun _ h => h, fun _ _ h => h, fun _ _ h => h, fun _ _ h => h⟩
  have hgood : Good w' g.S := fun x hx => by
    obtain ⟨u, hu⟩ := h.good x hx
    exact ⟨u, (hcell x hx).trans hu⟩
  refine ⟨⟨hd, fun b f hf => ?_, fun _ _ h => h, fun _ _ h => .inl h, h.df.anc, fun _ _ => rfl, ⟨fun b vs hv => by obtain ⟨t, fz, e⟩ := h.df.tab.at h.below b vs hv; exact ⟨t, fz, hc _ _ _ _ e⟩, fun b vs hv hm => hm.elim (fun hm => h.df.tab.no b vs hv (.inl hm)) (fun hm => hm ((h.df.tab.at h.below).noM h.df.mok b vs hv))⟩⟩, h.sz, .of (Below.refl _ _), ho, hgood, fun _ h => .inl h, fun _ h => h, hgood, h.lβ, h.lρ, fun n => (h.sl n).keep k, ?_, ?_, ?_, h.ap⟩
  · obtain ⟨es, cl, h1, h2⟩ := h.df.mok b f hf
    exact ⟨es, cl, hm _ _ _ h1, h2⟩
  · intro i cs hi
    obtain ⟨b, vs, t, e1, e2, e3, e4, e5, e6⟩ := (h.bx i cs hi).ex
    exact ⟨b, vs, t, e1, hc _ _ _ _ e2, e3.keep k, e4, e5, e6⟩
  · intro i cs hi
    obtain ⟨b, vs, t, e1, e2, e3, e4, e5, e6⟩ := (h.fz i cs hi).ex
    exact ⟨b, vs, t, e1, hc _ _ _ _ e2, e3.keep k.er, e4, e5, e6⟩
  · intro r row hr
    obtain ⟨v, e1, e2, e3⟩ := (h.rw r row hr).ex
    refine ⟨v, e1, e2.keep k, fun hl => ?_⟩
    obtain ⟨⟨vals, hown⟩, hcl, hS⟩ := e3 hl
    refine ⟨⟨vals, hown.1, ?_⟩, hcl, hS⟩
    rcases hown.2 with hn | ⟨g, cap, cur, rfl, hg, hgg, rest⟩
    · exact .inl hn
    · exact .inr ⟨g, cap, cur, rfl, hg, hc _ _ _ _ hgg, rest⟩
theorem put_cells {w : World} {L : Nat} {r : Loop} {o : Obj} (hL : w.heap[L]? = some (.loop r)) : ∀ (b : Nat) (cs : Array Value) (t : TypeId) (fz : Nat × Nat), w.heap[b]? = some (.cells cs t fz) → (w.putObj L o).heap[b]? = some (.cells cs t fz) := fun b cs t fz hb => by
  rw [World.putObj_heap_other (fun e => by subst e; rw [hb] at hL; cases hL)]; exact hb
theorem put_maps {w : World} {L : Nat} {r : Loop} {o : Obj} (hL : w.heap[L]? = some (.loop r)) : ∀ (b : Nat) (es : Array MapEntry) (cl : Nat), w.heap[b]? = some (.map es cl) → (w.putObj L o).heap[b]? = some (.map es cl) := fun b es cl hb => by
  rw [World.putObj_heap_other (fun e => by subst e; rw [hb] at hL; cases hL)]; exact hb
theorem later_put {p : Nat → Prop} {L : Nat} {r : Loop} (hS : Good w g.S) (hL : w.heap[L]? = some (.loop r)) (hp : p L) (o : Obj) : Later p w g (w.putObj L o) g := by
  have hg := grownBy_putObj' w L o
  refine ⟨⟨hg.os, hg.tape, hg.output, hg.size, fun k hk hn => hg.block k hk (fun e => hn (.inl (by cases e; exact hp)))⟩, fun x hx => ?_, fun _ h => h, fun _ h => .inl h, fun _ _ h => h, fun _ _ h => .inl h⟩
  obtain ⟨u, hu⟩ := hS x hx
  obtain ⟨cs, t, fz, hc⟩ := cell_cells hu
  exact World.cell?_of_block ((put_cells hL _ _ _ _ hc).trans hc.symm)
theorem MOk.noLoop {w : World} {M : MM} (h : MOk w M) {b : Nat} {r : Loop} (hb : w.heap[b]? = some (.loop r)) : M b = none := by
  cases hm : M b with
  | none => rfl
  | some f =>
    obtain ⟨es, cl, h1, _⟩ := h b f hm
    rw [hb] at h1; cases h1
/-- The invariant between two rounds, and behind the last one. -/
def JJ (c : Ctx) (a : Act) (L D : Nat) (st : St) (r : Loop) : Inv := fun T S M W => ∃ g : Gh, g.S = S ∧ g.M = M ∧ RG c st a W g ∧ Free (c := c) T st a W g ∧ W.heap[L]? = some (.loop r) ∧ W.heap[D]? = some (.deferred (some [])) ∧ ∀ b, T b → b ≠ L ∧ b ≠ D
theorem JJ_abides {L D : Nat} {r : Loop} : Abides (JJ c a L D st r) := by
  rintro T S M W T' S' M' W' ⟨g, rfl, rfl, hg, hf, hL, hD, hT⟩ hi
  obtain ⟨h1, h2⟩ := hg.igrow hf hi
  have hl := (Array.getElem?_eq_some_iff.1 hL).1
  have hd := (Array.getElem?_eq_some_iff.1 hD).1
  refine ⟨_, rfl, rfl, h1, h2, ?_, ?_, fun b hb => ?_⟩
  · exact (hi.below.block L hl (fun h => h.elim (fun h => (hT L h).1 rfl) (fun h => h (hg.df.mok.noLoop hL)))).trans hL
  · exact (hi.below.block D hd (fun h => h.elim (fun h => (hT D h).2 rfl) (fun h => h (hg.df.mok.noDefs hD)))).trans hD
  · rcases hi.t1 b hb with h | h
    · exact hT b h
    · exact ⟨by omega, by omega⟩
/-- A round's end. -/
theorem round_end {T : Nat → Prop} {L D nb : Nat} {r r2 rB : Loop} {W3 : World} {g3 : Gh} {s3 : St} {a3 : Act} {bx' : List Bx} {rw' : List Row} (h : RG c st a W g) (hf : Free (c := c) T st a W g) (hL : W.heap[L]? = some (.loop r)) (hD : W.heap[D]? = some (.deferred (some [])))
    (hT : ∀ b, T b → b ≠ L ∧ b ≠ D) (hLo : c.w0.heap.size ≤ L) (hnb : st.bx.length = nb)
    (h3 : RG c2 s3 a3 W3 g3) (hβ : c2.β0 = g.β) (hown : ∀ b, c2.own b → W.heap.size ≤ b ∨ (c.own b ∧ ¬ T b ∧ ∃ cs t fz, W.heap[b]? = some (.cells cs t fz)))
    (hl : Later (fun b => W.heap.size ≤ b ∨ b = L ∨ (c.own b ∧ ¬ T b ∧ ∃ cs t fz, W.heap[b]? = some (.cells cs t fz))) W g W3 g3) (hL3 : W3.heap[L]? = some (.loop rB))
    (hsl : ∀ m, Names st.bx.length 0 (st.sl m)) (hle : Le s3 ⟨st.n, none', bx', rw'⟩) (hlen : bx'.length = nb) (hnm : (⟨st.n, none', bx', rw'⟩ : St).named) :
    ∃ S' M', FGrow T g.S g.M W S' M' (W3.putObj L (.loop r2)) ∧ JJ c a L D ⟨st.n, st.sl, bx', rw'⟩ r2 T S' M' (W3.putObj L (.loop r2)) := by
  have hsz : c.w0.heap.size ≤ W.heap.size := h.below.size
  have hl0 := (Array.getElem?_eq_some_iff.1 hL).1
  have hd0 := (Array.getElem?_eq_some_iff.1 hD).1
  have hc2 : c2.β0.length ≤ bx'.length := by rw [hβ, h.lβ, hnb, hlen]; exact Nat.le_refl _
  have h4 := h3.le hle hnm hc2
  generalize hg4 : (⟨g3.S, g3.β.take (⟨st.n, none', bx', rw'⟩ : St).bx.length, g3.ρ.take (⟨st.n, none', bx', rw'⟩ : St).rw.length, g3.M⟩ : Gh) = g4 at h4
  have eS : g4.S = g3.S := by rw [← hg4]
  have eM : g4.M = g3.M := by rw [← hg4]
  have hl4 : Later (fun b => W.heap.size ≤ b ∨ b = L ∨ (c.own b ∧ ¬ T b ∧ ∃ cs t fz, W.heap[b]? = some (.cells cs t fz))) W g W3 g4 :=
    ⟨hl.below, hl.kp, eS ▸ hl.s1, eS ▸ hl.s2, eM ▸ hl.m1, eM ▸ hl.m2⟩
  have hanc : ∀ (i b : Nat), g.β[i]? = some b → g4.β[i]? = some b := fun i b hb => h4.df.anc i b (hβ ▸ hb)
  have hback := h.back h4 hl4 (fun b hb => by
      rcases hb with hb | rfl | hb
      · exact h.own0 b (Nat.le_trans hsz hb)
      · exact h.own0 _ hLo
      · exact hb.1) (fun b hb => by
      rcases hown b hb with hb | hb
      · exact h.own0 b (Nat.le_trans hsz hb)
      · exact hb.1) hanc hsl (fun d hd D' hD' hp => by
      obtain ⟨D2, _, rfl, hd2⟩ := h.df.dok.2 d hd
      cases hD'
      rcases hp with hp | rfl | ⟨_, _, cs, t, fz, hp⟩
      · have := (Array.getElem?_eq_some_iff.1 hd2).1; omega
      · rw [hL] at hd2; cases hd2
      · rw [hp] at hd2; cases hd2)
  have hdok : DefOk c.own (W3.putObj L (.loop r2)) a.defers := ⟨h.df.dok.1, fun d hd => by
    obtain ⟨D2, hB, rfl, hd2⟩ := hback.df.dok.2 d hd
    exact ⟨D2, hB, rfl, (World.putObj_heap_other (fun e => by subst e; rw [hL3] at hd2; cases hd2)).trans hd2⟩⟩
  have h5 : RG c ⟨st.n, st.sl, bx', rw'⟩ a (W3.putObj L (.loop r2)) g4 := hback.turn hL3 rfl (by simp) (h.own0 _ hLo) rfl hdok
  have hfin := hl4.trans (later_put (g := g4) h4.good hL3 (.inr (.inl rfl)) (.loop r2)) (fun b hb => .inl hb)
  have hTp : ∀ b, T b → ¬ (W.heap.size ≤ b ∨ b = L ∨ (c.own b ∧ ¬ T b ∧ ∃ cs t fz, W.heap[b]? = some (.cells cs t fz))) := fun b hb hp => by
    rcases hp with hp | hp | hp
    · have := (hf.lt b hb).1; omega
    · exact (hT b hb).1 hp
    · exact hp.2.1 hb
  have hsx : ∀ x, g4.S x → T x.block → g.S x := fun x hx ht => (hfin.s2 x hx).elim id (fun h1 => (hTp _ ht h1).elim)
  have hTo : ∀ b, c2.own b → ¬ T b := fun b hb ht => by
    rcases hown b hb with h1 | h1
    · have := (hf.lt b ht).1; omega
    · exact h1.2.1 ht
  have hTm : ∀ b, T b → g4.M b = none := fun b hb => by
    cases hm : g4.M b with
    | none => rfl
    | some f => rcases hfin.m2 b f hm with h1 | h1
                · rw [(hf.lt b hb).2.1] at h1; cases h1
                · have := (hf.lt b hb).1; omega
  refine ⟨g4.S, g4.M, ⟨hfin.below.os, hfin.below.tape, hfin.below.output, hfin.below.size, fun b hb => hfin.below.block b (hf.lt b hb).1 (fun h => h.elim (hTp b hb) (fun h => h (hf.lt b hb).2.1)), hfin.kp, hfin.s1, hsx, (fun _ => h5.df.tab.at h5.below), hfin.m1, hTm, h5.df.mok, h5.good⟩,
    g4, rfl, rfl, h5, ⟨fun i x b hi hx hb => hTo b (h4.boxlt (x := x) hi hx hb).2, fun r row v gb hr hl hv hgb => hTo gb (h4.rowlt hr hl hv hgb).2, hf.df, fun b hb => ⟨Nat.lt_of_lt_of_le (hf.lt b hb).1 hfin.below.size, hTm b hb, (hf.lt b hb).2.2⟩⟩,
    World.putObj_heap_same (Array.getElem?_eq_some_iff.1 hL3).1, ?_, hT⟩
  refine (hfin.below.block D hd0 (fun hn => hn.elim (fun hp => ?_) (fun hn => hn (h.df.mok.noDefs hD)))).trans hD
  rcases hp with hp | rfl | ⟨_, _, cs, t, fz, hp⟩
  · omega
  · rw [hL] at hD; cases hD
  · rw [hp] at hD; cases hD
end
end Go.Ab
end
section
namespace Go.Ab
open Go.RowKit
def exC : Exit → Option Code
  | .ret => some .ret
  | .exit id => some (.exit id)
  | .goto t => some (.goto t)
  | _ => none
/-- What a round is left with. -/
def roundQ (n nb : Nat) (sl0 : Nat → D) (bx' : List Bx) (rw' : List Row) (Q : Exit → St → Prop) : Exit → St → Prop
  | .normal, s' => Le s' ⟨n, none', bx', rw'⟩
  | e, s' => (exC e).isSome = true ∧ ∃ bxx rwx, bxx.length = nb ∧ (⟨n, none', bxx, rwx⟩ : St).named ∧ Le s' ⟨n, none', bxx, rwx⟩ ∧ Q e ⟨n, sl0, bxx, rwx⟩
theorem Names.mono0 {nb nr : Nat} {d : D} (h : Names nb 0 d) : Names nb nr d := by
  generalize hz : 0 = z at h
  induction h with
  | undef => exact .undef
  | int k n => exact .int _ _
  | bool b => exact .bool _
  | str s => exact .str _
  | val v => exact .val _
  | list xs => exact .list _
  | agg cs h ih => exact .agg _ ih
  | tup cs h ih => exact .tup _ ih
  | box i off h => exact .box _ _ h
  | ro cs => exact .ro _
  | own r h => omega
  | clo f cs h ih => exact .clo _ _ ih
  | memo f => exact .memo _
  | bsl i off n c h => exact .bsl _ _ _ _ h
  | mth f cs h ih => exact .mth _ _ ih
  | skp => exact .skp
section
variable {P : Program} {w0 : World} {S0 : Addr → Prop} {M0 : MM} {own : Nat → Prop} {β0 : List Nat}
theorem exC_wp {c : Ctx} {e : Exit} {cd : Code} {Q : Exit → Act → World → Prop} {a : Act} {w : World} (he : exC e = some cd) (h : Q e a w) : cd.wpIn c.F 0 c.P Q a w := by
  cases e <;> simp only [exC, Option.some.injEq, reduceCtorEq] at he <;> subst he
  · exact wpIn_exit h
  · exact wpIn_goto h
  · exact wpIn_ret h
/-- **A range over a function.** -/
theorem abs_rangeFunc {gx : Operand} {ps : Array Tmp} {assign body : Code} {Q : Exit → St → Prop} {s : St} {gf : FuncId} {cs cs' : List D} {xs : List (List D)}
    (hg : s.ev gx = .clo gf cs) (hp : pureDs s.bx s.rw cs = some cs') (hI : Iter P gf cs' xs) (hxs : ∀ x ∈ xs, x.length = ps.size) (hps : ∀ p ∈ ps.toList, p < s.n)
    (sl0 : Nat → D) (bx : Nat → List Bx) (rw : Nat → List Row) (nb : Nat) (hle : Le s ⟨s.n, sl0, bx 0, rw 0⟩) (hsl : ∀ m, Names nb 0 (sl0 m))
    (hnb : ∀ k, k ≤ xs.length → (bx k).length = nb) (hnm : ∀ k, k ≤ xs.length → (⟨s.n, none', bx k, rw k⟩ : St).named) (hβ : β0.length ≤ nb)
    (round : ∀ (k : Nat) (x : List D), xs[k]? = some x → ∀ (w1 : World) (S1 : Addr → Prop) (M1 : MM) (l : Nat) (o1 : Nat → Prop) (b1 : List Nat), b1.length = nb →
      Abs ⟨P, w1, S1, M1, some l, o1, b1⟩ assign (thenQ (fun s' => ∀ (w2 : World) (S2 : Addr → Prop) (M2 : MM) (o2 : Nat → Prop), Abs ⟨P, w2, S2, M2, some l, o2, b1⟩ body (roundQ s.n nb sl0 (bx (k + 1)) (rw (k + 1)) Q) s') (fun _ _ => False))
        ⟨s.n, putL ps.toList x sl0, bx k, rw k⟩)
    (done : Q .normal ⟨s.n, sl0, bx xs.length, rw xs.length⟩) : Abs ⟨P, w0, S0, M0, none, own, β0⟩ (.rangeFunc gx ps assign body) Q s := by
  obtain ⟨c, hc⟩ : ∃ c : Ctx, c = ⟨P, w0, S0, M0, none, own, β0⟩ := ⟨_, rfl⟩
  rw [← hc]
  have hcP : c.P = P := by rw [hc]
  have hcF : c.F = Fence.wide := by rw [hc]; rfl
  intro a w hr
  obtain ⟨g, hgs⟩ := hr
  -- the iterator's value
  have hv := hgs.ev gx
  rw [hg] at hv
  generalize hve : a.eval gx = vx at hv
  have hnamed0 : (⟨s.n, sl0, bx 0, rw 0⟩ : St).named := ⟨fun m => by
    have h1 := hsl m
    have hb0 := hnb 0 (Nat.zero_le _)
    simp only [hb0]
    exact h1.mono0, (hnm 0 (Nat.zero_le _)).2⟩
  have hβ' : c.β0.length ≤ (⟨s.n, sl0, bx 0, rw 0⟩ : St).bx.length := by rw [hc]; simpa [hnb 0 (Nat.zero_le _)] using hβ
  have h0 := hgs.le hle hnamed0 hβ'
  cases hv with
  | clo _ _ vs _ hvl hvr =>
  obtain ⟨vs⟩ := vs
  obtain ⟨e1, e2⟩ := pureDs_get hp
  have hlb : vs.length = cs'.length := by rw [e1]; simpa using hvl
  have hlr : ∀ q x, cs'[q]? = some x → Rel w ⟨g.S, [], [], g.M⟩ (vs.getD q Go.undef) x := fun q x hx => by
    obtain ⟨y, hy, hpy⟩ := e2 q x hx
    exact pureD_rel hgs (by simpa using hvr q y hy) hpy
  refine wpIn_rangeFunc ?_
  intro fn hfn
  have hro : c.F.round = none := by rw [hcF]; rfl
  rw [hro]
  obtain ⟨rec, hrec⟩ : ∃ rec : LoopState → Option Code → Loop, rec = fun st pe => { state := st, pending := pe, fn, tmps := a.tmps, params := ps, assign, body, defers := w.heap.size } := ⟨_, rfl⟩
  obtain ⟨W1, hW1⟩ : ∃ W1, (w.alloc (.deferred (some []))).alloc (.loop (rec .ready none)) = W1 := ⟨_, rfl⟩
  have hL1 : W1.heap[w.heap.size + 1]? = some (.loop (rec .ready none)) := by
    rw [← hW1]; have := World.alloc_heap_new (w.alloc (.deferred (some []))) (.loop (rec .ready none)); rwa [World.size_alloc] at this
  have hK1 : W1.heap[w.heap.size]? = some (.deferred (some [])) := by
    rw [← hW1]; exact (Below.heap_alloc _ _ _ (by simp)).trans (World.alloc_heap_new w _)
  have hb1 : Below w.heap.size w W1 := by rw [← hW1]; exact (((Below.refl _ w).alloc (Nat.le_refl _) _).alloc (by simp) _)
  have hsz : c.w0.heap.size ≤ w.heap.size := hgs.below.size
  have h1 := h0.world hb1 (fun _ h => h) (fun _ h => .inl h) (h0.good.below hb1)
  have hM1 : MOk W1 g.M := h1.df.mok
  have hS1 : Good W1 g.S := h1.good
  refine ⟨w.heap.size + 1, [{ target := .collected w.heap.size, args := #[] }], W1, { target := .fn (.func gf) vs.toArray, args := #[.func (.yield (w.heap.size + 1)) #[] #[]] }, W1, gf,
    (Value.func (.yield (w.heap.size + 1)) #[] #[] :: vs).toArray, W1, ?_, ?_, ?_, ?_, fun h => (by rw [hcF] at h; cases h), ?_⟩
  · rw [← hW1, hrec]; exact run_enterLoop_outer _ _ _ _ _
  · simp only [resolve, hve]
    simp [go_sem]
  · intro f' _; rw [hcF]; trivial
  · have := hI.1 (Value.func (.yield (w.heap.size + 1)) #[] #[] :: vs).toArray W1
    rw [hcP]
    simp [invoke, go_sem]
    simpa using this
  rw [hcF, hcP]
  refine callsIn_wide.2 ((hI.2 g.S g.M W1 vs (h1.df.tab.at h1.below) hS1 hM1 hlb (fun q x hx => (hlr q x hx).keep ⟨fun y hy => by
      obtain ⟨u, hu⟩ := hgs.good y hy
      obtain ⟨cc, tt, ff, hcc⟩ := cell_cells hu
      exact World.cell?_of_block (hb1.block _ (Array.getElem?_eq_some_iff.1 hcc).1), fun _ h => h, fun _ _ h => h, fun _ _ h => h, fun _ _ h => h⟩)
    (w.heap.size + 1) (fun k T S M W => k ≤ xs.length ∧ JJ c a (w.heap.size + 1) w.heap.size ⟨s.n, sl0, bx k, rw k⟩ (rec .ready none) T S M W)
    (fun _ T S M W => ∃ e cd bxx rwx, exC e = some cd ∧ Q e ⟨s.n, sl0, bxx, rwx⟩ ∧ JJ c a (w.heap.size + 1) w.heap.size ⟨s.n, sl0, bxx, rwx⟩ (rec .done (some cd)) T S M W)
    (fun k T S M W T' S' M' W' h hi => ⟨h.1, JJ_abides T S M W T' S' M' W' h.2 hi⟩)
    (fun k T S M W T' S' M' W' h hi => by obtain ⟨e, cd, bxx, rwx, h1, h2, h3⟩ := h; exact ⟨e, cd, bxx, rwx, h1, h2, JJ_abides T S M W T' S' M' W' h3 hi⟩) ?_ ?_).mono ?_)
  · -- a round
    rintro k T S M W args x hx ⟨hk, g1, rfl, rfl, hg1, hf, hL, hD, hT⟩ hlen hrel
    have hxl : x.length = ps.size := hxs x (List.mem_of_getElem? hx)
    have hkl : k < xs.length := (List.getElem?_eq_some_iff.1 hx).1
    have hbk : (bx k).length = nb := hnb k hk
    have hy := run_yield (P := P) (args := args.toArray) hL (by rw [hrec]; simp; omega)
    rw [hrec] at hy
    refine ⟨fn, _, assign, body, hy, roundIn_of_wpIn trivial ?_⟩
    have hfold : ((ps.zip args.toArray).foldl (fun t (p, v) => t.setIfInBounds p v) a.tmps) = ((ps.toList.zip args).foldl (fun t (p, v) => t.setIfInBounds p v) a.tmps) := by
      rw [← Array.foldl_toList]; simp
    obtain ⟨q1, q2⟩ := putL_rel (w := W) (g := g1) ps.toList x args sl0 a.tmps hlen (fun q d hd => (hrel q d hd).keep (er_up _ _ _ _ _)) (fun p hp => by rw [hg1.sz]; exact hps p hp) (fun m => hg1.sl m)
    have hen := hg1.enter hf (some (w.heap.size + 1)) (a' := { tmps := (ps.zip args.toArray).foldl (fun t (p, v) => t.setIfInBounds p v) a.tmps, defers := [] }) (sl := putL ps.toList x sl0) rfl (by rw [hfold]; exact q1) (by rw [hfold]; exact q2)
    rw [hcP] at hen
    have hA := round k x hx W g1.S g1.M (w.heap.size + 1) _ g1.β (by rw [hg1.lβ]; exact hbk) _ W ⟨g1, hen⟩
    refine wpIn_mono hA ?_
    rintro e a1 w1 ⟨s1, ⟨g2, h2⟩, hq⟩
    cases e with
    | normal =>
      have hWl := (Array.getElem?_eq_some_iff.1 hL).1
      have hLn : ¬ (W.heap.size ≤ w.heap.size + 1 ∨ (c.own (w.heap.size + 1) ∧ ¬ T (w.heap.size + 1) ∧ ∃ cs t fz, W.heap[w.heap.size + 1]? = some (.cells cs t fz))) := fun h => by
        rcases h with h | ⟨_, _, cs, t, fz, h⟩
        · omega
        · rw [hL] at h; cases h
      have hL2 : w1.heap[w.heap.size + 1]? = some (.loop (rec .ready none)) := (h2.below.block _ hWl (fun h => h.elim hLn (fun h => h (hg1.df.mok.noLoop hL)))).trans hL
      have hbr := run_beginRound (P := P) hL2 (by rw [hrec])
      have hre := h2.rebase (w' := w1.putObj (w.heap.size + 1) (.loop { rec .ready none with state := .busy })) (put_cells hL2) (put_maps hL2) ⟨h2.df.dok.1, fun d hd => by
        obtain ⟨D2, hB, rfl, hd2⟩ := h2.df.dok.2 d hd
        exact ⟨D2, hB, rfl, (World.putObj_heap_other (fun e => by subst e; rw [hL2] at hd2; cases hd2)).trans hd2⟩⟩ (fun b hb => h2.own0 b (by have := h2.below.size; simp only [World.putObj_size] at hb; exact Nat.le_trans this hb))
      have hB := hq (w1.putObj (w.heap.size + 1) (.loop { rec .ready none with state := .busy })) g2.S g2.M _ a1 _ ⟨g2, hre⟩
      refine ⟨_, hbr, wpIn_mono hB ?_⟩
      rintro e a3 W3 ⟨s3, ⟨g3, h3⟩, hq3⟩
      have hL2s : (w1.putObj (w.heap.size + 1) (.loop { rec .ready none with state := .busy })).heap[w.heap.size + 1]? = some (.loop { rec .ready none with state := .busy }) := World.putObj_heap_same (Array.getElem?_eq_some_iff.1 hL2).1
      have hlt2 := (Array.getElem?_eq_some_iff.1 hL2s).1
      have hL3 : W3.heap[w.heap.size + 1]? = some (.loop { rec .ready none with state := .busy }) := (h3.below.block _ hlt2 (fun h => h.elim hLn (fun h => h (hre.df.mok.noLoop hL2s)))).trans hL2s
      have l1 : Later (fun b => W.heap.size ≤ b ∨ b = w.heap.size + 1 ∨ (c.own b ∧ ¬ T b ∧ ∃ cs t fz, W.heap[b]? = some (.cells cs t fz))) W g1 w1 g2 := h2.later rfl rfl rfl (fun b hb => hb.elim .inl (fun h => .inr (.inr h)))
      have l2 := later_put (p := fun b => W.heap.size ≤ b ∨ b = w.heap.size + 1 ∨ (c.own b ∧ ¬ T b ∧ ∃ cs t fz, W.heap[b]? = some (.cells cs t fz))) h2.good hL2 (.inr (.inl rfl)) (.loop { rec .ready none with state := .busy })
      have l3 : Later (fun b => W.heap.size ≤ b ∨ b = w.heap.size + 1 ∨ (c.own b ∧ ¬ T b ∧ ∃ cs t fz, W.heap[b]? = some (.cells cs t fz))) _ g2 W3 g3 := h3.later rfl rfl rfl (fun b hb => hb.elim .inl (fun h => .inr (.inr h)))
      have hl := (l1.trans l2 (fun b hb => .inl hb)).trans l3 (fun b hb => .inl hb)
      have hend := fun (jump : Option Code) => run_endRound (P := P) jump hL3
      have fin : ∀ (bxx : List Bx) (rwx : List Row) (r2 : Loop), Le s3 ⟨s.n, none', bxx, rwx⟩ → bxx.length = nb → (⟨s.n, none', bxx, rwx⟩ : St).named →
          ∃ S' M', FGrow T g1.S g1.M W S' M' (W3.putObj (w.heap.size + 1) (.loop r2)) ∧ JJ c a (w.heap.size + 1) w.heap.size ⟨s.n, sl0, bxx, rwx⟩ r2 T S' M' (W3.putObj (w.heap.size + 1) (.loop r2)) := fun bxx rwx r2 hle hlen hnm =>
        round_end (st := ⟨s.n, sl0, bx k, rw k⟩) (nb := nb) hg1 hf hL hD hT (by omega) hbk h3 rfl (fun b hb => hb) hl hL3 (by rw [show (⟨s.n, sl0, bx k, rw k⟩ : St).bx.length = nb from hbk]; exact hsl) hle hlen hnm
      have leave : ∀ cd, exC e = some cd → roundQ s.n nb sl0 (bx (k + 1)) (rw (k + 1)) Q e s3 → e ≠ .normal → ∃ v w', (Instr.endRound (w.heap.size + 1) (some cd)).run P W3 = .ok v w' ∧ ∃ S' M', FGrow T g1.S g1.M W S' M' w' ∧
          ((Ending.returned v = .returned (.bool true) ∧ k + 1 ≤ xs.length ∧ JJ c a (w.heap.size + 1) w.heap.size ⟨s.n, sl0, bx (k + 1), rw (k + 1)⟩ (rec .ready none) T S' M' w') ∨
           (Ending.returned v = .returned (.bool false) ∧ ∃ e cd bxx rwx, exC e = some cd ∧ Q e ⟨s.n, sl0, bxx, rwx⟩ ∧ JJ c a (w.heap.size + 1) w.heap.size ⟨s.n, sl0, bxx, rwx⟩ (rec .done (some cd)) T S' M' w')) := fun cd hcd hq hne => by
        have hq' : ∃ bxx rwx, bxx.length = nb ∧ (⟨s.n, none', bxx, rwx⟩ : St).named ∧ Le s3 ⟨s.n, none', bxx, rwx⟩ ∧ Q e ⟨s.n, sl0, bxx, rwx⟩ := by
          cases e <;> first | exact (hne rfl).elim | exact hq.2
        obtain ⟨bxx, rwx, h5, h6, h7, h8⟩ := hq'
        have he := hend (some cd)
        obtain ⟨S', M', f1, f2⟩ := fin bxx rwx (rec .done (some cd)) h7 h5 h6
        rw [hrec] at he f1 f2 ⊢
        exact ⟨_, _, he, S', M', f1, .inr ⟨rfl, e, cd, bxx, rwx, hcd, h8, f2⟩⟩
      cases e with
      | normal =>
        have he := hend none
        obtain ⟨S', M', f1, f2⟩ := fin (bx (k + 1)) (rw (k + 1)) (rec .ready none) hq3 (hnb _ hkl) (hnm _ hkl)
        rw [hrec] at he f1 f2 ⊢
        exact ⟨_, _, he, S', M', f1, .inl ⟨rfl, hkl, f2⟩⟩
      | ret => exact leave _ rfl hq3 (by simp)
      | exit id => exact leave _ rfl hq3 (by simp)
      | goto t => exact leave _ rfl hq3 (by simp)
      | panic ch => exact absurd hq3.1 (by simp [exC])
      | outgrown => exact absurd hq3.1 (by simp [exC])
    | exit id => exact hq.elim
    | goto l => exact hq.elim
    | ret => exact hq.elim
    | panic ch => exact hq.elim
    | outgrown => exact hq.elim
  · -- at the start
    refine ⟨Nat.zero_le _, _, ?_, ?_, h1, ⟨fun _ _ _ _ _ _ h => h, fun _ _ _ _ _ _ _ _ h => h, fun _ _ _ _ h => h, fun _ h => h.elim⟩, hL1, hK1, fun _ h => h.elim⟩ <;> rfl
  · -- behind it
    have hfinal : ∀ (st : St) (r : Loop) (T : Nat → Prop) (S : Addr → Prop) (M : MM) (W : World), r.state ≠ .busy → JJ c a (w.heap.size + 1) w.heap.size st r T S M W →
        (Instr.endLoop (w.heap.size + 1)).run P W = .ok r.pending (W.putObj (w.heap.size + 1) (.loop { r with state := .exhausted })) ∧
        R c st { a with defers := { target := .collected w.heap.size, args := #[] } :: a.defers } (W.putObj (w.heap.size + 1) (.loop { r with state := .exhausted })) := fun st r T S M W hb hJ => by
      obtain ⟨g1, rfl, rfl, hg1, hf, hL, hD, hT⟩ := hJ
      refine ⟨run_endLoop (P := P) hL hb, g1, hg1.turn hL rfl (by simp) (hg1.own0 _ (by omega)) rfl ⟨List.nodup_cons.2 ⟨fun hm => ?_, hg1.df.dok.1⟩, fun d hd => ?_⟩⟩
      · obtain ⟨D', _, e, hd'⟩ := hgs.df.dok.2 _ hm
        cases e
        have := (Array.getElem?_eq_some_iff.1 hd').1; omega
      · rcases List.mem_cons.1 hd with rfl | hd
        · exact ⟨w.heap.size, hg1.own0 _ hsz, rfl, (World.putObj_heap_other (by omega)).trans hD⟩
        · obtain ⟨D2, hB, rfl, hd2⟩ := hg1.df.dok.2 d hd
          exact ⟨D2, hB, rfl, (World.putObj_heap_other (fun e => by subst e; rw [hL] at hd2; cases hd2)).trans hd2⟩
    rintro e W2 ⟨⟨v, rfl⟩, T, S', M', ⟨hk, hJ⟩ | ⟨k, e', cd, bxx, rwx, he, hq, hJ⟩⟩
    · obtain ⟨h3, h4⟩ := hfinal _ _ _ _ _ _ (by rw [hrec]; simp) hJ
      rw [hrec] at h3 h4
      exact ⟨none, _, h3, _, h4, done⟩
    · obtain ⟨h3, h4⟩ := hfinal _ _ _ _ _ _ (by rw [hrec]; simp) hJ
      rw [hrec] at h3 h4
      refine ⟨some cd, _, h3, ?_⟩
      have := exC_wp (c := c) (Q := fun e a' w' => ∃ s', R c s' a' w' ∧ Q e s') he ⟨_, h4, hq⟩
      rw [hcF, hcP] at this
      exact this
end
end Go.Ab
end
section
namespace Go.Ab
open Go.RowKit
theorem findNow_int (x : Int) : ∀ (es : List MapEntry) (i : Nat), (∀ e ∈ es, ∃ y, e.key = Value.int .i64 y) → ∃ r, Instr.findNow (.int .i64) (.int .i64 x) es i = some r ∧ ((r = none ∧ ∀ e ∈ es, e.key ≠ .int .i64 x) ∨ ∃ j e, es[j]? = some e ∧ e.key = .int .i64 x ∧ r = some (i + j, e.val))
  | [], i, _ => ⟨none, rfl, .inl ⟨rfl, fun e he => by cases he⟩⟩
  | e :: es, i, h => by
    obtain ⟨y, hy⟩ := h e (List.mem_cons_self ..)
    by_cases hxy : x = y
    · subst hxy
      exact ⟨some (i, e.val), by simp [Instr.findNow, hy, Instr.sameNow], .inr ⟨0, e, rfl, hy, rfl⟩⟩
    · obtain ⟨r, h1, h2⟩ := findNow_int x es (i + 1) (fun e he => h e (List.mem_cons_of_mem _ he))
      have hb : (x == y) = false := by simp [hxy]
      refine ⟨r, by simp [Instr.findNow, hy, Instr.sameNow, hb, h1], ?_⟩
      rcases h2 with ⟨h2, h6⟩ | ⟨j, e', h3, h4, h5⟩
      · refine .inl ⟨h2, fun e' he' => ?_⟩
        rcases List.mem_cons.1 he' with rfl | he'
        · rw [hy]; intro hh; cases hh; exact hxy rfl
        · exact h6 e' he'
      · exact .inr ⟨j + 1, e', by simpa using h3, h4, by rw [h5]; simp; omega⟩
theorem key_int {P : Program} {kt : TypeId} (hu : P.underlying kt = some (.int .i64)) : KeyOk P kt false 1 where
  check e xs w _ := by
    have : ∀ d, (Instr.checkKey e (d + 1) kt (mkV false xs)).run P w = .ok () w := fun d => by simp [Instr.checkKey, run_underlying hu, mkV]
    exact this 9999
  find xs es w hl hes := by
    obtain ⟨r, h1, h2⟩ := findNow_int (xs.headD 0) es 0 (fun e he => by obtain ⟨ys, _, h⟩ := hes e he; exact ⟨_, h⟩)
    refine ⟨r, by simp only [Instr.findKey, Sem.run_bind, run_underlying hu, Result.andThen_ok, mkV, h1, Sem.run_pure], ?_⟩
    rcases h2 with h2 | ⟨j, e', h3, h4, h5⟩
    · exact .inl h2
    · exact .inr ⟨j, e', h3, h4, by simpa using h5⟩
  inj xs ys hx hy h := by
    match xs, ys, hx, hy with
    | [x], [y], _, _ => simpa [mkV] using h
theorem run_part_int {P : Program} {e : TypeId} (hag : aggO P e = some false) (xs : List Int) (i : Nat) (hi : i < xs.length) (w : World) : (part e (xs.map (Value.int .i64)).toArray i).run P w = .ok (.int .i64 xs[i]) w := by
  simp [part, aggO_run hag, hi]
theorem findAsking_arr {P : Program} {kt : TypeId} {n : Nat} (xs : List Int) (w : World) (heq : ∀ ys : List Int, ys.length = n → (Op.equal kt (.agg (xs.map (Value.int .i64)).toArray) (.agg (ys.map (Value.int .i64)).toArray)).run P w = .ok (decide (xs = ys)) w) :
    ∀ (es : List MapEntry) (i : Nat), (∀ e ∈ es, ∃ ys : List Int, ys.length = n ∧ e.key = mkV true ys) →
    ∃ r, (Instr.findAsking kt (mkV true xs) es i).run P w = .ok r w ∧ ((r = none ∧ ∀ e ∈ es, e.key ≠ mkV true xs) ∨ ∃ j e, es[j]? = some e ∧ e.key = mkV true xs ∧ r = some (i + j, e.val))
  | [], i, _ => ⟨none, by simp [Instr.findAsking], .inl ⟨rfl, fun e he => by cases he⟩⟩
  | e :: es, i, h => by
    obtain ⟨ys, hl, hy⟩ := h e (List.mem_cons_self ..)
    have hq := heq ys hl
    by_cases hxy : xs = ys
    · subst hxy
      refine ⟨some (i, e.val), ?_, .inr ⟨0, e, rfl, hy, rfl⟩⟩
      simp only [mkV] at hy ⊢
      simp [Instr.findAsking, hy, hq]
    · obtain ⟨r, h1, h2⟩ := findAsking_arr xs w heq es (i + 1) (fun e he => h e (List.mem_cons_of_mem _ he))
      refine ⟨r, ?_, ?_⟩
      · simp only [mkV] at hy h1 ⊢
        simp [Instr.findAsking, hy, hq, hxy, h1]
      · rcases h2 with ⟨h2, h6⟩ | ⟨j, e', h3, h4, h5⟩
        · refine .inl ⟨h2, fun e' he' => ?_⟩
          rcases List.mem_cons.1 he' with rfl | he'
          · rw [hy]; intro hh
            simp only [mkV, Value.agg.injEq] at hh
            have hh := congrArg Array.toList hh
            simp only at hh
            exact hxy ((List.map_inj_right (fun a b h => by cases h; rfl)).1 hh).symm
          · exact h6 e' he'
        · exact .inr ⟨j + 1, e', by simpa using h3, h4, by rw [h5]; simp; omega⟩
end Go.Ab
end
section
namespace Go.Ab
open Go.RowKit
def flatFields (P : Program) : Nat → List Field → Bool
  | _, [] => true
  | k, f :: fs => f.name != "_" && f.offset == k && decide (intOfTy P f.type = some .i64) && flatFields P (k + 1) fs
theorem intOf_u {P : Program} {t : TypeId} {k : IntKind} (h : intOfTy P t = some k) : P.underlying t = some (.int k) := by
  unfold intOfTy at h; split at h <;> simp_all
theorem eqFields_ints {P : Program} (d : Nat) (xs ys : List Int) (w : World) : ∀ (fs : List Field) (k : Nat), flatFields P k fs = true → k + fs.length = xs.length → k + fs.length = ys.length →
    (Op.eqFields (d + 1) (xs.map (Value.int .i64)).toArray (ys.map (Value.int .i64)).toArray fs).run P w = .ok (decide (xs.drop k = ys.drop k)) w
  | [], k, _, h1, h2 => by
    simp at h1 h2
    simp [Op.eqFields, List.drop_eq_nil_of_le (Nat.le_of_eq h1.symm), List.drop_eq_nil_of_le (Nat.le_of_eq h2.symm)]
  | f :: fs, k, hf, h1, h2 => by
    simp only [flatFields, Bool.and_eq_true, bne_iff_ne, beq_iff_eq, decide_eq_true_eq] at hf
    obtain ⟨⟨⟨hn, ho⟩, hu⟩, hr⟩ := hf
    have hu := intOf_u hu
    have hag : aggO P f.type = some false := by unfold aggO; rw [hu]
    simp only [List.length_cons] at h1 h2
    have ih := eqFields_ints d xs ys w fs (k + 1) hr (by omega) (by omega)
    have hx : k < xs.length := by omega
    have hy : k < ys.length := by omega
    have p1 := run_part_int hag xs k hx w
    have p2 := run_part_int hag ys k hy w
    have p3 : ∀ a b : Int, (Op.equalIn (d + 1) f.type (.int .i64 a) (.int .i64 b)).run P w = .ok (a == b) w := fun a b => by
      simp [Op.equalIn, run_underlying hu]
    simp only [Op.eqFields, hn, ne_eq, not_false_eq_true, if_true, Sem.run_bind, ho, p1, p2, p3, Result.andThen_ok]
    have hd : (xs.drop k = ys.drop k) = (xs[k] = ys[k] ∧ xs.drop (k + 1) = ys.drop (k + 1)) := by
      rw [List.drop_eq_getElem_cons hx, List.drop_eq_getElem_cons hy, List.cons.injEq]
    simp only [hd]
    by_cases hxy : xs[k] = ys[k]
    · simp [hxy, ih]
    · simp [hxy]
theorem eq_struct {P : Program} {t : TypeId} {n : Nat} (ht : P.underlying t = some (.struct (P.fieldsOf t))) (hf : (flatFields P 0 (P.fieldsOf t).toList && decide ((P.fieldsOf t).toList.length = n)) = true) (hp : P.stoodInHeld t = false) (hg : P.eqGuardType P.depth t = false) : EqInts P t n := by
  simp only [Bool.and_eq_true, decide_eq_true_eq] at hf
  have key : ∀ (xs ys : List Int) (w : World), xs.length = n → ys.length = n → (Op.equalIn 10000 t (.agg (xs.map (Value.int .i64)).toArray) (.agg (ys.map (Value.int .i64)).toArray)).run P w = .ok (decide (xs = ys)) w := fun xs ys w hx hy => by
    have h := eqFields_ints (P := P) 9998 xs ys w (P.fieldsOf t).toList 0 hf.1 (by omega) (by omega)
    rw [show (10000 : Nat) = 9998 + 1 + 1 from rfl, run_equalIn_struct w _ t _ _ ht hp, h]
    simp
  refine ⟨hg, fun xs ys w hx hy => ?_⟩
  have h := key xs ys w hx hy
  constructor
  · simp [binOp, Op.equal, Op.maxDepth, h]
  · simp [binOp, Op.equal, Op.maxDepth, h]
end Go.Ab
end
