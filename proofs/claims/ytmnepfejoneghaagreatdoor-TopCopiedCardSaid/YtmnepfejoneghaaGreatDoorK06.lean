import Derived.Test.YtmnepfejoneghaaGreatDoorK05
import Derived.Scope
set_option linter.unusedVariables false
set_option linter.unusedSimpArgs false
namespace Go.Ab
open Go.RowKit
/-- The frame of an iterator, between two yields: T are the blocks of its own. -/
structure IR (P : Program) (T : Nat → Prop) (S : Addr → Prop) (M : MM) (s : St) (a : Act) (w : World) : Prop where
  lt : ∀ b, T b → b < w.heap.size ∧ M b = none
  rg : ∃ g : Gh, g.S = S ∧ g.M = M ∧ RG ⟨P, w, S, M, none, fun b => T b ∨ w.heap.size ≤ b, []⟩ s a w g
theorem IR.next {P : Program} {T : Nat → Prop} {S : Addr → Prop} {M : MM} {s' : St} {a' : Act} {w w' : World} {g' : Gh} (lt : ∀ b, T b → b < w.heap.size ∧ M b = none)
    (h : RG ⟨P, w, S, M, none, fun b => T b ∨ w.heap.size ≤ b, []⟩ s' a' w' g') :
    ∃ T', IGrow T S M w T' g'.S g'.M w' ∧ IR P T' g'.S g'.M s' a' w' := by
  have hsz : w.heap.size ≤ w'.heap.size := h.below.size
  let T' : Nat → Prop := fun b => (T b ∨ w.heap.size ≤ b) ∧ b < w'.heap.size ∧ g'.M b = none
  refine ⟨T', ⟨⟨h.below.os, h.below.tape, h.below.output, h.below.size, fun k hk hn => h.below.block k hk (fun hm => hm.elim (fun ho => ho.elim (fun ht => hn (.inl ht)) (fun hl => by omega)) (fun hm => hn (.inr hm)))⟩,
    fun b hb => hb.1, fun b hb => hb.2, h.S0, fun x hx => h.from0 x hx, h.df.kp0, h.df.m0, h.df.mfrom, h.df.mok, h.good⟩, ⟨fun b hb => hb.2, g', rfl, rfl, ?_⟩⟩
  have own' : ∀ b, (T b ∨ w.heap.size ≤ b) → b < w'.heap.size → g'.M b = none → T' b := fun b h1 h2 h3 => ⟨h1, h2, h3⟩
  refine ⟨⟨⟨h.df.dok.1, fun d hd => ?_⟩, h.df.mok, fun _ _ h => h, fun _ _ h => .inl h, fun i b hb => by simp at hb, fun _ _ => rfl, h.df.tab.own h.below h.df.mok (fun b hb => hb.elim (fun hb => .inr (.inl hb.1)) .inl)⟩, h.sz, .of (Below.refl _ _), fun b hb => .inr hb, h.good, fun _ h => .inl h, fun _ h => h, h.good, h.lβ, h.lρ, h.sl, fun i cs hi => ?_, fun i cs hi => ?_, fun r row hr => ?_, h.ap⟩
  · obtain ⟨D', hB, e, hD⟩ := h.df.dok.2 d hd
    exact ⟨D', .inl (own' D' hB (Array.getElem?_eq_some_iff.1 hD).1 (h.df.mok.noDefs hD)), e, hD⟩
  · obtain ⟨b, vs, t, e1, e2, e3, e4, e5⟩ := (h.bx i cs hi).ex
    exact ⟨b, vs, t, e1, e2, e3, .inl (own' b e4 (Array.getElem?_eq_some_iff.1 e2).1 (h.df.mok.noCells e2)), e5⟩
  · obtain ⟨b, vs, t, e1, e2, e3, e4, e5⟩ := (h.fz i cs hi).ex
    exact ⟨b, vs, t, e1, e2, e3, .inl (own' b e4 (Array.getElem?_eq_some_iff.1 e2).1 (h.df.mok.noCells e2)), e5⟩
  · obtain ⟨v, e1, e2, e3⟩ := (h.rw r row hr).ex
    refine ⟨v, e1, e2, fun hl => ?_⟩
    obtain ⟨⟨vals, hown⟩, hcl, hS⟩ := e3 hl
    refine ⟨⟨vals, hown⟩, hcl, fun gb hgb => ⟨.inl (own' gb (hS gb hgb).1 (hown.lt gb hgb).2 ?_), (hS gb hgb).2⟩⟩
    rcases hown.2 with ⟨rfl, _⟩ | ⟨g2, cap, cur, rfl, _, hgg, _⟩
    · simp [Value.ownBlock] at hgb
    · simp [Value.ownBlock] at hgb
      subst hgb
      exact h.df.mok.noCells hgg
/-- A round went by. -/
theorem IR.round {P : Program} {T : Nat → Prop} {S S' : Addr → Prop} {M M' : MM} {s : St} {a : Act} {w w' : World} (h : IR P T S M s a w) (hf : FGrow T S M w S' M' w') : IR P T S' M' s a w' := by
  obtain ⟨lt, g, rfl, rfl, hg⟩ := h
  have k : Keeps w g w' ⟨S', g.β, g.ρ, M'⟩ := ⟨hf.cell, hf.s1, fun _ _ h => h, fun _ _ h => h, hf.m1⟩
  have hT : ∀ b, b < w.heap.size → (T b ∨ w.heap.size ≤ b) → T b := fun b hb h => h.elim id (fun h => by omega)
  refine ⟨fun b hb => ⟨Nat.lt_of_lt_of_le (lt b hb).1 hf.size, hf.m3 b hb⟩, ⟨S', g.β, g.ρ, M'⟩, rfl, rfl, ?_⟩
  refine ⟨⟨⟨hg.df.dok.1, fun d hd => ?_⟩, hf.mok, fun _ _ h => h, fun _ _ h => .inl h, fun i b hb => by simp at hb, fun _ _ => rfl, ⟨hf.tb (hg.df.tab.at hg.below), fun b vs hv hm => hm.elim (fun hm => hm.elim (fun ht => hg.df.tab.no b vs hv (.inl (.inl ht))) (fun hl => absurd ((hf.tb (hg.df.tab.at hg.below)).lt b vs hv) (Nat.not_lt.2 hl))) (fun hm => hm ((hf.tb (hg.df.tab.at hg.below)).noM hf.mok b vs hv))⟩⟩, hg.sz, .of (Below.refl _ _), fun b hb => .inr hb, hf.good, fun _ h => .inl h, fun _ h => h, hf.good, hg.lβ, hg.lρ, fun n => (hg.sl n).keep k, fun i cs hi => ?_, fun i cs hi => ?_, fun r row hr => ?_, hg.ap⟩
  · obtain ⟨D', hB, e, hD⟩ := hg.df.dok.2 d hd
    have ht := hT D' (Array.getElem?_eq_some_iff.1 hD).1 hB
    exact ⟨D', .inl ht, e, (hf.t D' ht).trans hD⟩
  · obtain ⟨b, vs, t, e1, e2, e3, e4, e5, e6⟩ := (hg.bx i cs hi).ex
    have ht := hT b (Array.getElem?_eq_some_iff.1 e2).1 e4
    exact ⟨b, vs, t, e1, (hf.t b ht).trans e2, e3.keep k, .inl ht, fun _ x hx e => e5 rfl x (hf.s3 x hx (by rw [e]; exact ht)) e, fun h => by cases h⟩
  · obtain ⟨b, vs, t, e1, e2, e3, e4, e5, e6⟩ := (hg.fz i cs hi).ex
    have ht := hT b (Array.getElem?_eq_some_iff.1 e2).1 e4
    exact ⟨b, vs, t, e1, (hf.t b ht).trans e2, e3.keep k.er, .inl ht, (fun h => by cases h), fun h q hq => hf.s1 _ (e6 h q hq)⟩
  · obtain ⟨v, e1, e2, e3⟩ := (hg.rw r row hr).ex
    refine ⟨v, e1, e2.keep k, fun hl => ?_⟩
    obtain ⟨⟨vals, hown⟩, hcl, hS⟩ := e3 hl
    refine ⟨⟨vals, hown.1, ?_⟩, hcl, fun gb hgb => ?_⟩
    · rcases hown.2 with hn | ⟨g2, cap, cur, rfl, hg2, hgg, rest⟩
      · exact .inl hn
      · have ht := hT g2 (Array.getElem?_eq_some_iff.1 hgg).1 (hS g2 rfl).1
        exact .inr ⟨g2, cap, cur, rfl, hg2, (hf.t g2 ht).trans hgg, rest⟩
    · have ht := hT gb (hown.lt gb hgb).2 (hS gb hgb).1
      exact ⟨.inl ht, fun x hx e => (hS gb hgb).2 x (hf.s3 x hx (by rw [e]; exact ht)) e⟩
/-- Where an iterator is: it goes on, after so many; or it was told to stop. -/
abbrev Ix := Bool × Nat
def JX (J Jx : Nat → Inv) : Ix → Inv
  | (true, k) => J k
  | (false, k) => Jx k
structure IC where
  P : Program
  l : Nat
  xs : List (List D)
  J : Nat → Inv
  Jx : Nat → Inv
structure IC.Ok (c : IC) : Prop where
  ab : ∀ i, Abides (JX c.J c.Jx i)
  rd : ∀ k T S M W (args : List Value) x, c.xs[k]? = some x → c.J k T S M W → args.length = x.length → (∀ q d, x[q]? = some d → Rel W ⟨S, [], [], M⟩ (args.getD q Go.undef) d) →
    YieldAt Fence.wide 0 c.P c.l args.toArray W fun e W' => ∃ S' M', FGrow T S M W S' M' W' ∧ ((e = .returned (.bool true) ∧ c.J (k + 1) T S' M' W') ∨ (e = .returned (.bool false) ∧ c.Jx (k + 1) T S' M' W'))
/-- A statement on an iterator's code. -/
def IA (c : IC) (code : Code) (Q : Exit → Ix → St → Prop) (i : Ix) (s : St) : Prop :=
  c.Ok → ∀ a w T S M, JX c.J c.Jx i T S M w → IR c.P T S M s a w → code.wpIn Fence.wide 0 c.P (fun e a' w' => ∃ i' s' T' S' M', JX c.J c.Jx i' T' S' M' w' ∧ IR c.P T' S' M' s' a' w' ∧ Q e i' s') a w
section
variable {c : IC} {Q : Exit → Ix → St → Prop} {s : St} {i : Ix}
theorem ia_abs {code : Code} (h : ∀ (w0 : World) (S0 : Addr → Prop) (M0 : MM) (own : Nat → Prop), Abs ⟨c.P, w0, S0, M0, none, own, []⟩ code (fun e s' => Q e i s') s) : IA c code Q i s := by
  intro hok a w T S M hJ ⟨lt, g, e1, e2, hg⟩
  refine wpIn_mono (h w S M _ a w ⟨g, hg⟩) ?_
  rintro e a' w' ⟨s', ⟨g', hg'⟩, hq⟩
  obtain ⟨T', hi, hr⟩ := IR.next lt hg'
  exact ⟨i, s', T', _, _, hok.ab i _ _ _ _ _ _ _ _ hJ hi, hr, hq⟩
theorem ia_skip (h : Q .normal i s) : IA c .skip Q i s := fun _ a w T S M hJ hr => wpIn_skip ⟨i, s, T, S, M, hJ, hr, h⟩
theorem ia_exit {id : Nat} (h : Q (.exit id) i s) : IA c (.exit id) Q i s := fun _ a w T S M hJ hr => wpIn_exit ⟨i, s, T, S, M, hJ, hr, h⟩
theorem ia_ret (h : Q .ret i s) : IA c .ret Q i s := fun _ a w T S M hJ hr => wpIn_ret ⟨i, s, T, S, M, hJ, hr, h⟩
def thenI (K : Ix → St → Prop) (Q : Exit → Ix → St → Prop) : Exit → Ix → St → Prop
  | .normal, i, s => K i s
  | e, i, s => Q e i s
def blockI (id : Nat) (Q : Exit → Ix → St → Prop) : Exit → Ix → St → Prop
  | .exit id', i, s => if id' = id then Q .normal i s else Q (.exit id') i s
  | e, i, s => Q e i s
theorem ia_seq {x y : Code} (h : IA c x (thenI (IA c y Q) Q) i s) : IA c (.seq x y) Q i s := by
  intro hok a w T S M hJ hr
  refine wpIn_seq (wpIn_mono (h hok a w T S M hJ hr) ?_)
  rintro e a' w' ⟨i', s', T', S', M', hJ', r, q⟩
  cases e with
  | normal => exact q hok a' w' T' S' M' hJ' r
  | exit id => exact ⟨i', s', T', S', M', hJ', r, q⟩
  | goto l => exact ⟨i', s', T', S', M', hJ', r, q⟩
  | ret => exact ⟨i', s', T', S', M', hJ', r, q⟩
  | panic ch => exact ⟨i', s', T', S', M', hJ', r, q⟩
  | outgrown => exact ⟨i', s', T', S', M', hJ', r, q⟩
theorem ia_block {id : Nat} {x : Code} (h : IA c x (blockI id Q) i s) : IA c (.block id x) Q i s := by
  intro hok a w T S M hJ hr
  refine wpIn_block (wpIn_mono (h hok a w T S M hJ hr) ?_)
  rintro e a' w' ⟨i', s', T', S', M', hJ', r, q⟩
  cases e with
  | normal => exact ⟨i', s', T', S', M', hJ', r, q⟩
  | exit id' =>
    simp only [blockI] at q
    simp only [Exit.inBlock]
    split at q
    · rw [if_pos (by assumption)]; exact ⟨i', s', T', S', M', hJ', r, q⟩
    · rw [if_neg (by assumption)]; exact ⟨i', s', T', S', M', hJ', r, q⟩
  | goto l => exact ⟨i', s', T', S', M', hJ', r, q⟩
  | ret => exact ⟨i', s', T', S', M', hJ', r, q⟩
  | panic ch => exact ⟨i', s', T', S', M', hJ', r, q⟩
  | outgrown => exact ⟨i', s', T', S', M', hJ', r, q⟩
theorem ia_if {x : Operand} {t e : Code} (h : wBool (s.ev x) fun b => (b = true → IA c t Q i s) ∧ (b = false → IA c e Q i s)) : IA c (.cond x t e) Q i s := by
  intro hok a w T S M hJ hr
  cases hs : s.ev x <;> rw [hs] at h <;> simp only [wBool] at h
  obtain ⟨g, _, _, hg⟩ := hr.rg
  have hv := hg.ev x
  rw [hs] at hv
  exact wpIn_cond_split hv.asBool (fun hb => h.1 hb hok a w T S M hJ hr) (fun hb => h.2 hb hok a w T S M hJ hr)
theorem IR.le {P : Program} {T : Nat → Prop} {S : Addr → Prop} {M : MM} {s s' : St} {a : Act} {w : World} (h : IR P T S M s a w) (hl : Le s s') (hn : s'.named) : IR P T S M s' a w := by
  obtain ⟨lt, g, e1, e2, hg⟩ := h
  exact ⟨lt, _, by rw [← e1], by rw [← e2], hg.le hl hn (Nat.zero_le _)⟩
theorem ia_loop {body : Code} {ι : Type} {n : Nat} (l : ι → List (Nat × D)) (ix : ι → Ix) (p : ι → Prop) (μ : ι → Nat) (hn : ∀ j, p j → ((l j).all fun q => namesB 0 0 q.2) = true)
    (j0 : ι) (h0 : p j0) (hi : ix j0 = i) (hle : Le s (mkSt n (l j0) [] []))
    (round : ∀ j, p j → IA c body (thenI (fun i' s' => ∃ j', p j' ∧ μ j' < μ j ∧ ix j' = i' ∧ Le s' (mkSt n (l j') [] [])) Q) (ix j) ⟨n, (l j).foldr (fun p f => put f p.1 p.2) none', [], []⟩) : IA c (.loop body) Q i s := by
  intro hok a w T S M hJ hr
  subst hi
  have hnm : ∀ j, p j → (mkSt n (l j) [] []).named := fun j hj => named_of (hn j hj) rfl
  refine wp_loop_ix (fun j a w => p j ∧ ∃ T S M, JX c.J c.Jx (ix j) T S M w ∧ IR c.P T S M (mkSt n (l j) [] []) a w) μ (fun j a w ⟨hp, T, S, M, hJ, hr⟩ => ?_) j0 ⟨h0, T, S, M, hJ, hr.le hle (hnm j0 h0)⟩
  refine wpIn_mono (round j hp hok a w T S M hJ hr) ?_
  rintro e a' w' ⟨i', s', T', S', M', hJ', r, q⟩
  cases e with
  | normal =>
    obtain ⟨j', hj, hlt, rfl, hl⟩ := q
    exact ⟨j', ⟨hj, T', S', M', hJ', r.le hl (hnm j' hj)⟩, hlt⟩
  | exit id => exact ⟨i', s', T', S', M', hJ', r, q⟩
  | goto l => exact ⟨i', s', T', S', M', hJ', r, q⟩
  | ret => exact ⟨i', s', T', S', M', hJ', r, q⟩
  | panic ch => exact ⟨i', s', T', S', M', hJ', r, q⟩
  | outgrown => exact ⟨i', s', T', S', M', hJ', r, q⟩
end
/-- The first operations of a list. -/
theorem evOps_pre {c : Ctx} {ops : Array Oper} {K : St → Prop} {Q : Exit → Act → World → Prop} {rest : List Oper} (hK : ∀ s a w, R c s a w → K s → wpListIn c.F 0 c.P ops Q rest a w) :
    ∀ (l : List Oper) (s : St) (a : Act) (w : World), R c s a w → evOps c.P ops.toList l s K → wpListIn c.F 0 c.P ops Q (l ++ rest) a w
  | [], s, a, w, hr, h => hK s a w hr h
  | o :: l, s, a, w, hr, h => by
    obtain ⟨g, hg⟩ := hr
    have next : ∀ {s1 : St}, stepOp c.P o s1 (fun s' => evOps c.P ops.toList l s' K) → s1 = s → o.wpIn c.F 0 c.P a w (wpListIn c.F 0 c.P ops Q (l ++ rest)) Q := fun hst e => by
      subst e
      refine op_in (step_nodefer hst) ?_
      exact Oper.wp_mono (fun a' w' ⟨s', hr', hk'⟩ => evOps_pre hK l s' a' w' hr' hk') (step_sound hg hst)
    unfold evOps at h
    show wpListIn c.F 0 c.P ops Q (o :: (l ++ rest)) a w
    unfold wpListIn
    split at h
    · rename_i hgd
      rw [if_pos (by simp [Region.wanted, hgd])]
      exact next h rfl
    · rename_i j want hgd
      obtain ⟨t, ht, h⟩ := wOpt_some h
      cases hb : s.sl t <;> rw [hb] at h <;> simp only [wG] at h
      case skp =>
        have hy := R.noYield hg ht hb
        rw [if_neg (by simp [Region.wanted, hgd, hy])]
        exact ⟨fun _ _ => trivial, evOps_pre hK l _ _ _ ⟨g, hg.put h.1 (.skp _)⟩ h.2⟩
      rename_i b
      have hy := R.yielded hg ht hb
      by_cases hbw : b = want
      · subst hbw
        rw [if_pos (by simp [Region.wanted, hgd, hy])]
        exact next (h.1 rfl) (reput hb)
      · have hbw' : b = !want := by cases b <;> cases want <;> simp_all
        rw [if_neg (by simp [Region.wanted, hgd, hy, hbw])]
        obtain ⟨hd, h2⟩ := h.2 hbw'
        rw [← hbw', reput hb] at h2
        exact ⟨fun _ _ => trivial, evOps_pre hK l _ _ _ ⟨g, hg.put hd (.skp _)⟩ h2⟩
/-- A region with a yield. -/
theorem ia_yield {c : IC} {Q : Exit → Ix → St → Prop} {s : St} {k id : Nat} {l1 l2 : List Oper} {fx x : Operand} {dst : Option Tmp} {at_ : Array TypeId} {ty : TypeId} {pos : String} {aft : Array Edge}
    (h : ∀ K1 : St → Prop, (∀ s1 d, s1.ev fx = .val (.func (.yield c.l) #[] #[]) → pureDs s1.bx s1.rw [s1.ev x] = some d → c.xs[k]? = some d → dstOk s1 dst →
        (∀ b : Bool, evOps c.P (l1 ++ ⟨dst, .call ⟨.value fx, #[x], at_⟩, ty, pos, aft, none⟩ :: l2) l2 (s1.put dst (.bool b)) (fun s2 => Q .normal (b, k + 1) s2)) → K1 s1) →
      evOps c.P (l1 ++ ⟨dst, .call ⟨.value fx, #[x], at_⟩, ty, pos, aft, none⟩ :: l2) l1 s K1) :
    IA c (.region id (l1 ++ ⟨dst, .call ⟨.value fx, #[x], at_⟩, ty, pos, aft, none⟩ :: l2).toArray false) Q (true, k) s := by
  intro hok a w T S M hJ ⟨lt, g, e1, e2, hg⟩
  obtain ⟨y, hy⟩ : ∃ y : Oper, y = ⟨dst, .call ⟨.value fx, #[x], at_⟩, ty, pos, aft, none⟩ := ⟨_, rfl⟩
  rw [← hy] at h ⊢
  refine wpIn_region_lit ?_
  have hev := h (fun s1 => ∃ d, s1.ev fx = .val (.func (.yield c.l) #[] #[]) ∧ pureDs s1.bx s1.rw [s1.ev x] = some d ∧ c.xs[k]? = some d ∧ dstOk s1 dst ∧
      ∀ b : Bool, evOps c.P (l1 ++ y :: l2) l2 (s1.put dst (.bool b)) (fun s2 => Q .normal (b, k + 1) s2)) (fun s1 d h1 h2 h3 h4 h6 => ⟨d, h1, h2, h3, h4, h6⟩)
  refine evOps_pre (c := ⟨c.P, w, S, M, none, fun b => T b ∨ w.heap.size ≤ b, []⟩) (fun s1 a1 w1 hr1 hk1 => ?_) l1 s a w ⟨g, hg⟩ hev
  obtain ⟨g1, hg1⟩ := hr1
  obtain ⟨d, h1, h2, h3, h4, h6⟩ := hk1
  obtain ⟨T1, hi, hr⟩ := IR.next lt hg1
  have hJ1 := hok.ab (true, k) _ _ _ _ _ _ _ _ hJ hi
  have hfx := hg1.ev fx
  rw [h1] at hfx
  generalize hv : a1.eval fx = vf at hfx
  cases hfx
  obtain ⟨q1, q2⟩ := pureDs_get h2
  have hY := hok.rd k T1 g1.S g1.M w1 [a1.eval x] d h3 hJ1 (by rw [q1]; rfl) (fun q dd hq => by
    obtain ⟨z, hz, hp⟩ := q2 q dd hq
    have hq0 : q = 0 := by have := (List.getElem?_eq_some_iff.1 hz).1; simp at this; exact this
    subst hq0
    simp at hz
    subst hz
    exact pureD_rel hg1 (hg1.ev x) hp)
  obtain ⟨fn, tmps, assign, body, hrun, hround⟩ := hY
  show wpListIn Fence.wide 0 c.P _ _ (y :: l2) a1 w1
  unfold wpListIn
  rw [if_pos (by rw [hy]; simp [Region.wanted])]
  refine ⟨fun _ _ => trivial, ?_⟩
  have hsem : (y.semAt Fence.wide.round a1.eval).run c.P w1 = .ok (.round c.l fn tmps assign body) w1 := by
    rw [Oper.semAt_eq _ _ _ (by rw [hy]; intro cl h; cases h), hy]
    simp [execOp, resolve, hv, Deferred.ofValue, invoke, hrun]
  rw [hsem, Oper.uponIn_round]
  refine ⟨fun h => (by cases h), hround.mono ?_⟩
  rintro e w2 ⟨S2, M2, hf, hres⟩
  have hr2 := hr.round hf
  have fin : ∀ b : Bool, JX c.J c.Jx (b, k + 1) T1 S2 M2 w2 → wpListIn Fence.wide 0 c.P (l1 ++ y :: l2).toArray (fun e a' w' => ∃ i' s' T' S' M', JX c.J c.Jx i' T' S' M' w' ∧ IR c.P T' S' M' s' a' w' ∧ Q e i' s') l2 (a1.put y.dst (.bool b)) w2 := by
    intro b hJ2
    obtain ⟨lt2, g2, f1, f2, hg2⟩ := hr2
    have hp2 : RG ⟨c.P, w2, S2, M2, none, fun b => T1 b ∨ w2.heap.size ≤ b, []⟩ (s1.put dst (.bool b)) (a1.put dst (.bool b)) w2 g2 := hg2.put h4 (.bool _ _)
    have hyd : y.dst = dst := by rw [hy]
    rw [hyd]
    refine evOps_sound (c := ⟨c.P, w2, S2, M2, none, fun b => T1 b ∨ w2.heap.size ≤ b, []⟩) (K := fun s2 => Q .normal (b, k + 1) s2) (fun s3 a3 w3 hr3 hk3 => ?_) l2 _ _ _ ⟨g2, hp2⟩ (h6 b)
    obtain ⟨g3, hg3⟩ := hr3
    obtain ⟨T3, hi3, hr3'⟩ := IR.next lt2 hg3
    exact ⟨(b, k + 1), s3, T3, _, _, hok.ab (b, k + 1) _ _ _ _ _ _ _ _ hJ2 hi3, hr3', hk3⟩
  rcases hres with ⟨rfl, hJ2⟩ | ⟨rfl, hJ2⟩
  · exact fin true hJ2
  · exact fin false hJ2
/-- The function's end. -/
def retI (n : Nat) (rs : Array ResultVar) : Exit → Ix → St → Prop
  | .normal, i, _ => (i.1 = true → i.2 = n) ∧ rs = #[]
  | .ret, i, _ => (i.1 = true → i.2 = n) ∧ rs = #[]
  | _, _, _ => False
theorem iter_of_ia {P : Program} {f : FuncId} {fn : Func} {code : Code} {cs : List D} {xs : List (List D)} {n : Nat} {rs : Array ResultVar} (hf : P.funcs[f]? = some fn) (hn : fn.ntmps = n) (hr : fn.results = rs)
    (hc : ∀ (args : Array Value) (w : World), (callFunc f args).run P w = .ok (.enter f args) w) (hb : fn.body = some code) (hl : cs.length + 1 ≤ n)
    (h : ∀ (l : Nat) (J Jx : Nat → Inv), IA ⟨P, l, xs, J, Jx⟩ code (retI xs.length rs) (true, 0) ⟨n, ofL 0 (.val (.func (.yield l) #[] #[]) :: cs), [], []⟩) : Iter P f cs xs := by
  subst hn; subst hr
  refine ⟨hc, fun S M w lb hTb hS hM hlb hrel l J Jx hJa hJxa hY hJ0 => ?_⟩
  refine (callsIn_wide (n := 0)).1 (callsIn_of_wp_marks hf hb trivial ?_)
  have hok : IC.Ok ⟨P, l, xs, J, Jx⟩ := ⟨fun i => by obtain ⟨b, k⟩ := i; cases b; exact hJxa k; exact hJa k, hY⟩
  let args : Array Value := (Value.func (.yield l) #[] #[] :: lb).toArray
  have hw := h l J Jx hok { tmps := args ++ Array.replicate (fn.ntmps - args.size) undef, defers := [] } w (fun _ => False) S M hJ0
    ⟨fun b h => h.elim, ⟨S, [], [], M⟩, rfl, rfl, ⟨⟨⟨List.nodup_nil, fun d hd => by cases hd⟩, hM, fun _ _ h => h, fun _ _ h => .inl h, fun i b h => by simp at h, fun _ _ => rfl, ⟨hTb, fun b vs hv hm => hm.elim (fun hm => hm.elim (fun h => h.elim) (fun hl => absurd (hTb.lt b vs hv) (Nat.not_lt.2 hl))) (fun hm => hm (hTb.noM hM b vs hv))⟩⟩, by simp [args]; omega, .of (Below.refl _ _), fun _ h => .inr h, hS, fun _ h => .inl h, fun _ h => h, hS, rfl, rfl, fun m => ?_, fun i cs hi => by simp at hi, fun i cs hi => by simp at hi, fun i cs hi => by simp at hi, ⟨fun _ => .inl 0, fun i x b hi => by simp at hi, fun r row v gb hr => by simp at hr⟩⟩⟩
  · refine wpIn_mono (F := Fence.wide) hw ?_
    rintro e a' w' ⟨i', s', T', S', M', hJ', ⟨lt, g, rfl, rfl, hg⟩, hq⟩
    have fin : (i'.1 = true → i'.2 = xs.length) → fn.results = #[] → LeavesInM Fence.wide 0 P fn a'.tmps (fun e w' => (∃ v, e = .returned v) ∧ ∃ T S' M', J xs.length T S' M' w' ∨ ∃ k, Jx k T S' M' w') a'.defers .returning w' := fun hi hres => by
      refine marks_leave (c := ⟨P, w', g.S, g.M, none, fun b => T' b ∨ w'.heap.size ≤ b, []⟩) (s := s') (g := g) (ds := []) a'.defers a' w' hg rfl (by rw [hres]; rfl) (fun v w'' hr _ => ?_)
      obtain ⟨T'', hgr, _⟩ := IR.next lt hr
      have hJ2 := hok.ab i' _ _ _ _ _ _ _ _ hJ' hgr
      refine ⟨⟨v, rfl⟩, T'', g.S, g.M, ?_⟩
      obtain ⟨b, k⟩ := i'
      cases b with
      | true =>
        have hk : k = xs.length := hi rfl
        subst hk
        exact .inl hJ2
      | false => exact .inr ⟨k, hJ2⟩
    cases e <;> first | exact fin hq.1 hq.2 | exact hq.elim
  · simp only
    rw [ofL_at]
    simp only [Nat.not_lt_zero, if_false, Nat.sub_zero]
    have e : (args ++ Array.replicate (fn.ntmps - args.size) undef).getD m undef = (Value.func (.yield l) #[] #[] :: lb).getD m undef := by
      simp only [args, Array.getD_eq_getD_getElem?, List.getD_eq_getElem?_getD]
      rw [Array.getElem?_append]
      split
      · simp
      · rename_i hm
        rw [List.getElem?_eq_none (by simpa using hm)]
        simp [Array.getElem?_replicate]
        split <;> rfl
    rw [e]
    cases m with
    | zero => exact .val _ _
    | succ m =>
      simp only [List.getElem?_cons_succ, List.getD_cons_succ]
      cases hd : cs[m]? with
      | none => exact .undef _ _
      | some x => exact hrel m x hd
end Go.Ab
namespace Go.Ab
theorem ia_yieldAt {c : IC} {Q : Exit → Ix → St → Prop} {s : St} {k id : Nat} {l : List Oper} (n : Nat) {fx x : Operand} {dst : Option Tmp} {at_ : Array TypeId} {ty : TypeId} {pos : String} {aft : Array Edge}
    (hl : l = l.take n ++ ⟨dst, .call ⟨.value fx, #[x], at_⟩, ty, pos, aft, none⟩ :: l.drop (n + 1))
    (h : ∀ K1 : St → Prop, (∀ s1 d, s1.ev fx = .val (.func (.yield c.l) #[] #[]) → pureDs s1.bx s1.rw [s1.ev x] = some d → c.xs[k]? = some d → dstOk s1 dst →
        (∀ b : Bool, evOps c.P l (l.drop (n + 1)) (s1.put dst (.bool b)) (fun s2 => Q .normal (b, k + 1) s2)) → K1 s1) →
      evOps c.P l (l.take n) s K1) :
    IA c (.region id l.toArray false) Q (true, k) s := by
  have h2 := ia_yield (c := c) (Q := Q) (s := s) (k := k) (id := id) (l1 := l.take n) (l2 := l.drop (n + 1)) (fx := fx) (x := x) (dst := dst) (at_ := at_) (ty := ty) (pos := pos) (aft := aft)
  rw [← hl] at h2
  exact h2 h
end Go.Ab
namespace Go.Ab
section
variable {P : Program} {b : Frame} {a : Act} {k : List Item} {cs : List Frame} {w : World} {F : Fence} {n : Nat} {Q : Exit → Act → World → Prop}
theorem stepR_scope {c : Code} : step P (lone (b.atR a (.code (.scope c) :: k)) cs w) = .next (lone (b.atR a (.code c :: .inScope c :: k)) cs w) :=
  step_lone_go (by simp [stepG, stepG.exec, Frame.atR])
theorem stepR_inScope {c : Code} : step P (lone (b.atR a (.inScope c :: k)) cs w) = .next (lone (b.atR a k) cs w) :=
  step_lone_go (by simp [stepG, stepG.exec, Frame.atR])
theorem wpIn_scope_straight {c : Code} (h : c.wpIn F n P (Exit.noGoto Q) a w) : (Code.scope c).wpIn F n P Q a w := by
  intro b k cs hro hb hr
  have h0 : (lone (b.atR a (.code (.scope c) :: k)) cs w).fenced P F := fenced_calm hb hr rfl
  obtain ⟨e, a₁, w₁, hq, harr⟩ := h b (.inScope c :: k) cs hro hb hr
  cases e with
  | normal => exact ⟨.normal, a₁, w₁, hq, .head h0 stepR_scope (StepsIn.trans harr (.one (fenced_calm hb hr rfl) stepR_inScope))⟩
  | exit id' =>
    have hx : exitTo id' (.inScope c :: k) = exitTo id' k := by simp [exitTo]
    exact ⟨.exit id', a₁, w₁, hq, fun k' hk => .head h0 stepR_scope (harr.1 k' (by rw [hx]; exact hk)),
      fun hr' hk => let ⟨k₁, h1, h2⟩ := harr.2 hr' (by rw [hx]; exact hk); ⟨k₁, h1, .head h0 stepR_scope h2⟩⟩
  | goto l => exact hq.elim
  | ret => exact ⟨_, a₁, w₁, hq, .of_steps (.one h0 stepR_scope) harr⟩
  | panic ch => exact ⟨_, a₁, w₁, hq, .of_steps (.one h0 stepR_scope) harr⟩
  | outgrown => exact ⟨_, a₁, w₁, hq, .of_steps (.one h0 stepR_scope) harr⟩
end
def noGoI (Q : Exit → Ix → St → Prop) : Exit → Ix → St → Prop
  | .goto _, _, _ => False
  | e, i, s => Q e i s
theorem ia_scope {c : IC} {Q : Exit → Ix → St → Prop} {i : Ix} {s : St} {x : Code} (h : IA c x (noGoI Q) i s) : IA c (.scope x) Q i s := by
  intro hok a w T S M hJ hr
  refine wpIn_scope_straight (wpIn_mono (h hok a w T S M hJ hr) ?_)
  rintro e a' w' ⟨i', s', T', S', M', hJ', r, q⟩
  cases e <;> first | exact ⟨i', s', T', S', M', hJ', r, q⟩ | exact q.elim
theorem ia_label {c : IC} {Q : Exit → Ix → St → Prop} {i : Ix} {s : St} {l : Nat} (h : Q .normal i s) : IA c (.label l) Q i s := fun _ a w T S M hJ hr => wpIn_label ⟨i, s, T, S, M, hJ, hr, h⟩
end Go.Ab
