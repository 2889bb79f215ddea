import Derived.Test.YtmnepfejoneghaaGreatDoorK12
import Derived.Test.YtmnepfejoneghaaGreatDoorK08
set_option linter.unusedVariables false
set_option linter.unusedSimpArgs false
namespace Go.Ab
open Go.RowKit
/-!
  A map of the call's own whose keys are known, while it is built; then it is a map that remembers, with these keys.
-/
/-- Block b is a map with just these keys, each of them true. -/
def HasM (w : World) (b : Nat) (ks : List (List Int)) : Prop := ∃ es cl, w.heap[b]? = some (.map es cl) ∧ (∀ e ∈ es.toList, ∃ k ∈ ks, e.key = mkV true k ∧ e.val = .bool true) ∧ ∀ k ∈ ks, ∃ e ∈ es.toList, e.key = mkV true k
theorem HasM.of {w w' : World} {b : Nat} {ks : List (List Int)} (h : HasM w b ks) (e : w'.heap[b]? = w.heap[b]?) : HasM w' b ks := by
  obtain ⟨es, cl, h1, h2, h3⟩ := h
  exact ⟨es, cl, e.trans h1, h2, h3⟩
structure MR (c : Ctx) (b : Nat) (ks : List (List Int)) (s : St) (a : Act) (w : World) : Prop where
  rg : ∃ g, RG c s a w g ∧ g.M b = none
  m : HasM w b ks
  own : c.own b
  lo : c.w0.heap.size ≤ b
/-- A statement on code beside such a map. -/
def AbM (c : Ctx) (b : Nat) (code : Code) (Q : Exit → St → List (List Int) → Prop) (s : St) (ks : List (List Int)) : Prop :=
  ∀ a w, MR c b ks s a w → code.wpIn c.F 0 c.P (fun e a' w' => ∃ s' ks', MR c b ks' s' a' w' ∧ Q e s' ks') a w
section
variable {c : Ctx} {s : St} {a : Act} {w : World} {g : Gh}
theorem RG.sameM {w' : World} (h : RG c s a w g) (hc : ∀ (b : Nat) (cs : Array Value) (t : TypeId) (fz : Nat × Nat), w.heap[b]? = some (.cells cs t fz) → w'.heap[b]? = some (.cells cs t fz))
    (hm : ∀ b, g.M b ≠ none → w'.heap[b]? = w.heap[b]?) (hb : BelowP c.may c.w0.heap.size c.w0 w') (hd : DefOk c.own w' a.defers) : RG c s a w' g := by
  have hcell : ∀ x, g.S x → w'.cell? x = w.cell? x := fun x hx => by
    obtain ⟨u, hu⟩ := h.good x hx
    obtain ⟨cs, t, fz, hx⟩ := cell_cells hu
    exact World.cell?_of_block ((hc _ _ _ _ hx).trans hx.symm)
  have k : Keeps w g w' g := ⟨hcell, fun _ h => h, fun _ _ h => h, fun _ _ h => h, fun _ _ h => h⟩
  refine ⟨⟨hd, fun b f hf => ?_, h.df.m0, h.df.mfrom, h.df.anc, fun x hx => (hcell x (h.S0 x hx)).trans (h.df.kp0 x hx), h.df.tab⟩, h.sz, hb, h.own0, fun x hx => ?_, h.from0, h.S0, h.good0, h.lβ, h.lρ, fun n => (h.sl n).keep k, ?_, ?_, ?_, h.ap⟩
  · obtain ⟨es, cl, h1, h2⟩ := h.df.mok b f hf
    exact ⟨es, cl, (hm b (by rw [hf]; simp)).trans h1, h2⟩
  · obtain ⟨u, hu⟩ := h.good x hx
    exact ⟨u, (hcell x hx).trans hu⟩
  · intro i cs hi
    obtain ⟨b, vs, t, e1, e2, e3, e4, e5, e6⟩ := (h.bx i cs hi).ex
    exact ⟨b, vs, t, e1, hc _ _ _ _ e2, e3.keep k, e4, e5, e6⟩
  · intro i cs hi
    obtain ⟨b, vs, t, e1, e2, e3, e4, e5, e6⟩ := (h.fz i cs hi).ex
    exact ⟨b, vs, t, e1, hc _ _ _ _ e2, e3.keep k.er, e4, e5, e6⟩
  · intro r row hr
    obtain ⟨v, e1, e2, e3⟩ := (h.rw r row hr).ex
    refine ⟨v, e1, e2.keep k, fun hl => ?_⟩
    obtain ⟨⟨vals, hown⟩, hcl, hS⟩ := e3 hl
    refine ⟨⟨vals, hown.1, ?_⟩, hcl, hS⟩
    rcases hown.2 with hn | ⟨g, cap, cur, rfl, hg, hgg, rest⟩
    · exact .inl hn
    · exact .inr ⟨g, cap, cur, rfl, hg, hc _ _ _ _ hgg, rest⟩
/-- The same frame, seen from here, a map set aside. -/
def aside (c : Ctx) (b : Nat) (w : World) (g : Gh) : Ctx := ⟨c.P, w, g.S, g.M, c.l, fun x => w.heap.size ≤ x ∨ (c.own x ∧ x ≠ b), g.β⟩
theorem RG.asideIn {b : Nat} {es : Array MapEntry} {cl : Nat} (h : RG c s a w g) (hb : w.heap[b]? = some (.map es cl)) : RG (aside c b w g) s a w g := by
  have hnc : ∀ {x : Nat} {vs : Array Value} {t : TypeId} {fz : Nat × Nat}, w.heap[x]? = some (.cells vs t fz) → x ≠ b := fun hx e => by subst e; rw [hb] at hx; cases hx
  refine ⟨⟨⟨h.df.dok.1, fun d hd => ?_⟩, h.df.mok, fun _ _ h => h, fun _ _ h => .inl h, fun _ _ h => h, fun _ _ => rfl, h.df.tab.own h.below h.df.mok (fun b hb => hb.elim .inl fun h1 => .inr (.inl h1.1))⟩, h.sz, .of (Below.refl _ _), fun _ h => .inl h, h.good, fun _ h => .inl h, fun _ h => h, h.good, h.lβ, h.lρ, h.sl, fun i cs hi => ?_, fun i cs hi => ?_, fun r row hr => ?_, h.ap⟩
  · obtain ⟨D, hB, e, hD⟩ := h.df.dok.2 d hd
    exact ⟨D, .inr ⟨hB, fun e => by subst e; rw [hb] at hD; cases hD⟩, e, hD⟩
  · obtain ⟨b', vs, t, e1, e2, e3, e4, e5⟩ := (h.bx i cs hi).ex
    exact ⟨b', vs, t, e1, e2, e3, .inr ⟨e4, hnc e2⟩, e5⟩
  · obtain ⟨b', vs, t, e1, e2, e3, e4, e5⟩ := (h.fz i cs hi).ex
    exact ⟨b', vs, t, e1, e2, e3, .inr ⟨e4, hnc e2⟩, e5⟩
  · obtain ⟨v, e1, e2, e3⟩ := (h.rw r row hr).ex
    refine ⟨v, e1, e2, fun hl => ?_⟩
    obtain ⟨h1, h2, h3⟩ := e3 hl
    refine ⟨h1, h2, fun gb hgb => ⟨.inr ⟨(h3 gb hgb).1, ?_⟩, (h3 gb hgb).2⟩⟩
    obtain ⟨vals, hown⟩ := h1
    rcases hown.2 with ⟨rfl, _⟩ | ⟨g2, cap, cur, rfl, _, hgg, _⟩
    · simp [Value.ownBlock] at hgb
    · simp [Value.ownBlock] at hgb
      subst hgb
      exact hnc hgg
theorem RG.asideOut {b : Nat} {s2 : St} {a2 : Act} {w2 : World} {g2 : Gh} (h : RG c s a w g) (h2 : RG (aside c b w g) s2 a2 w2 g2) : RG c s2 a2 w2 g2 := by
  have hsz : c.w0.heap.size ≤ w.heap.size := h.below.size
  have hown : ∀ x, (w.heap.size ≤ x ∨ (c.own x ∧ x ≠ b)) → c.own x := fun x hx => hx.elim (fun h1 => h.own0 x (Nat.le_trans hsz h1)) (fun h1 => h1.1)
  refine ⟨⟨⟨h2.df.dok.1, fun d hd => ?_⟩, h2.df.mok, fun b f hb => h2.df.m0 b f (h.df.m0 b f hb), fun x f hb => ?_, fun i x hb => h2.df.anc i x (h.df.anc i x hb), fun x hx => (h2.df.kp0 x (h.S0 x hx)).trans (h.df.kp0 x hx), h.df.tab⟩, h2.sz,
    h.below.trans h2.below hsz (fun i hi hn => ?_), h.own0, h2.good, fun x hx => ?_, fun x hx => h2.S0 x (h.S0 x hx), h.good0, h2.lβ, h2.lρ, h2.sl, fun i cs hi => ?_, fun i cs hi => ?_, fun r row hr => ?_, h2.ap⟩
  · obtain ⟨D, hB, e, hD⟩ := h2.df.dok.2 d hd
    exact ⟨D, hown D hB, e, hD⟩
  · rcases h2.df.mfrom x f hb with h1 | h1
    · exact h.df.mfrom x f h1
    · exact .inr (Nat.le_trans hsz h1)
  · rcases hn with hn | hn
    · exact .inl (hown i hn)
    · cases hm : g.M i with
      | none => exact (hn hm).elim
      | some f => rcases h.df.mfrom i f hm with h1 | h1
                  · exact .inr (by rw [h1]; simp)
                  · omega
  · rcases h2.from0 x hx with h1 | h1
    · exact h.from0 x h1
    · exact .inr (hown _ h1)
  · obtain ⟨x, vs, t, e1, e2, e3, e4, e5⟩ := (h2.bx i cs hi).ex
    exact ⟨x, vs, t, e1, e2, e3, hown x e4, e5⟩
  · obtain ⟨x, vs, t, e1, e2, e3, e4, e5⟩ := (h2.fz i cs hi).ex
    exact ⟨x, vs, t, e1, e2, e3, hown x e4, e5⟩
  · obtain ⟨v, e1, e2, e3⟩ := (h2.rw r row hr).ex
    refine ⟨v, e1, e2, fun hl => ?_⟩
    obtain ⟨h3, h4, h5⟩ := e3 hl
    exact ⟨h3, h4, fun gb hgb => ⟨hown gb (h5 gb hgb).1, (h5 gb hgb).2⟩⟩
/-- What a piece of the frame leaves of the map that was set aside. -/
theorem aside_keeps {b : Nat} {ks : List (List Int)} {s2 : St} {a2 : Act} {w2 : World} {g2 : Gh} (h : RG c s a w g) (hm : g.M b = none) (hM : HasM w b ks) (ho : c.own b) (lo : c.w0.heap.size ≤ b) (h2 : RG (aside c b w g) s2 a2 w2 g2) : MR c b ks s2 a2 w2 := by
  obtain ⟨es, cl, hb, hr⟩ := hM
  have hlt : b < w.heap.size := (Array.getElem?_eq_some_iff.1 hb).1
  have hk : w2.heap[b]? = w.heap[b]? := h2.below.block b hlt (fun hn => hn.elim (fun hn => hn.elim (fun hn => absurd (show w.heap.size ≤ b from hn) (Nat.not_le_of_lt hlt)) (fun hn => hn.2 rfl)) (fun hn => hn hm))
  refine ⟨⟨g2, h.asideOut h2, ?_⟩, HasM.of ⟨es, cl, hb, hr⟩ hk, ho, lo⟩
  cases hmb : g2.M b with
  | none => rfl
  | some f =>
    rcases h2.df.mfrom b f hmb with h1 | h1
    · rw [show (aside c b w g).M0 = g.M from rfl, hm] at h1; cases h1
    · exact absurd (show w.heap.size ≤ b from h1) (Nat.not_le_of_lt hlt)
end
section rules
variable {c : Ctx} {b : Nat} {Q : Exit → St → List (List Int) → Prop} {s : St} {ks : List (List Int)}
theorem absm_piece {code : Code} (h : ∀ (w0 : World) (S0 : Addr → Prop) (M0 : MM) (own : Nat → Prop) (β : List Nat), β.length = s.bx.length → Abs ⟨c.P, w0, S0, M0, c.l, own, β⟩ code (fun e s' => Q e s' ks) s) : AbM c b code Q s ks := by
  intro a w ⟨⟨g, hg, hm⟩, hM, ho, lo⟩
  obtain ⟨es, cl, hb, hr⟩ := hM
  have hA := h w g.S g.M _ g.β hg.lβ a w ⟨g, hg.asideIn (b := b) hb⟩
  refine wpIn_mono hA ?_
  rintro e a' w' ⟨s', ⟨g', hg'⟩, hq⟩
  exact ⟨s', ks, aside_keeps hg hm ⟨es, cl, hb, hr⟩ ho lo hg', hq⟩
theorem absm_skip (h : Q .normal s ks) : AbM c b .skip Q s ks := fun _ _ hr => wpIn_skip ⟨s, ks, hr, h⟩
theorem absm_exit {id : Nat} (h : Q (.exit id) s ks) : AbM c b (.exit id) Q s ks := fun _ _ hr => wpIn_exit ⟨s, ks, hr, h⟩
def thenM (K : St → List (List Int) → Prop) (Q : Exit → St → List (List Int) → Prop) : Exit → St → List (List Int) → Prop
  | .normal, s, ks => K s ks
  | e, s, ks => Q e s ks
def blockM (id : Nat) (Q : Exit → St → List (List Int) → Prop) : Exit → St → List (List Int) → Prop
  | .exit id', s, ks => if id' = id then Q .normal s ks else Q (.exit id') s ks
  | e, s, ks => Q e s ks
theorem absm_seq {x y : Code} (h : AbM c b x (thenM (AbM c b y Q) Q) s ks) : AbM c b (.seq x y) Q s ks := by
  intro a w hr
  refine wpIn_seq (wpIn_mono (h a w hr) ?_)
  rintro e a' w' ⟨s', ks', r, q⟩
  cases e with
  | normal => exact q a' w' r
  | exit id => exact ⟨s', ks', r, q⟩
  | goto l => exact ⟨s', ks', r, q⟩
  | ret => exact ⟨s', ks', r, q⟩
  | panic ch => exact ⟨s', ks', r, q⟩
  | outgrown => exact ⟨s', ks', r, q⟩
theorem absm_block {id : Nat} {x : Code} (h : AbM c b x (blockM id Q) s ks) : AbM c b (.block id x) Q s ks := by
  intro a w hr
  refine wpIn_block (wpIn_mono (h a w hr) ?_)
  rintro e a' w' ⟨s', ks', r, q⟩
  cases e with
  | normal => exact ⟨s', ks', r, q⟩
  | exit id' =>
    simp only [blockM] at q
    simp only [Exit.inBlock]
    split at q
    · rw [if_pos (by assumption)]; exact ⟨s', ks', r, q⟩
    · rw [if_neg (by assumption)]; exact ⟨s', ks', r, q⟩
  | goto l => exact ⟨s', ks', r, q⟩
  | ret => exact ⟨s', ks', r, q⟩
  | panic ch => exact ⟨s', ks', r, q⟩
  | outgrown => exact ⟨s', ks', r, q⟩
theorem absm_if {x : Operand} {t e : Code} (h : wBool (s.ev x) fun v => (v = true → AbM c b t Q s ks) ∧ (v = false → AbM c b e Q s ks)) : AbM c b (.cond x t e) Q s ks := by
  intro a w hr
  cases hs : s.ev x <;> rw [hs] at h <;> simp only [wBool] at h
  obtain ⟨g, hg, _⟩ := hr.rg
  have hv := hg.ev x
  rw [hs] at hv
  exact wpIn_cond_split hv.asBool (fun hh => h.1 hh a w hr) (fun hh => h.2 hh a w hr)
theorem absm_loop {body : Code} {ι : Type} {n : Nat} (l : ι → List (Nat × D)) (bx : ι → List Bx) (kf : ι → List (List Int)) (p : ι → Prop) (μ : ι → Nat)
    (hn : ∀ i, p i → ((l i).all fun q => namesB (bx i).length 0 q.2) = true ∧ namesBx (bx i).length 0 (bx i) = true) (hβ : ∀ i, p i → c.β0.length ≤ (bx i).length)
    (i0 : ι) (h0 : p i0) (hk : ks = kf i0) (hle : Le s (mkSt n (l i0) (bx i0) []))
    (round : ∀ i, p i → AbM c b body (thenM (fun s' ks' => ∃ j, p j ∧ μ j < μ i ∧ ks' = kf j ∧ Le s' (mkSt n (l j) (bx j) [])) Q) ⟨n, (l i).foldr (fun p f => put f p.1 p.2) none', bx i, []⟩ (kf i)) : AbM c b (.loop body) Q s ks := by
  subst hk
  have le : ∀ {i : ι} {s' : St} {a : Act} {w : World}, p i → MR c b (kf i) s' a w → Le s' (mkSt n (l i) (bx i) []) → MR c b (kf i) (mkSt n (l i) (bx i) []) a w := fun {i s' a w} hp hr hl => by
    obtain ⟨⟨g, hg, hm⟩, h2, h3, h4⟩ := hr
    exact ⟨⟨_, hg.le hl (named_of (hn i hp).1 (hn i hp).2) (hβ i hp), hm⟩, h2, h3, h4⟩
  intro a w hr
  refine wp_loop_ix (fun i a w => p i ∧ MR c b (kf i) (mkSt n (l i) (bx i) []) a w) μ (fun i a w ⟨hp, hr⟩ => ?_) i0 ⟨h0, le h0 hr hle⟩
  refine wpIn_mono (round i hp a w hr) ?_
  rintro e a' w' ⟨s', ks', r, q⟩
  cases e with
  | normal =>
    obtain ⟨j, hj, hlt, hk, hl⟩ := q
    subst hk
    exact ⟨j, ⟨hj, le hj r hl⟩, hlt⟩
  | exit id => exact ⟨s', ks', r, q⟩
  | goto l => exact ⟨s', ks', r, q⟩
  | ret => exact ⟨s', ks', r, q⟩
  | panic ch => exact ⟨s', ks', r, q⟩
  | outgrown => exact ⟨s', ks', r, q⟩
/-- A key more. -/
theorem absm_update {id m n : Nat} {l : List Oper} {t kt e ty : TypeId} {x y : Operand} {pos : String} {aft : Array Edge}
    (hl : l = l.take m ++ [⟨none, .mapUpdate t x y (.const (.bool true)), ty, pos, aft, none⟩]) (hm : mapOf c.P t = some (kt, e)) (hK : KeyOk c.P kt true n) (hks : ∀ k ∈ ks, k.length = n)
    (h : ∀ K1 : St → Prop, (∀ s1 k, s1.ev x = .val (.map (some b)) → keyInts true (s1.ev y) = some k → k.length = n → k ∉ ks → Q .normal s1 (ks ++ [k]) → K1 s1) → evOps c.P l (l.take m) s K1) : AbM c b (.region id l.toArray false) Q s ks := by
  intro a w ⟨⟨g, hg, hmn⟩, hM, ho, lo⟩
  obtain ⟨es, cl, hb, hr1, hr2⟩ := hM
  refine wpIn_region_lit ?_
  obtain ⟨yo, hyo⟩ : ∃ yo : Oper, yo = ⟨none, .mapUpdate t x y (.const (.bool true)), ty, pos, aft, none⟩ := ⟨_, rfl⟩
  rw [← hyo] at hl
  have hev := h (fun s1 => ∃ k, s1.ev x = .val (.map (some b)) ∧ keyInts true (s1.ev y) = some k ∧ k.length = n ∧ k ∉ ks ∧ Q .normal s1 (ks ++ [k])) (fun s1 k h1 h2 h3 h4 h5 => ⟨k, h1, h2, h3, h4, h5⟩)
  have hF : (aside c b w g).F = c.F := rfl
  have hP : (aside c b w g).P = c.P := rfl
  rw [show l.toArray = (l.take m ++ [yo]).toArray by rw [← hl]] 
  rw [hl] at hev
  have hl1 : (l.take m ++ [yo]).take m = l.take m := by rw [← hl]
  rw [hl1] at hev
  conv => arg 6; rw [hl]
  generalize l.take m = l1 at *
  refine evOps_pre (c := aside c b w g) (ops := (l1 ++ [yo]).toArray) (Q := fun e a' w' => ∃ s' ks', MR c b ks' s' a' w' ∧ Q e s' ks') (rest := [yo]) (fun s1 a1 w1 hr hk1 => ?_) l1 s a w ⟨g, hg.asideIn (b := b) hb⟩ hev
  obtain ⟨g1, hg1⟩ := hr
  obtain ⟨k, h1, h2, h3, h4, h5⟩ := hk1
  obtain ⟨⟨g2, hg2, hm2⟩, ⟨es2, cl2, hb2, hr3, hr4⟩, _, _⟩ := aside_keeps (ks := ks) hg hmn ⟨es, cl, hb, hr1, hr2⟩ ho lo hg1
  have hxv := hg2.ev x
  rw [h1] at hxv
  generalize hvx : a1.eval x = vx at hxv
  cases hxv
  have hky := keyInts_rel (hg2.ev y) h2
  obtain ⟨r, hr, hcase⟩ := hK.find k es2.toList w1 h3 (fun e he => by obtain ⟨k', hk', e1, _⟩ := hr3 e he; exact ⟨k', hks k' hk', e1⟩)
  have hu := mapOf_u hm
  have hck := fun e => hK.check e k w1 h3
  rcases hcase with ⟨rfl, hnone⟩ | ⟨i, e0, he0, hke, rfl⟩
  rotate_left
  · obtain ⟨k', hk', e1, _⟩ := hr3 e0 (List.mem_of_getElem? he0)
    have : k' = k := hK.inj k' k (hks k' hk') h3 (e1.symm.trans hke)
    subst this
    exact absurd hk' h4
  have hz : a1.eval (.const (.bool true)) = .bool true := rfl
  have hrun : (execOp a1.eval yo).run c.P w1 = .ok .skip (w1.putObj b (.map (es2.push { key := mkV true k, val := .bool true, born := cl2 }) (cl2 + 1))) := by
    simp [execOp, hyo, hvx, hky, hz, Instr.mapUpdate, run_underlying hu, MapKept.run_getObj_map hb2, hck, hr, MapKept.run_setObj_map _ hb2, World.putObj]
  have hlt : b < w1.heap.size := (Array.getElem?_eq_some_iff.1 hb2).1
  have hoth : ∀ x, x ≠ b → (w1.putObj b (.map (es2.push { key := mkV true k, val := .bool true, born := cl2 }) (cl2 + 1))).heap[x]? = w1.heap[x]? := fun x hx => World.putObj_heap_other hx
  have hfin : MR c b (ks ++ [k]) s1 a1 (w1.putObj b (.map (es2.push { key := mkV true k, val := .bool true, born := cl2 }) (cl2 + 1))) := by
    refine ⟨⟨g2, hg2.sameM (fun x cs t fz hx => ?_) (fun x hx => hoth x (fun e => by subst e; exact hx hm2)) ?_ ⟨hg2.df.dok.1, fun d hd => ?_⟩, hm2⟩, ⟨_, _, World.putObj_heap_same hlt, fun e he => ?_, fun k' hk' => ?_⟩, ho, lo⟩
    · rw [hoth x (fun e => by subst e; rw [hb2] at hx; cases hx)]; exact hx
    · have hgb := grownBy_putObj' w1 b (.map (es2.push { key := mkV true k, val := .bool true, born := cl2 }) (cl2 + 1))
      exact ⟨hgb.os.trans hg2.below.os, hgb.tape.trans hg2.below.tape, hgb.output.trans hg2.below.output, Nat.le_trans hg2.below.size hgb.size, fun x hx hn => (hoth x (fun e => by subst e; omega)).trans (hg2.below.block x hx hn)⟩
    · obtain ⟨D, hB, e, hD⟩ := hg2.df.dok.2 d hd
      exact ⟨D, hB, e, by rw [hoth D (fun e => by subst e; rw [hb2] at hD; cases hD)]; exact hD⟩
    · simp only [Array.toList_push, List.mem_append, List.mem_singleton] at he
      rcases he with he | rfl
      · obtain ⟨k', hk', e1⟩ := hr3 e he
        exact ⟨k', List.mem_append_left _ hk', e1⟩
      · exact ⟨k, by simp, rfl, rfl⟩
    · simp only [Array.toList_push, List.mem_append, List.mem_singleton] at hk' ⊢
      rcases hk' with hk' | rfl
      · obtain ⟨e, he, e1⟩ := hr4 k' hk'
        exact ⟨e, .inl he, e1⟩
      · exact ⟨_, .inr rfl, rfl⟩
  show wpListIn c.F 0 c.P _ _ [yo] a1 w1
  unfold wpListIn
  rw [if_pos (by rw [hyo]; simp [Region.wanted])]
  refine op_in (c := c) (by rw [hyo]; intro cl h; cases h) ?_
  unfold Oper.wp
  rw [hrun]
  have hyd : yo.dst = none := by rw [hyo]
  simp only [Oper.upon, hyd]
  exact ⟨s1, _, hfin, h5⟩
/-- The map is built: from here on it remembers. -/
theorem absm_close {code : Code} {Q' : Exit → St → Prop} (n : Nat) (kn : Nat) (f : List Int → List Int) (hs : s.sl n = .val (.map (some b))) (hks : ∀ k ∈ ks, k.length = kn ∧ (f k).headD 0 ≠ 0)
    (h : Abs c code Q' { s with sl := put s.sl n (.memo ⟨true, .yes, kn, f, ks⟩) }) {a : Act} {w : World} (hr : MR c b ks s a w) : code.wpIn c.F 0 c.P (fun e a' w' => ∃ s', R c s' a' w' ∧ Q' e s') a w := by
  obtain ⟨⟨g, hg, hm⟩, ⟨es, cl, hb, hr1, hr2⟩, ho, lo⟩ := hr
  have hM' : ∀ x fm, g.M x = some fm → (fun x => if x = b then some (⟨true, .yes, kn, f, ks⟩ : Memo) else g.M x) x = some fm := fun x fm hx => by
    have : x ≠ b := fun e => by subst e; rw [hm] at hx; cases hx
    simp [this, hx]
  have k : Keeps w g w ⟨g.S, g.β, g.ρ, fun x => if x = b then some ⟨true, .yes, kn, f, ks⟩ else g.M x⟩ := ⟨fun _ _ => rfl, fun _ h => h, fun _ _ h => h, fun _ _ h => h, hM'⟩
  refine h a w ⟨⟨g.S, g.β, g.ρ, fun x => if x = b then some ⟨true, .yes, kn, f, ks⟩ else g.M x⟩, ⟨hg.df.dok, fun x fm hx => ?_, fun x fm hx => hM' x fm (hg.df.m0 x fm hx), fun x fm hx => ?_, hg.df.anc, hg.df.kp0, hg.df.tab⟩, hg.sz, hg.below, hg.own0, hg.good, hg.from0, hg.S0, hg.good0, hg.lβ, hg.lρ, fun m => ?_, fun i cs hi => ?_, fun i cs hi => ?_, fun r row hr => ?_, hg.ap⟩
  · by_cases e : x = b
    · subst e
      simp only [if_true, Option.some.injEq] at hx
      subst hx
      refine ⟨es, cl, hb, fun e he => ?_, hr2⟩
      obtain ⟨k', hk', e1, e2⟩ := hr1 e he
      obtain ⟨q1, q2⟩ := hks k' hk'
      exact ⟨k', q1, e1, by rw [e2]; show Value.bool true = Value.bool ((f k').headD 0 != 0); rw [bne_iff_ne.2 q2]⟩
    · simp only [e, if_false] at hx
      exact hg.df.mok x fm hx
  · by_cases e : x = b
    · subst e; exact .inr lo
    · simp only [e, if_false] at hx
      exact hg.df.mfrom x fm hx
  · simp only [put]
    by_cases e : m = n
    · subst e
      rw [if_pos rfl]
      have := hg.sl m
      rw [hs] at this
      generalize a.tmps.getD m undef = v at this
      cases this
      exact .memo _ _ _ (by simp)
    · rw [if_neg e]; exact (hg.sl m).keep k
  · obtain ⟨x, vs, t, e1, e2, e3, e4, e5⟩ := (hg.bx i cs hi).ex
    exact ⟨x, vs, t, e1, e2, e3.keep k, e4, e5⟩
  · obtain ⟨x, vs, t, e1, e2, e3, e4, e5⟩ := (hg.fz i cs hi).ex
    exact ⟨x, vs, t, e1, e2, e3.keep k.er, e4, e5⟩
  · obtain ⟨v, e1, e2, e3⟩ := (hg.rw r row hr).ex
    exact ⟨v, e1, e2.keep k, e3⟩
/-- A map is made; what follows is said beside it. -/
theorem abs_openM {y : Code} {t ty ty2 : TypeId} {d1 d2 : Tmp} {pos pos2 : String} {aft aft2 : Array Edge} {id : Nat} {Q' : Exit → St → Prop} (hd1 : dstOk s (some d1)) (hd2 : dstOk s (some d2))
    (h : ∀ b a w, MR c b [] ((s.put (some d1) (.val (.map (some b)))).put (some d2) (.val (.map (some b)))) a w → y.wpIn c.F 0 c.P (fun e a' w' => ∃ s', R c s' a' w' ∧ Q' e s') a w) :
    Abs c (.seq (.region id #[⟨some d1, .makeMap t none, ty, pos, aft, none⟩, ⟨some d2, .assign (.tmp d1), ty2, pos2, aft2, none⟩] false) y) Q' s := by
  rintro a w ⟨g, hg⟩
  refine wpIn_seq (wpIn_region_lit (l := [⟨some d1, .makeMap t none, ty, pos, aft, none⟩, ⟨some d2, .assign (.tmp d1), ty2, pos2, aft2, none⟩]) ?_)
  unfold wpListIn
  rw [if_pos (by simp [Region.wanted])]
  refine op_in (c := c) (fun cl h => by cases h) ?_
  have hrun : (execOp a.eval ⟨some d1, .makeMap t none, ty, pos, aft, none⟩).run c.P w = .ok (.value (.map (some w.heap.size))) (w.alloc (.map #[] 0)) := by simp [execOp, Instr.makeMap]
  unfold Oper.wp
  rw [hrun]
  have hb := below_alloc w (.map #[] 0)
  have hnew : (w.alloc (.map #[] 0)).heap[w.heap.size]? = some (.map #[] 0) := World.alloc_heap_new w _
  have hg1 : RG c s a (w.alloc (.map #[] 0)) g := hg.world hb (fun _ h => h) (fun _ h => .inl h) (hg.good.below hb)
  have hsz : c.w0.heap.size ≤ w.heap.size := hg.below.size
  have hmn : g.M w.heap.size = none := by
    cases hm : g.M w.heap.size with
    | none => rfl
    | some f =>
      obtain ⟨es, cl, h1, _⟩ := hg.df.mok _ f hm
      have := (Array.getElem?_eq_some_iff.1 h1).1
      omega
  have hg2 := hg1.put (d := .val (.map (some w.heap.size))) hd1 (.val _ _)
  have hM : HasM (w.alloc (.map #[] 0)) w.heap.size [] := ⟨#[], 0, hnew, fun e he => by simp at he, fun k hk => by cases hk⟩
  show wpListIn c.F 0 c.P _ _ [_] (a.put (some d1) (.map (some w.heap.size))) _
  refine evOps_sound (c := aside c w.heap.size (w.alloc (.map #[] 0)) g) (K := fun s' => s' = (s.put (some d1) (.val (.map (some w.heap.size)))).put (some d2) (.val (.map (some w.heap.size)))) (ops := #[⟨some d1, .makeMap t none, ty, pos, aft, none⟩, ⟨some d2, .assign (.tmp d1), ty2, pos2, aft2, none⟩]) (fun s' a' w' hr' e => by
    obtain ⟨g', hg'⟩ := hr'
    subst e
    exact h _ _ _ (aside_keeps hg2 hmn hM (hg.own0 _ hsz) hsz hg')) _ _ _ _ ⟨g, hg2.asideIn hnew⟩ ?_
  simp only [evOps, stepOp, opB, opA]
  refine ⟨hd2, ?_⟩
  simp [St.ev, St.put, put]
end rules
end Go.Ab
namespace Go.Ab
open Go.RowKit
/-!
  Steps between states that no code does; in an iterator too.
-/
section
variable {c : Ctx} {s : St}
/-- A box that is written no more: its cells may be handed on. -/
theorem R_freeze (i : Nat) (cs cs' : List D) (hi : s.bx[i]? = some (.mu cs)) (hp : pureL s.bx s.rw cs = some cs')
    {a : Act} {w : World} (h : R c s a w) : R c { s with bx := s.bx.set i (.fz cs') } a w := by
  obtain ⟨g, hg⟩ := h
  obtain ⟨b, vs, t, e1, e2, e3, e4, e5, _⟩ := (hg.bx i cs hi).ex
  have e3 : CellsR w g vs cs := e3
  obtain ⟨p1, p2⟩ := pureL_get hp
  let S' : Addr → Prop := fun x => g.S x ∨ ∃ q, q < cs.length ∧ x = ⟨b, q, none⟩
  have hil : i < s.bx.length := (List.getElem?_eq_some_iff.1 hi).1
  have k : Keeps w g w ⟨S', g.β, g.ρ, g.M⟩ := ⟨fun _ _ => rfl, fun _ h => .inl h, fun _ _ h => h, fun _ _ h => h, fun _ _ h => h⟩
  obtain ⟨κ, k1, k2⟩ := hg.ap
  have hold : ∀ (j : Nat) (x : Bx), (s.bx.set i (.fz cs'))[j]? = some x → (j = i ∧ x = .fz cs') ∨ (j ≠ i ∧ s.bx[j]? = some x) := fun j x hj => by
    by_cases hji : j = i
    · subst hji
      rw [List.getElem?_set_self hil] at hj
      exact .inl ⟨rfl, (Option.some.inj hj).symm⟩
    · rw [List.getElem?_set_ne (Ne.symm hji)] at hj
      exact .inr ⟨hji, hj⟩
  have hbsz : b < w.heap.size := (Array.getElem?_eq_some_iff.1 e2).1
  refine ⟨⟨S', g.β, g.ρ, g.M⟩, hg.df.gh rfl, hg.sz, hg.below, hg.own0, fun x hx => ?_, fun x hx => ?_, fun x hx => .inl (hg.S0 x hx), hg.good0, by simp [hg.lβ], hg.lρ, fun n => (hg.sl n).keep k, ?_, ?_, ?_, ?_⟩
  · rcases hx with hx | ⟨q, hq, rfl⟩
    · exact hg.good x hx
    · rw [cell_of_row w b q vs t (0, 0) e2]
      have : q < vs.size := by rw [e3.1]; exact hq
      exact ⟨vs[q], by simp [this]⟩
  · rcases hx with hx | ⟨q, _, rfl⟩
    · exact hg.from0 x hx
    · exact .inr e4
  · intro j ds hj
    rcases hold j _ hj with ⟨_, e⟩ | ⟨hji, hj⟩
    · cases e
    · obtain ⟨b', vs', t', f1, f2, f3, f4, f5, f6⟩ := (hg.bx j ds hj).ex
      refine ⟨b', vs', t', f1, f2, f3.keep k, f4, fun _ x hx => ?_, fun h => by cases h⟩
      rcases hx with hx | ⟨q, _, rfl⟩
      · exact f5 rfl x hx
      · intro e
        simp at e; subst e
        have q1 := k1 i _ b hi rfl e1
        have q2 := k1 j _ b hj rfl f1
        rw [q1] at q2; injection q2 with q2; exact hji q2.symm
  · intro j ds hj
    rcases hold j _ hj with ⟨rfl, e⟩ | ⟨hji, hj⟩
    · cases e
      refine ⟨b, vs, t, e1, e2, ⟨by rw [e3.1, p1], fun q d hd => ?_⟩, e4, (fun h => by cases h), fun _ q hq => .inr ⟨q, by rw [← p1]; exact hq, rfl⟩⟩
      obtain ⟨d0, hd0, hpd⟩ := p2 q d hd
      exact ⟨(pureA_rel hg (e3.2 q d0 hd0).1 hpd).keep k.er, (e3.2 q d0 hd0).2⟩
    · obtain ⟨b', vs', t', f1, f2, f3, f4, f5, f6⟩ := (hg.fz j ds hj).ex
      exact ⟨b', vs', t', f1, f2, f3.keep k.er, f4, (fun h => by cases h), fun _ q hq => .inl (f6 rfl q hq)⟩
  · intro r row hr
    obtain ⟨v, f1, f2, f3⟩ := (hg.rw r row hr).ex
    refine ⟨v, f1, f2.keep k, fun hl => ?_⟩
    obtain ⟨ho, hcl, hS⟩ := f3 hl
    refine ⟨ho, hcl, fun gb hgb => ⟨(hS gb hgb).1, fun x hx hxb => ?_⟩⟩
    rcases hx with hx | ⟨q, _, rfl⟩
    · exact (hS gb hgb).2 x hx hxb
    · simp at hxb; subst hxb
      have q1 := k1 i _ b hi rfl e1
      have q2 := k2 r row v b hr hl f1 hgb
      rw [q1] at q2; cases q2
  · refine ⟨κ, fun j x b' hj hx hb' => ?_, k2⟩
    rcases hold j _ hj with ⟨rfl, e⟩ | ⟨hji, hj⟩
    · exact k1 j _ b' hi rfl hb'
    · exact k1 j x b' hj hx hb'
/-- A slot that holds what others may hold too. -/
theorem R_pure (n : Nat) (d : D) (hp : pureD s.bx s.rw (s.sl n) = some d) {a : Act} {w : World} (h : R c s a w) : R c { s with sl := put s.sl n d } a w := by
  obtain ⟨g, hg⟩ := h
  refine ⟨g, hg.df, hg.sz, hg.below, hg.own0, hg.good, hg.from0, hg.S0, hg.good0, hg.lβ, hg.lρ, fun m => ?_, hg.bx, hg.fz, hg.rw, hg.ap⟩
  simp only [put]
  by_cases hm : m = n
  · subst hm
    rw [if_pos rfl]
    exact (pureD_rel hg (hg.sl m) hp).keep (er_up w g.S g.β g.ρ g.M)
  · rw [if_neg hm]; exact hg.sl m
end
theorem ia_weak {c : IC} {code : Code} {Q : Exit → Ix → St → Prop} {i : Ix} {s : St} (s' : St) (hR : ∀ (x : Ctx) (a : Act) (w : World), R x s a w → R x s' a w) (h : IA c code Q i s') : IA c code Q i s := by
  intro hok a w T S M hJ ⟨lt, g, e1, e2, hg⟩
  obtain ⟨g', hg'⟩ := hR _ a w ⟨g, hg⟩
  obtain ⟨T', hi, hr⟩ := IR.next lt hg'
  exact h hok a w T' _ _ (hok.ab i _ _ _ _ _ _ _ _ hJ hi) hr
end Go.Ab
section
namespace Go.Ab
open Go.RowKit
/-- A relation of states to worlds that the plain layer's steps keep. -/
def ROk (P : Program) {ι : Type} (RR : ι → St → Act → World → Prop) : Prop :=
  ∀ i s a w, RR i s a w → ∃ (w0 : World) (S0 : Addr → Prop) (M0 : MM) (own : Nat → Prop), R ⟨P, w0, S0, M0, none, own, []⟩ s a w ∧ ∀ s' a' w', R ⟨P, w0, S0, M0, none, own, []⟩ s' a' w' → RR i s' a' w'
section
variable {P : Program} {ι : Type} {RR : ι → St → Act → World → Prop} {Q : Exit → ι → St → Prop} {i : ι} {s : St}
theorem ROk.le (h : ROk P RR) {s' : St} {a : Act} {w : World} (hr : RR i s a w) (hl : Le s s') (hn : s'.named) : RR i s' a w := by
  obtain ⟨w0, S0, M0, own, h1, h2⟩ := h i s a w hr
  exact h2 _ _ _ (h1.le hl hn (Nat.zero_le _))
end
/-- A region that draws its order: what holds with these operations done, and no others. -/
theorem any_flow {P : Program} {ops : Array Oper} {Q : Exit → Act → World → Prop} (Inv : (Nat → Bool) → Act → World → Prop)
    (hord : ∀ (i : Nat) (o : Oper), ops[i]? = some o → ∀ e ∈ o.after, Region.binds .any e = true → e.on < i) (hgd : ∀ (i : Nat) (o : Oper), ops[i]? = some o → o.guard = none)
    (step : ∀ (L : Nat → Bool) (i : Nat) (o : Oper), ops[i]? = some o → L i = false → (∀ e ∈ o.after, Region.binds .any e = true → L e.on = true) → ∀ a w, Inv L a w →
      o.wpIn Fence.wide 0 P a w (Inv (fun j => decide (j = i) || L j)) Q)
    (done : ∀ (L : Nat → Bool) a w, (∀ i, i < ops.size → L i = true) → Inv L a w → Q .normal a w) :
    ∀ (fuel : Nat) (listed : Array Bool) (a : Act) (w : World), listed.size = ops.size → ((List.range ops.size).filter fun j => !listed.getD j false).length ≤ fuel → Inv (fun j => listed.getD j false) a w →
      wpAnyIn Fence.wide 0 P .any ops Q fuel listed a w := by
  have hsame : ∀ (listed : Array Bool) (j : Nat), listed.size = ops.size → j < ops.size → listed.getD j true = listed.getD j false := fun listed j hs hj => by
    simp [hs, hj]
  have hall : ∀ listed : Array Bool, listed.size = ops.size → Region.ready .any ops listed = [] → ∀ i, i < ops.size → listed.getD i false = true := fun listed hs hr => by
    intro i
    induction i using Nat.strongRecOn with
    | _ i ih =>
      intro hi
      cases hl : listed.getD i false with
      | true => rfl
      | false =>
        exfalso
        have : i ∈ Region.ready .any ops listed := mem_ready.2 ⟨by rw [hsame listed i hs hi]; exact hl, ops[i], by simp [hi], fun e he hb => ih e.on (hord i _ (by simp [hi]) e he hb) (Nat.lt_trans (hord i _ (by simp [hi]) e he hb) hi)⟩
        rw [hr] at this; cases this
  intro fuel
  induction fuel with
  | zero =>
    intro listed a w hs hc hI
    have hnil : ((List.range ops.size).filter fun j => !listed.getD j false) = [] := List.length_eq_zero_iff.1 (Nat.le_zero.1 hc)
    have hL : ∀ i, i < ops.size → listed.getD i false = true := fun i hi => by
      cases hl : listed.getD i false with
      | true => rfl
      | false =>
        have : i ∈ ((List.range ops.size).filter fun j => !listed.getD j false) := List.mem_filter.2 ⟨List.mem_range.2 hi, by rw [hl]; rfl⟩
        rw [hnil] at this; cases this
    refine ⟨?_, done _ a w hL hI⟩
    refine List.eq_nil_iff_forall_not_mem.2 fun i hi => ?_
    obtain ⟨h1, o, ho, _⟩ := mem_ready.1 hi
    have hi' := (Array.getElem?_eq_some_iff.1 ho).1
    rw [hsame listed i hs hi', hL i hi'] at h1
    cases h1
  | succ fuel ih =>
    intro listed a w hs hc hI
    refine ⟨fun h0 => done _ a w (hall listed hs h0) hI, fun i hi => ?_⟩
    obtain ⟨h1, o, ho, h2⟩ := mem_ready.1 hi
    have hi' := (Array.getElem?_eq_some_iff.1 ho).1
    have hl : listed.getD i false = false := by rw [← hsame listed i hs hi']; exact h1
    unfold wpOpIn
    rw [ho]
    simp only
    rw [if_pos (by simp [Region.wanted, hgd i o ho])]
    refine Oper.wpIn_mono (fun a' w' hI' => ?_) (step (fun j => listed.getD j false) i o ho hl (fun e he hb => h2 e he hb) a w hI)
    refine ih (listed.setIfInBounds i true) a' w' (by simpa using hs) ?_ ?_
    · have hlt : ((List.range ops.size).filter fun j => !(listed.setIfInBounds i true).getD j false).length < ((List.range ops.size).filter fun j => !listed.getD j false).length := by
        have hsub : ((List.range ops.size).filter fun j => !(listed.setIfInBounds i true).getD j false) = (((List.range ops.size).filter fun j => !listed.getD j false).filter fun j => decide (j ≠ i)) := by
          rw [List.filter_filter]
          refine List.filter_congr fun j hj => ?_
          by_cases hji : j = i
          · subst hji
            simp [hs, hi']
          · simp [Array.getElem?_setIfInBounds, Ne.symm hji, hji]
        rw [hsub]
        refine List.length_filter_lt_length_iff_exists.2 ⟨i, List.mem_filter.2 ⟨List.mem_range.2 hi', by rw [hl]; rfl⟩, by simp⟩
      omega
    · have e : (fun j => (listed.setIfInBounds i true).getD j false) = fun j => decide (j = i) || listed.getD j false := by
        funext j
        by_cases hji : j = i
        · subst hji; simp [hs, hi']
        · simp [Array.getElem?_setIfInBounds, Ne.symm hji, hji]
      rw [e]; exact hI'
theorem wpIn_region_flow {P : Program} {ops : Array Oper} {Q : Exit → Act → World → Prop} {id : Nat} {a : Act} {w : World} (hm : P.follows .mixedOrders = true) (Inv : (Nat → Bool) → Act → World → Prop)
    (hord : ∀ (i : Nat) (o : Oper), ops[i]? = some o → ∀ e ∈ o.after, Region.binds .any e = true → e.on < i) (hgd : ∀ (i : Nat) (o : Oper), ops[i]? = some o → o.guard = none)
    (step : ∀ (L : Nat → Bool) (i : Nat) (o : Oper), ops[i]? = some o → L i = false → (∀ e ∈ o.after, Region.binds .any e = true → L e.on = true) → ∀ a w, Inv L a w →
      o.wpIn Fence.wide 0 P a w (Inv (fun j => decide (j = i) || L j)) Q)
    (done : ∀ (L : Nat → Bool) a w, (∀ i, i < ops.size → L i = true) → Inv L a w → Q .normal a w)
    (h0 : Inv (fun _ => false) a { w with drawn := w.drawn + 1 }) : (Code.region id ops true).wpIn Fence.wide 0 P Q a w := by
  refine wpIn_region_any hm (any_flow Inv hord hgd step done ops.size _ a _ (by simp) ?_ ?_)
  · exact Nat.le_trans (List.length_filter_le _ _) (by simp)
  · have e : (fun j => (Array.replicate ops.size false).getD j false) = fun _ => false := by
      funext j
      by_cases hj : j < ops.size <;> simp [hj]
    rw [e]; exact h0
end Go.Ab
namespace Go.Ab
def flowB (ops : Array Oper) : Bool := (List.range ops.size).all fun i => match ops[i]? with | some o => o.after.all (fun e => !Region.binds .any e || decide (e.on < i)) && o.guard.isNone | none => true
theorem flowB_of {ops : Array Oper} (h : flowB ops = true) {i : Nat} {o : Oper} (ho : ops[i]? = some o) : (∀ e ∈ o.after, Region.binds .any e = true → e.on < i) ∧ o.guard = none := by
  have hi := (Array.getElem?_eq_some_iff.1 ho).1
  have h1 := List.all_eq_true.1 h i (List.mem_range.2 hi)
  rw [ho] at h1
  simp only [Bool.and_eq_true] at h1
  refine ⟨fun e he hb => ?_, by simpa using h1.2⟩
  have := Array.all_eq_true'.1 h1.1 e he
  simpa [hb] using this
theorem wpIn_region_flowB {P : Program} {ops : Array Oper} {Q : Exit → Act → World → Prop} {id : Nat} {a : Act} {w : World} (hm : P.follows .mixedOrders = true) (hB : flowB ops = true) (Inv : (Nat → Bool) → Act → World → Prop)
    (h0 : Inv (fun _ => false) a { w with drawn := w.drawn + 1 })
    (step : ∀ (L : Nat → Bool) (i : Nat) (o : Oper), ops[i]? = some o → L i = false → (∀ e ∈ o.after, Region.binds .any e = true → L e.on = true) → ∀ a w, Inv L a w →
      o.wpIn Fence.wide 0 P a w (Inv (fun j => decide (j = i) || L j)) Q)
    (done : ∀ (L : Nat → Bool) a w, (∀ i, i < ops.size → L i = true) → Inv L a w → Q .normal a w) : (Code.region id ops true).wpIn Fence.wide 0 P Q a w :=
  wpIn_region_flow hm Inv (fun i o ho => (flowB_of hB ho).1) (fun i o ho => (flowB_of hB ho).2) step done h0
end Go.Ab
namespace Go.Ab
/-- The operations of the region of this number. -/
def codeOps (n : Nat) : Code → List (Array Oper)
  | .region i ops _ => if i == n then [ops] else []
  | .seq a b => codeOps n a ++ codeOps n b
  | .cond _ a b => codeOps n a ++ codeOps n b
  | .block _ b => codeOps n b
  | .loop b => codeOps n b
  | .rangeFunc _ _ a b => codeOps n a ++ codeOps n b
  | .scope b => codeOps n b
  | _ => []
def opsAt (f : Func) (n : Nat) : Array Oper := (((f.body.map (codeOps n)).getD [])).headD #[]
end Go.Ab
end
section
namespace Go.Ab
/-- What is done stands with all that it waits for. -/
def closedL (ops : Array Oper) (L : Nat → Bool) : Prop := ∀ (j : Nat) (o : Oper), ops[j]? = some o → L j = true → ∀ e ∈ o.after, Region.binds .any e = true → L e.on = true
theorem wpIn_region_flowC {P : Program} {ops : Array Oper} {Q : Exit → Act → World → Prop} {id : Nat} {a : Act} {w : World} (hm : P.follows .mixedOrders = true) (hB : flowB ops = true) (Inv : (Nat → Bool) → Act → World → Prop)
    (h0 : Inv (fun _ => false) a { w with drawn := w.drawn + 1 })
    (step : ∀ (L : Nat → Bool) (i : Nat) (o : Oper), closedL ops L → ops[i]? = some o → L i = false → (∀ e ∈ o.after, Region.binds .any e = true → L e.on = true) → ∀ a w, Inv L a w →
      o.wpIn Fence.wide 0 P a w (Inv (fun j => decide (j = i) || L j)) Q)
    (done : ∀ (L : Nat → Bool) a w, (∀ i, i < ops.size → L i = true) → Inv L a w → Q .normal a w) : (Code.region id ops true).wpIn Fence.wide 0 P Q a w := by
  refine wpIn_region_flowB hm hB (fun L a w => closedL ops L ∧ Inv L a w) ⟨fun j o _ h => (by cases h), h0⟩ (fun L i o ho hL hdep a w hI => ?_) (fun L a w hL hI => done L a w hL hI.2)
  refine Oper.wpIn_mono (fun a' w' h => ⟨fun j oj hj hLj e he hb => ?_, h⟩) (step L i o hI.1 ho hL hdep a w hI.2)
  simp only [Bool.or_eq_true, decide_eq_true_eq] at hLj ⊢
  rcases hLj with rfl | hLj
  · rw [ho] at hj; cases hj
    exact .inr (hdep e he hb)
  · exact .inr (hI.1 j oj hj hLj e he hb)
end Go.Ab
namespace Go.Ab
open Go.RowKit
/-- A region that draws its order, by a state for each set of operations that are done. -/
theorem abs_flow {c : Ctx} {id : Nat} {l : List Oper} {Q : Exit → St → Prop} {s : St} {ι : Type} (hm : c.P.follows .mixedOrders = true) (hc : c.l = none) (hB : flowB l.toArray = true) (st : ι → (Nat → Bool) → St) (ok : ι → (Nat → Bool) → Prop)
    (nm : ∀ i L, (st i L).named) (hβ : ∀ i L, c.β0.length ≤ (st i L).bx.length) (i0 : ι) (h0 : ok i0 (fun _ => false)) (hle : Le s (st i0 fun _ => false))
    (step : ∀ i L j o, closedL l.toArray L → ok i L → l[j]? = some o → L j = false → (∀ e ∈ o.after, Region.binds .any e = true → L e.on = true) → stepOp c.P o (st i L) (fun s' => ∃ i', ok i' (fun q => decide (q = j) || L q) ∧ Le s' (st i' (fun q => decide (q = j) || L q))))
    (done : ∀ i L, ok i L → (∀ j, j < l.length → L j = true) → Q .normal (st i L)) : Abs c (.region id l.toArray true) Q s := by
  intro a w hr
  have hF : c.F = Fence.wide := by unfold Ctx.F; rw [hc]; rfl
  rw [hF]
  refine wpIn_region_flowC hm hB (fun L a w => ∃ i, ok i L ∧ R c (st i L) a w) ⟨i0, h0, (RG.drewTick hr).le hle (nm _ _) (hβ _ _)⟩ (fun L j o hC ho hL hdep a w hI => ?_) (fun L a w hL hI => ?_)
  · obtain ⟨i, hok, g, hg⟩ := hI
    have h := step i L j o hC hok (by simpa using ho) hL hdep
    rw [← hF]
    exact Oper.wpIn_mono (fun a' w' ⟨s', hr', i', hk, hl⟩ => ⟨i', hk, hr'.le hl (nm _ _) (hβ _ _)⟩) (op_in (step_nodefer h) (step_sound hg h))
  · obtain ⟨i, hok, hr⟩ := hI
    exact ⟨_, hr, done i L hok (by simpa using hL)⟩
end Go.Ab
end
