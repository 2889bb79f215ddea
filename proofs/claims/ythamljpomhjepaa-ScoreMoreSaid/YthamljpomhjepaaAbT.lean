import Derived.Test.YthamljpomhjepaaAbJ
import Derived.RecoverIn
set_option linter.unusedVariables false
set_option linter.unusedSimpArgs false
section
namespace Go.Ab
open Go.RowKit

/-- Operations as steps of some system; which of them may change places. -/
structure Sys (ops : Array Oper) (σ : Type) where
  stp : Oper → σ → (σ → Prop) → Prop
  pr : Oper → Oper → Bool
  mono : ∀ {i : Nat} {o : Oper}, ops[i]? = some o → ∀ {s : σ} {K K' : σ → Prop}, (∀ s, K s → K' s) → stp o s K → stp o s K'
  ex : ∀ {i : Nat} {o : Oper}, ops[i]? = some o → ∀ {s : σ} {K : σ → Prop}, stp o s K → ∃ s', K s'
  swap : ∀ {i j : Nat} {oi oj : Oper}, ops[i]? = some oi → ops[j]? = some oj → oi.apart ops oj = true → pr oi oj = true → ∀ {s : σ} {K : σ → Prop}, stp oi s (fun s1 => stp oj s1 K) → stp oj s (fun s1 => stp oi s1 K)

section
variable {ops : Array Oper} {σ : Type} (Y : Sys ops σ)

def anyG (K : σ → Prop) : Nat → Array Bool → σ → Prop
  | 0, listed, s => Region.ready .any ops listed = [] ∧ K s
  | n + 1, listed, s => (Region.ready .any ops listed = [] → K s) ∧ ∀ i ∈ Region.ready .any ops listed, ∀ o, ops[i]? = some o → Y.stp o s fun s' => anyG K n (listed.setIfInBounds i true) s'
def txtG (K : σ → Prop) : List Oper → σ → Prop
  | [], s => K s
  | o :: l, s => Y.stp o s fun s' => txtG K l s'

variable {Y} {K : σ → Prop}
theorem anyG_first {i : Nat} {oi : Oper} (hi : ops[i]? = some oi) :
    ∀ (fuel : Nat) (listed : Array Bool) (s : σ),
      (∀ (j : Nat) (oj : Oper), ops[j]? = some oj → j ≠ i → listed.getD j true = false → (∀ e ∈ oj.after, Region.binds .any e = true → e.on ≠ i) → oi.apart ops oj = true ∧ Y.pr oi oj = true) →
      i ∈ Region.ready .any ops listed → Y.stp oi s (fun s' => anyG Y K fuel (listed.setIfInBounds i true) s') → anyG Y K (fuel + 1) listed s := by
  intro fuel
  induction fuel with
  | zero =>
    intro listed s _ hr H
    refine ⟨fun h => (by rw [h] at hr; cases hr), fun j hj oj hoj => ?_⟩
    by_cases hji : j = i
    · subst hji; rw [hi] at hoj; cases hoj; exact H
    · have hrj := ready_mono hj hji
      exfalso
      obtain ⟨s', h1, _⟩ := Y.ex hi H
      rw [h1] at hrj
      cases hrj
  | succ fuel ih =>
    intro listed s hfree hr H
    refine ⟨fun h => (by rw [h] at hr; cases hr), fun j hj oj hoj => ?_⟩
    by_cases hji : j = i
    · subst hji; rw [hi] at hoj; cases hoj; exact H
    · obtain ⟨hjun, oj', hoj', hall⟩ := mem_ready.1 hj
      rw [hoj] at hoj'; cases hoj'
      have hnot : ∀ e ∈ oj.after, Region.binds .any e = true → e.on ≠ i := fun e he hb heq => by
        have h1 := hall e he hb
        have h0 := (mem_ready.1 hr).1
        rw [heq] at h1
        rcases Nat.lt_or_ge i listed.size with h' | h'
        · simp [h'] at h0 h1; rw [h0] at h1; cases h1
        · simp [Array.getElem?_eq_none h'] at h1
      obtain ⟨hap, hpk⟩ := hfree j oj hoj hji hjun hnot
      have h1 : Y.stp oi s fun s1 => Y.stp oj s1 fun s2 => anyG Y K fuel ((listed.setIfInBounds i true).setIfInBounds j true) s2 :=
        Y.mono hi (fun s1 hs1 => hs1.2 j (ready_mono hj hji) oj hoj) H
      have h2 := Y.swap hi hoj hap hpk h1
      have hfree' : ∀ (k : Nat) (ok : Oper), ops[k]? = some ok → k ≠ i → (listed.setIfInBounds j true).getD k true = false →
          (∀ e ∈ ok.after, Region.binds .any e = true → e.on ≠ i) → oi.apart ops ok = true ∧ Y.pr oi ok = true := fun k ok hk hki hun hno => by
        refine hfree k ok hk hki ?_ hno
        by_cases hjk : j = k
        · subst hjk; exact hjun
        · rw [getD_set_ne true hjk] at hun; exact hun
      refine Y.mono hoj (fun s1 h3 => ih (listed.setIfInBounds j true) s1 hfree' (ready_mono hr (Ne.symm hji)) ?_) h2
      rw [Array.setIfInBounds_comm _ _ hji]
      exact h3

theorem anyG_lex (hp : ∀ (a b : Nat) (oa ob : Oper), a < b → ops[a]? = some oa → ops[b]? = some ob → (∀ e ∈ ob.after, Region.binds .any e = true → e.on ≠ a) → Y.pr oa ob = true) :
    ∀ (l : List Oper) (k : Nat) (listed : Array Bool) (s : σ), (∀ j, l[j]? = ops[k + j]?) →
    (∀ j, j < k → listed.getD j true = true) → Region.lexFrom .any ops l.length k listed = true → txtG Y K l s → anyG Y K l.length listed s
  | [], _, _, _, _, _, hB, h => ⟨by simpa [Region.lexFrom] using hB, h⟩
  | o :: l, k, listed, s, hl, hlt, hB, h => by
    have h0 : ops[k]? = some o := by simpa using (hl 0).symm
    simp only [List.length_cons, Region.lexFrom, Bool.and_eq_true] at hB
    obtain ⟨⟨hr, hf⟩, hB'⟩ := hB
    refine anyG_first h0 l.length listed s (fun j oj hj hjk hun hno => ⟨Region.free_spec h0 hf j oj hj hjk hun hno, ?_⟩) (by simpa using hr)
      (Y.mono h0 (fun s' hs' => anyG_lex hp l (k + 1) _ s' (fun j => by have := hl (j + 1); simpa [Nat.add_assoc, Nat.add_comm 1 j] using this) (fun j hj => ?_) hB' hs') h)
    · have hkj : k < j := by
        rcases Nat.lt_trichotomy j k with h1 | h1 | h1
        · rw [hlt j h1] at hun; cases hun
        · exact absurd h1 hjk
        · exact h1
      exact hp k j o oj hkj h0 hj hno
    · by_cases h1 : k = j
      · subst h1
        by_cases hs : k < listed.size
        · simp [hs]
        · simp [hs]
      · rw [getD_set_ne true h1]; exact hlt j (by omega)

theorem anyG_sound {P : Program} {F : Fence} {Rr : σ → Act → World → Prop} {Q : Exit → Act → World → Prop} (hQ : ∀ s a w, Rr s a w → K s → Q .normal a w)
    (hs : ∀ (i : Nat) (o : Oper), ops[i]? = some o → ∀ (s : σ) (a : Act) (w : World) (K' : σ → Prop) (N : Act → World → Prop), Rr s a w → (∀ s a w, Rr s a w → K' s → N a w) → Y.stp o s K' →
      if Region.wanted o (yielded ops a.tmps) then o.wpIn F 0 P a w N Q else (∀ f, o.about P w a.eval = some f → F.fn f) ∧ N (a.put o.dst undef) w) :
    ∀ (fuel : Nat) (listed : Array Bool) (s : σ) (a : Act) (w : World), Rr s a w → anyG Y K fuel listed s → wpAnyIn F 0 P .any ops Q fuel listed a w
  | 0, _, s, a, w, hr, h => ⟨h.1, hQ s a w hr h.2⟩
  | fuel + 1, listed, s, a, w, hr, h => by
    refine ⟨fun h0 => hQ s a w hr (h.1 h0), fun i hi => ?_⟩
    unfold wpOpIn
    cases ho : ops[i]? with
    | none =>
      obtain ⟨_, o, ho', _⟩ := mem_ready.1 hi
      rw [ho] at ho'; cases ho'
    | some o =>
      exact hs i o ho s a w _ _ hr (fun s' a' w' hr' hk' => anyG_sound hQ hs fuel _ s' a' w' hr' hk') (h.2 i hi o ho)
end

/-- The yield, as a step. -/
def yStep (c : IC) (fx x : Operand) (dst : Option Tmp) (s : St × Ix) (K : St × Ix → Prop) : Prop :=
  ∃ k d, s.2 = (true, k) ∧ s.1.ev fx = .val (.func (.yield c.l) #[] #[]) ∧ pureDs s.1.bx s.1.rw [s.1.ev x] = some d ∧ c.xs[k]? = some d ∧ dstOk s.1 dst ∧ ∀ b : Bool, K (s.1.put dst (.bool b), (b, k + 1))
/-- Which operation is the yield: by its slot. -/
def isY (t : Nat) (o : Oper) : Bool := match o.dst with | some u => u == t | none => false
def yOf (o : Oper) : Option (Operand × Operand) := match o.op with | .call ⟨.value fx, ⟨[x]⟩, _⟩ => if o.guard.isNone then some (fx, x) else none | _ => none
def yStp (c : IC) (ops : List Oper) (t : Nat) (o : Oper) (s : St × Ix) (K : St × Ix → Prop) : Prop := match isY t o with
  | true => ∃ fx x, yOf o = some (fx, x) ∧ yStep c fx x o.dst s K
  | false => gst c.P ops o s.1 fun s' => K (s', s.2)
def yKinds (t : Nat) (ops : List Oper) : Bool := ops.all fun o => isY t o || match kindOf o.op with
  | .X => false
  | .L => o.guard.isNone
  | .W => o.guard.isNone
  | _ => true
def yPr (t : Nat) (a b : Oper) : Bool := !isY t a && !isY t b && pairOk (kindOf a.op) (kindOf b.op)
def yPairsFrom (t : Nat) (o : Oper) (i : Nat) (rest : List Oper) : Bool := rest.all fun p => p.after.any (fun e => Region.binds .any e && e.on == i) || yPr t o p
def yPairs (t : Nat) : Nat → List Oper → Bool
  | _, [] => true
  | i, o :: rest => yPairsFrom t o i rest && yPairs t (i + 1) rest
theorem yPairs_at {t : Nat} : ∀ (l : List Oper) (i : Nat), yPairs t i l = true → ∀ (a b : Nat) (oa ob : Oper), a < b → l[a]? = some oa → l[b]? = some ob →
    (∀ e ∈ ob.after, Region.binds .any e = true → e.on ≠ i + a) → yPr t oa ob = true
  | [], _, _, a, b, oa, ob, _, ha, _, _ => by simp at ha
  | o :: l, i, h, a, b, oa, ob, hab, ha, hb, hno => by
    simp only [yPairs, Bool.and_eq_true] at h
    obtain ⟨b, rfl⟩ : ∃ b', b = b' + 1 := ⟨b - 1, by omega⟩
    cases a with
    | zero =>
      simp at ha hb
      subst ha
      have hm := List.mem_of_getElem? hb
      have := List.all_eq_true.1 h.1 ob hm
      simp only [Bool.or_eq_true] at this
      rcases this with h | h
      · exfalso
        obtain ⟨e, he, h⟩ := Array.any_eq_true'.1 h
        simp only [Bool.and_eq_true, beq_iff_eq] at h
        exact hno e he h.1 (by simpa using h.2)
      · exact h
    | succ a =>
      exact yPairs_at l (i + 1) h.2 a b oa ob (by omega) (by simpa using ha) (by simpa using hb) (fun e he hb' => by have := hno e he hb'; omega)
end Go.Ab
namespace Go.Ab
open Go.RowKit
theorem yKinds_of {t : Nat} {ops : Array Oper} (h : yKinds t ops.toList = true) {i : Nat} {o : Oper} (ho : ops[i]? = some o) (hy : isY t o = false) : kindOf o.op ≠ .X ∧ (kindOf o.op = .L ∨ kindOf o.op = .W → o.guard = none) := by
  have hm : o ∈ ops.toList := by simpa using Array.mem_of_getElem? ho
  have := List.all_eq_true.1 h o hm
  rw [hy, Bool.false_or] at this
  cases k : kindOf o.op <;> rw [k] at this <;> simp at this ⊢ <;> exact this

def ySys (c : IC) (ops : Array Oper) (t : Nat) (hk : yKinds t ops.toList = true) : Sys ops (St × Ix) where
  stp := yStp c ops.toList t
  pr := yPr t
  mono := by
    intro i o ho s K K' hKK h
    unfold yStp at h ⊢
    cases hy : isY t o with
    | true =>
      rw [hy] at h
      obtain ⟨fx, x, e, k, d, h1, h2, h3, h4, h5, h6⟩ := h
      exact ⟨fx, x, e, k, d, h1, h2, h3, h4, h5, fun b => hKK _ (h6 b)⟩
    | false =>
      rw [hy] at h
      have hm := yKinds_of hk ho hy
      exact gst_mono hm.1 hm.2 (fun s' hs' => hKK _ hs') h
  ex := by
    intro i o ho s K H
    unfold yStp at H
    cases hy : isY t o with
    | true =>
      rw [hy] at H
      obtain ⟨fx, x, e, k, d, h1, h2, h3, h4, h5, h6⟩ := H
      exact ⟨_, h6 true⟩
    | false =>
      rw [hy] at H
      have hm := yKinds_of hk ho hy
      simp only at H
      cases k : kindOf o.op with
      | X => exact absurd k hm.1
      | A => obtain ⟨_, h2⟩ := (gst_V (.inl k)).1 H; obtain ⟨d, _, h3⟩ := (cp_gval _ _ _ _ _).ex h2; exact ⟨_, h3⟩
      | B => obtain ⟨_, h2⟩ := (gst_V (.inr k)).1 H; obtain ⟨d, _, h3⟩ := (cp_gval _ _ _ _ _).ex h2; exact ⟨_, h3⟩
      | L => obtain ⟨_, _, h2⟩ := (gst_E (.inl k) (hm.2 (.inl k))).1 H; obtain ⟨d, _, h3⟩ := (cp_eff _ _ _).ex h2; exact ⟨_, h3⟩
      | W => obtain ⟨_, _, h2⟩ := (gst_E (.inr k) (hm.2 (.inr k))).1 H; obtain ⟨d, _, h3⟩ := (cp_eff _ _ _).ex h2; exact ⟨_, h3⟩
  swap := by
    intro i j oi oj hi hj hap hpr s K h
    unfold yPr at hpr
    simp only [Bool.and_eq_true, Bool.not_eq_true'] at hpr
    obtain ⟨⟨yi, yj⟩, hp⟩ := hpr
    unfold yStp at h ⊢
    rw [yi] at h
    simp only [yi, yj] at h ⊢
    exact swap hap hp (yKinds_of hk hi yi).2 (yKinds_of hk hj yj).2 h

def JR (c : IC) (s : St × Ix) (a : Act) (w : World) : Prop := ∃ T S M, JX c.J c.Jx s.2 T S M w ∧ IR c.P T S M s.1 a w

theorem y_sound {c : IC} (hok : c.Ok) {ops : Array Oper} {t : Nat} {Q : Exit → Act → World → Prop} {o : Oper} {s : St × Ix} {a : Act} {w : World} {K' : St × Ix → Prop} {N : Act → World → Prop}
    (hr : JR c s a w) (hN : ∀ s a w, JR c s a w → K' s → N a w) (h : yStp c ops.toList t o s K') :
    if Region.wanted o (yielded ops a.tmps) then o.wpIn Fence.wide 0 c.P a w N Q else (∀ f, o.about c.P w a.eval = some f → Fence.wide.fn f) ∧ N (a.put o.dst undef) w := by
  obtain ⟨s, i⟩ := s
  obtain ⟨T, S, M, hJ, hir⟩ := hr
  have hir0 := hir
  obtain ⟨lt, g, rfl, rfl, hg⟩ := hir
  unfold yStp at h
  cases hy : isY t o with
  | false =>
    rw [hy] at h
    exact gst_sound (c := ⟨c.P, w, g.S, g.M, none, fun b => T b ∨ w.heap.size ≤ b, []⟩) (K := fun s' => K' (s', i)) hg (fun s' a' w' ⟨g', hg'⟩ hk => by
      obtain ⟨T', hi, hr'⟩ := IR.next lt hg'
      exact hN (s', i) a' w' ⟨T', _, _, hok.ab i _ _ _ _ _ _ _ _ hJ hi, hr'⟩ hk) h
  | true =>
    rw [hy] at h
    obtain ⟨fx, x, e, k, d, h1, h2, h3, h4, h5, h6⟩ := h
    simp only at h1 h2 h3 h5 h6
    subst h1
    obtain ⟨odst, oop, oty, opos, oaft, ogd⟩ := o
    unfold yOf at e
    simp only at e
    split at e
    case h_2 => cases e
    rename_i op0 fx' x' at_
    split at e
    case isFalse => cases e
    rename_i hgd
    simp only [Option.some.injEq, Prod.mk.injEq] at e
    obtain ⟨rfl, rfl⟩ := e
    have hgn : ogd = none := by cases ogd <;> simp_all
    subst hgn
    rw [if_pos (by simp [Region.wanted])]
    have hfx := hg.ev fx'
    rw [h2] at hfx
    generalize hv : a.eval fx' = vf at hfx
    cases hfx
    obtain ⟨q1, q2⟩ := pureDs_get h3
    have hY := hok.rd k T g.S g.M w [a.eval x'] d h4 hJ (by rw [q1]; rfl) (fun q dd hq => by
      obtain ⟨z, hz, hp⟩ := q2 q dd hq
      have hq0 : q = 0 := by have := (List.getElem?_eq_some_iff.1 hz).1; simp at this; exact this
      subst hq0
      simp at hz
      subst hz
      exact pureD_rel hg (hg.ev x') hp)
    obtain ⟨fn, tmps, assign, body, hrun, hround⟩ := hY
    refine ⟨fun _ _ => trivial, ?_⟩
    have hsem : (Oper.semAt Fence.wide.round a.eval ⟨odst, .call ⟨.value fx', ⟨[x']⟩, at_⟩, oty, opos, oaft, none⟩).run c.P w = .ok (.round c.l fn tmps assign body) w := by
      rw [Oper.semAt_eq _ _ _ (by intro cl h; cases h)]
      simp [execOp, resolve, hv, Deferred.ofValue, invoke, hrun]
    rw [hsem, Oper.uponIn_round]
    refine ⟨fun h => (by cases h), hround.mono ?_⟩
    rintro e w2 ⟨S2, M2, hf, hres⟩
    have hr2 := hir0.round hf
    have fin : ∀ b : Bool, JX c.J c.Jx (b, k + 1) T S2 M2 w2 → N (a.put odst (.bool b)) w2 := fun b hJ2 => by
      obtain ⟨lt2, g2, f1, f2, hg2⟩ := hr2
      exact hN (s.put odst (.bool b), (b, k + 1)) _ _ ⟨T, S2, M2, hJ2, lt2, g2, f1, f2, hg2.put h5 (.bool _ _)⟩ (h6 b)
    rcases hres with ⟨rfl, hJ2⟩ | ⟨rfl, hJ2⟩
    · exact fin true hJ2
    · exact fin false hJ2

theorem txt_of_ev {c : IC} {ops : Array Oper} {t : Nat} {hk : yKinds t ops.toList = true} {K : St × Ix → Prop} {rest : List Oper} {i : Ix} : ∀ (l : List Oper) (s : St), (l.all fun o => !isY t o) = true → (∀ o ∈ l, o ∈ ops.toList) →
    evOps c.P ops.toList l s (fun s1 => txtG (ySys c ops t hk) K rest (s1, i)) → txtG (ySys c ops t hk) K (l ++ rest) (s, i)
  | [], s, _, _, h => h
  | o :: l, s, hy, hin, h => by
    simp only [List.all_cons, Bool.and_eq_true, Bool.not_eq_true'] at hy
    show yStp c ops.toList t o (s, i) fun s' => txtG (ySys c ops t hk) K (l ++ rest) s'
    unfold yStp
    rw [hy.1]
    obtain ⟨j, hj⟩ := List.getElem?_of_mem (hin o (List.mem_cons_self ..))
    have hm := yKinds_of hk (i := j) (o := o) (by simpa using hj) hy.1
    exact gst_mono hm.1 hm.2 (fun s' hs' => txt_of_ev l s' hy.2 (fun o' ho' => hin o' (List.mem_cons_of_mem _ ho')) hs') (evOps_gst h)

theorem JR.drewTick {c : IC} (hok : c.Ok) {s : St × Ix} {a : Act} {w : World} (h : JR c s a w) : JR c s a { w with drawn := w.drawn + 1 } := by
  obtain ⟨T, S, M, hJ, lt, g, rfl, rfl, hg⟩ := h
  obtain ⟨g', hg'⟩ := RG.drewTick (c := ⟨c.P, w, g.S, g.M, none, fun b => T b ∨ w.heap.size ≤ b, []⟩) ⟨g, hg⟩
  obtain ⟨T', hi, hr'⟩ := IR.next lt hg'
  exact ⟨T', _, _, hok.ab s.2 _ _ _ _ _ _ _ _ hJ hi, hr'⟩

/-- A region that draws its order, with a yield at its n-th operation. -/
theorem ia_drawYield {c : IC} {Q : Exit → Ix → St → Prop} {s : St} {k id t : Nat} {l : List Oper} (n : Nat) {fx x : Operand} {at_ : Array TypeId} {ty : TypeId} {pos : String} {aft : Array Edge}
    (hm : c.P.follows .mixedOrders = true) (hB : (Region.lexB .any l.toArray && yKinds t l && yPairs t 0 l) = true)
    (hl : l = l.take n ++ ⟨some t, .call ⟨.value fx, #[x], at_⟩, ty, pos, aft, none⟩ :: l.drop (n + 1)) (hn : ((l.take n).all (fun o => !isY t o) && (l.drop (n + 1)).all (fun o => !isY t o)) = true)
    (h : ∀ K1 : St → Prop, (∀ s1 d, s1.ev fx = .val (.func (.yield c.l) #[] #[]) → pureDs s1.bx s1.rw [s1.ev x] = some d → c.xs[k]? = some d → dstOk s1 (some t) →
        (∀ b : Bool, evOps c.P l (l.drop (n + 1)) (s1.put (some t) (.bool b)) (fun s2 => Q .normal (b, k + 1) s2)) → K1 s1) →
      evOps c.P l (l.take n) s K1) :
    IA c (.region id l.toArray true) Q (true, k) s := by
  intro hok a w T S M hJ hr
  simp only [Bool.and_eq_true, Region.lexB] at hB
  obtain ⟨⟨⟨_, hlx⟩, hk⟩, hp⟩ := hB
  simp only [Bool.and_eq_true] at hn
  have hk' : yKinds t l.toArray.toList = true := by simpa using hk
  let Y := ySys c l.toArray t hk'
  let K : St × Ix → Prop := fun σ => Q .normal σ.2 σ.1
  have htx : txtG Y K l (s, (true, k)) := by
    obtain ⟨y, hy⟩ : ∃ y : Oper, y = ⟨some t, .call ⟨.value fx, #[x], at_⟩, ty, pos, aft, none⟩ := ⟨_, rfl⟩
    rw [← hy] at hl
    have hmem1 : ∀ o ∈ l.take n, o ∈ l.toArray.toList := fun o ho => by simpa using List.mem_of_mem_take ho
    have hmem2 : ∀ o ∈ l.drop (n + 1), o ∈ l.toArray.toList := fun o ho => by simpa using List.mem_of_mem_drop ho
    have h2 := txt_of_ev (c := c) (ops := l.toArray) (t := t) (hk := hk') (K := K) (rest := y :: l.drop (n + 1)) (i := (true, k)) (l.take n) s hn.1 hmem1 (by
      refine h _ (fun s1 d h1 h2 h3 h4 h5 => ?_)
      show yStp c l.toArray.toList t y (s1, (true, k)) fun s' => txtG Y K (l.drop (n + 1)) s'
      unfold yStp
      have hyy : isY t y = true := by rw [hy]; simp [isY]
      rw [hyy]
      refine ⟨fx, x, by rw [hy]; rfl, k, d, rfl, h1, h2, h3, by rw [hy]; exact h4, fun b => ?_⟩
      have h6 := txt_of_ev (c := c) (ops := l.toArray) (t := t) (hk := hk') (K := K) (rest := []) (i := (b, k + 1)) (l.drop (n + 1)) (s1.put y.dst (.bool b)) hn.2 hmem2 (by rw [hy]; exact h5 b)
      rw [List.append_nil] at h6
      exact h6)
    rw [← hl] at h2
    exact h2
  refine wpIn_region_any hm ?_
  refine anyG_sound (Y := Y) (K := K) (Rr := JR c) (fun σ a w hr hq => ?_) (fun i o ho σ a w K' N hr hN hst => y_sound hok hr hN hst) _ _ (s, (true, k)) _ _ (JR.drewTick hok ⟨T, S, M, hJ, hr⟩) ?_
  · obtain ⟨s', i'⟩ := σ
    obtain ⟨T', S', M', hJ', hr'⟩ := hr
    exact ⟨i', s', T', S', M', hJ', hr', hq⟩
  · have := anyG_lex (Y := Y) (K := K) (fun a b oa ob hab ha hb hno => yPairs_at l 0 hp a b oa ob hab (by simpa using ha) (by simpa using hb) (by simpa using hno)) l 0 (Array.replicate l.length false) (s, (true, k)) (by simp) (by simp) (by simpa using hlx) htx
    simpa using this
end Go.Ab
end
section
namespace Go.Ab
open Go.RowKit

/-- A relation of states to worlds that the plain layer's steps keep. -/
def ROk (P : Program) {ι : Type} (RR : ι → St → Act → World → Prop) : Prop :=
  ∀ i s a w, RR i s a w → ∃ (w0 : World) (S0 : Addr → Prop) (M0 : MM) (own : Nat → Prop), R ⟨P, w0, S0, M0, none, own, []⟩ s a w ∧ ∀ s' a' w', R ⟨P, w0, S0, M0, none, own, []⟩ s' a' w' → RR i s' a' w'

/-- A statement on code over such a relation. -/
def GA (P : Program) {ι : Type} (RR : ι → St → Act → World → Prop) (code : Code) (Q : Exit → ι → St → Prop) (i : ι) (s : St) : Prop :=
  ∀ a w, RR i s a w → code.wpIn Fence.wide 0 P (fun e a' w' => ∃ i' s', RR i' s' a' w' ∧ Q e i' s') a w

section
variable {P : Program} {ι : Type} {RR : ι → St → Act → World → Prop} {Q : Exit → ι → St → Prop} {i : ι} {s : St}

theorem ROk.le (h : ROk P RR) {s' : St} {a : Act} {w : World} (hr : RR i s a w) (hl : Le s s') (hn : s'.named) : RR i s' a w := by
  obtain ⟨w0, S0, M0, own, h1, h2⟩ := h i s a w hr
  exact h2 _ _ _ (h1.le hl hn (Nat.zero_le _))

theorem ga_abs (hok : ROk P RR) {code : Code} (h : ∀ (w0 : World) (S0 : Addr → Prop) (M0 : MM) (own : Nat → Prop), Abs ⟨P, w0, S0, M0, none, own, []⟩ code (fun e s' => Q e i s') s) : GA P RR code Q i s := by
  intro a w hr
  obtain ⟨w0, S0, M0, own, h1, h2⟩ := hok i s a w hr
  refine wpIn_mono (h w0 S0 M0 own a w h1) ?_
  rintro e a' w' ⟨s', hr', hq⟩
  exact ⟨i, s', h2 _ _ _ hr', hq⟩

theorem ga_skip (h : Q .normal i s) : GA P RR .skip Q i s := fun _ _ hr => wpIn_skip ⟨i, s, hr, h⟩
theorem ga_exit {id : Nat} (h : Q (.exit id) i s) : GA P RR (.exit id) Q i s := fun _ _ hr => wpIn_exit ⟨i, s, hr, h⟩
theorem ga_ret (h : Q .ret i s) : GA P RR .ret Q i s := fun _ _ hr => wpIn_ret ⟨i, s, hr, h⟩

def thenG (K : ι → St → Prop) (Q : Exit → ι → St → Prop) : Exit → ι → St → Prop
  | .normal, i, s => K i s
  | e, i, s => Q e i s
def blockG (id : Nat) (Q : Exit → ι → St → Prop) : Exit → ι → St → Prop
  | .exit id', i, s => if id' = id then Q .normal i s else Q (.exit id') i s
  | e, i, s => Q e i s

theorem ga_seq {x y : Code} (h : GA P RR x (thenG (GA P RR y Q) Q) i s) : GA P RR (.seq x y) Q i s := by
  intro a w hr
  refine wpIn_seq (wpIn_mono (h a w hr) ?_)
  rintro e a' w' ⟨i', s', r, q⟩
  cases e with
  | normal => exact q a' w' r
  | exit id => exact ⟨i', s', r, q⟩
  | goto l => exact ⟨i', s', r, q⟩
  | ret => exact ⟨i', s', r, q⟩
  | panic ch => exact ⟨i', s', r, q⟩
  | outgrown => exact ⟨i', s', r, q⟩

theorem ga_block {id : Nat} {x : Code} (h : GA P RR x (blockG id Q) i s) : GA P RR (.block id x) Q i s := by
  intro a w hr
  refine wpIn_block (wpIn_mono (h a w hr) ?_)
  rintro e a' w' ⟨i', s', r, q⟩
  cases e with
  | normal => exact ⟨i', s', r, q⟩
  | exit id' =>
    simp only [blockG] at q
    simp only [Exit.inBlock]
    split at q
    · rw [if_pos (by assumption)]; exact ⟨i', s', r, q⟩
    · rw [if_neg (by assumption)]; exact ⟨i', s', r, q⟩
  | goto l => exact ⟨i', s', r, q⟩
  | ret => exact ⟨i', s', r, q⟩
  | panic ch => exact ⟨i', s', r, q⟩
  | outgrown => exact ⟨i', s', r, q⟩

theorem ga_if (hok : ROk P RR) {x : Operand} {t e : Code} (h : wBool (s.ev x) fun b => (b = true → GA P RR t Q i s) ∧ (b = false → GA P RR e Q i s)) : GA P RR (.cond x t e) Q i s := by
  intro a w hr
  cases hs : s.ev x <;> rw [hs] at h <;> simp only [wBool] at h
  obtain ⟨w0, S0, M0, own, ⟨g, hg⟩, _⟩ := hok i s a w hr
  have hv := hg.ev x
  rw [hs] at hv
  exact wpIn_cond_split hv.asBool (fun hb => h.1 hb a w hr) (fun hb => h.2 hb a w hr)

theorem ga_loop (hok : ROk P RR) {body : Code} {κ : Type} {n : Nat} (l : κ → List (Nat × D)) (ix : κ → ι) (p : κ → Prop) (μ : κ → Nat) (hn : ∀ j, p j → ((l j).all fun q => namesB 0 0 q.2) = true)
    (j0 : κ) (h0 : p j0) (hi : ix j0 = i) (hle : Le s (mkSt n (l j0) [] []))
    (round : ∀ j, p j → GA P RR body (thenG (fun i' s' => ∃ j', p j' ∧ μ j' < μ j ∧ ix j' = i' ∧ Le s' (mkSt n (l j') [] [])) Q) (ix j) ⟨n, (l j).foldr (fun p f => put f p.1 p.2) none', [], []⟩) : GA P RR (.loop body) Q i s := by
  intro a w hr
  subst hi
  have hnm : ∀ j, p j → (mkSt n (l j) [] []).named := fun j hj => named_of (hn j hj) rfl
  refine wp_loop_ix (fun j a w => p j ∧ RR (ix j) (mkSt n (l j) [] []) a w) μ (fun j a w ⟨hp, hr⟩ => ?_) j0 ⟨h0, hok.le hr hle (hnm j0 h0)⟩
  refine wpIn_mono (round j hp a w hr) ?_
  rintro e a' w' ⟨i', s', r, q⟩
  cases e with
  | normal =>
    obtain ⟨j', hj, hlt, rfl, hl⟩ := q
    exact ⟨j', ⟨hj, hok.le r hl (hnm j' hj)⟩, hlt⟩
  | exit id => exact ⟨i', s', r, q⟩
  | goto l => exact ⟨i', s', r, q⟩
  | ret => exact ⟨i', s', r, q⟩
  | panic ch => exact ⟨i', s', r, q⟩
  | outgrown => exact ⟨i', s', r, q⟩

/-- One plain operation. -/
theorem ga_step (hok : ROk P RR) {o : Oper} {a : Act} {w : World} {K : St → Prop} {Q' : Exit → Act → World → Prop} {N : Act → World → Prop} (hr : RR i s a w) (hst : stepOp P o s K) (hN : ∀ s' a' w', RR i s' a' w' → K s' → N a' w') : o.wpIn Fence.wide 0 P a w N Q' := by
  obtain ⟨w0, S0, M0, own, ⟨g, hg⟩, h2⟩ := hok i s a w hr
  have hd := step_nodefer hst
  refine op_in (c := ⟨P, w0, S0, M0, none, own, []⟩) hd ?_
  exact Oper.wp_mono (fun a' w' ⟨s', hr', hk'⟩ => hN s' a' w' (h2 _ _ _ hr') hk') (step_sound hg hst)
theorem ga_tick (hok : ROk P RR) {a : Act} {w : World} (hr : RR i s a w) : RR i s a { w with drawn := w.drawn + 1 } := by
  obtain ⟨w0, S0, M0, own, hg, h2⟩ := hok i s a w hr
  exact h2 _ _ _ (RG.drewTick hg)
end

/-- A region that draws its order: what holds with these operations done, and no others. -/
theorem any_flow {P : Program} {ops : Array Oper} {Q : Exit → Act → World → Prop} (Inv : (Nat → Bool) → Act → World → Prop)
    (hord : ∀ (i : Nat) (o : Oper), ops[i]? = some o → ∀ e ∈ o.after, Region.binds .any e = true → e.on < i) (hgd : ∀ (i : Nat) (o : Oper), ops[i]? = some o → o.guard = none)
    (step : ∀ (L : Nat → Bool) (i : Nat) (o : Oper), ops[i]? = some o → L i = false → (∀ e ∈ o.after, Region.binds .any e = true → L e.on = true) → ∀ a w, Inv L a w →
      o.wpIn Fence.wide 0 P a w (Inv (fun j => decide (j = i) || L j)) Q)
    (done : ∀ (L : Nat → Bool) a w, (∀ i, i < ops.size → L i = true) → Inv L a w → Q .normal a w) :
    ∀ (fuel : Nat) (listed : Array Bool) (a : Act) (w : World), listed.size = ops.size → ((List.range ops.size).filter fun j => !listed.getD j false).length ≤ fuel → Inv (fun j => listed.getD j false) a w →
      wpAnyIn Fence.wide 0 P .any ops Q fuel listed a w := by
  have hsame : ∀ (listed : Array Bool) (j : Nat), listed.size = ops.size → j < ops.size → listed.getD j true = listed.getD j false := fun listed j hs hj => by
    simp [hs, hj]
  have hall : ∀ listed : Array Bool, listed.size = ops.size → Region.ready .any ops listed = [] → ∀ i, i < ops.size → listed.getD i false = true := fun listed hs hr => by
    intro i
    induction i using Nat.strongRecOn with
    | _ i ih =>
      intro hi
      cases hl : listed.getD i false with
      | true => rfl
      | false =>
        exfalso
        have : i ∈ Region.ready .any ops listed := mem_ready.2 ⟨by rw [hsame listed i hs hi]; exact hl, ops[i], by simp [hi], fun e he hb => ih e.on (hord i _ (by simp [hi]) e he hb) (Nat.lt_trans (hord i _ (by simp [hi]) e he hb) hi)⟩
        rw [hr] at this; cases this
  intro fuel
  induction fuel with
  | zero =>
    intro listed a w hs hc hI
    have hnil : ((List.range ops.size).filter fun j => !listed.getD j false) = [] := List.length_eq_zero_iff.1 (Nat.le_zero.1 hc)
    have hL : ∀ i, i < ops.size → listed.getD i false = true := fun i hi => by
      cases hl : listed.getD i false with
      | true => rfl
      | false =>
        have : i ∈ ((List.range ops.size).filter fun j => !listed.getD j false) := List.mem_filter.2 ⟨List.mem_range.2 hi, by rw [hl]; rfl⟩
        rw [hnil] at this; cases this
    refine ⟨?_, done _ a w hL hI⟩
    refine List.eq_nil_iff_forall_not_mem.2 fun i hi => ?_
    obtain ⟨h1, o, ho, _⟩ := mem_ready.1 hi
    have hi' := (Array.getElem?_eq_some_iff.1 ho).1
    rw [hsame listed i hs hi', hL i hi'] at h1
    cases h1
  | succ fuel ih =>
    intro listed a w hs hc hI
    refine ⟨fun h0 => done _ a w (hall listed hs h0) hI, fun i hi => ?_⟩
    obtain ⟨h1, o, ho, h2⟩ := mem_ready.1 hi
    have hi' := (Array.getElem?_eq_some_iff.1 ho).1
    have hl : listed.getD i false = false := by rw [← hsame listed i hs hi']; exact h1
    unfold wpOpIn
    rw [ho]
    simp only
    rw [if_pos (by simp [Region.wanted, hgd i o ho])]
    refine Oper.wpIn_mono (fun a' w' hI' => ?_) (step (fun j => listed.getD j false) i o ho hl (fun e he hb => h2 e he hb) a w hI)
    refine ih (listed.setIfInBounds i true) a' w' (by simpa using hs) ?_ ?_
    · have hlt : ((List.range ops.size).filter fun j => !(listed.setIfInBounds i true).getD j false).length < ((List.range ops.size).filter fun j => !listed.getD j false).length := by
        have hsub : ((List.range ops.size).filter fun j => !(listed.setIfInBounds i true).getD j false) = (((List.range ops.size).filter fun j => !listed.getD j false).filter fun j => decide (j ≠ i)) := by
          rw [List.filter_filter]
          refine List.filter_congr fun j hj => ?_
          by_cases hji : j = i
          · subst hji
            simp [hs, hi']
          · simp [Array.getElem?_setIfInBounds, Ne.symm hji, hji]
        rw [hsub]
        refine List.length_filter_lt_length_iff_exists.2 ⟨i, List.mem_filter.2 ⟨List.mem_range.2 hi', by rw [hl]; rfl⟩, by simp⟩
      omega
    · have e : (fun j => (listed.setIfInBounds i true).getD j false) = fun j => decide (j = i) || listed.getD j false := by
        funext j
        by_cases hji : j = i
        · subst hji; simp [hs, hi']
        · simp [Array.getElem?_setIfInBounds, Ne.symm hji, hji]
      rw [e]; exact hI'

theorem wpIn_region_flow {P : Program} {ops : Array Oper} {Q : Exit → Act → World → Prop} {id : Nat} {a : Act} {w : World} (hm : P.follows .mixedOrders = true) (Inv : (Nat → Bool) → Act → World → Prop)
    (hord : ∀ (i : Nat) (o : Oper), ops[i]? = some o → ∀ e ∈ o.after, Region.binds .any e = true → e.on < i) (hgd : ∀ (i : Nat) (o : Oper), ops[i]? = some o → o.guard = none)
    (step : ∀ (L : Nat → Bool) (i : Nat) (o : Oper), ops[i]? = some o → L i = false → (∀ e ∈ o.after, Region.binds .any e = true → L e.on = true) → ∀ a w, Inv L a w →
      o.wpIn Fence.wide 0 P a w (Inv (fun j => decide (j = i) || L j)) Q)
    (done : ∀ (L : Nat → Bool) a w, (∀ i, i < ops.size → L i = true) → Inv L a w → Q .normal a w)
    (h0 : Inv (fun _ => false) a { w with drawn := w.drawn + 1 }) : (Code.region id ops true).wpIn Fence.wide 0 P Q a w := by
  refine wpIn_region_any hm (any_flow Inv hord hgd step done ops.size _ a _ (by simp) ?_ ?_)
  · exact Nat.le_trans (List.length_filter_le _ _) (by simp)
  · have e : (fun j => (Array.replicate ops.size false).getD j false) = fun _ => false := by
      funext j
      by_cases hj : j < ops.size <;> simp [hj]
    rw [e]; exact h0
end Go.Ab
namespace Go.Ab
def flowB (ops : Array Oper) : Bool := (List.range ops.size).all fun i => match ops[i]? with | some o => o.after.all (fun e => !Region.binds .any e || decide (e.on < i)) && o.guard.isNone | none => true
theorem flowB_of {ops : Array Oper} (h : flowB ops = true) {i : Nat} {o : Oper} (ho : ops[i]? = some o) : (∀ e ∈ o.after, Region.binds .any e = true → e.on < i) ∧ o.guard = none := by
  have hi := (Array.getElem?_eq_some_iff.1 ho).1
  have h1 := List.all_eq_true.1 h i (List.mem_range.2 hi)
  rw [ho] at h1
  simp only [Bool.and_eq_true] at h1
  refine ⟨fun e he hb => ?_, by simpa using h1.2⟩
  have := Array.all_eq_true'.1 h1.1 e he
  simpa [hb] using this
theorem wpIn_region_flowB {P : Program} {ops : Array Oper} {Q : Exit → Act → World → Prop} {id : Nat} {a : Act} {w : World} (hm : P.follows .mixedOrders = true) (hB : flowB ops = true) (Inv : (Nat → Bool) → Act → World → Prop)
    (h0 : Inv (fun _ => false) a { w with drawn := w.drawn + 1 })
    (step : ∀ (L : Nat → Bool) (i : Nat) (o : Oper), ops[i]? = some o → L i = false → (∀ e ∈ o.after, Region.binds .any e = true → L e.on = true) → ∀ a w, Inv L a w →
      o.wpIn Fence.wide 0 P a w (Inv (fun j => decide (j = i) || L j)) Q)
    (done : ∀ (L : Nat → Bool) a w, (∀ i, i < ops.size → L i = true) → Inv L a w → Q .normal a w) : (Code.region id ops true).wpIn Fence.wide 0 P Q a w :=
  wpIn_region_flow hm Inv (fun i o ho => (flowB_of hB ho).1) (fun i o ho => (flowB_of hB ho).2) step done h0
end Go.Ab
namespace Go.Ab
/-- The operations of the region of this number. -/
def codeOps (n : Nat) : Code → List (Array Oper)
  | .region i ops _ => if i == n then [ops] else []
  | .seq a b => codeOps n a ++ codeOps n b
  | .cond _ a b => codeOps n a ++ codeOps n b
  | .block _ b => codeOps n b
  | .loop b => codeOps n b
  | .rangeFunc _ _ a b => codeOps n a ++ codeOps n b
  | .scope b => codeOps n b
  | _ => []
def opsAt (f : Func) (n : Nat) : Array Oper := (((f.body.map (codeOps n)).getD [])).headD #[]
end Go.Ab
end
section
namespace Go.Ab
open Go.RowKit

/-- A frame of a function that yields: T are the blocks that count as the iterator's, U of them those that this frame may turn. -/
structure IR2 (P : Program) (T U : Nat → Prop) (S : Addr → Prop) (M : MM) (s : St) (a : Act) (w : World) : Prop where
  lt : ∀ b, T b → b < w.heap.size ∧ M b = none
  ut : ∀ b, U b → T b
  rg : ∃ g : Gh, g.S = S ∧ g.M = M ∧ RG ⟨P, w, S, M, none, fun b => U b ∨ w.heap.size ≤ b, []⟩ s a w g

section
variable {P : Program} {T U : Nat → Prop} {S : Addr → Prop} {M : MM} {s : St} {a : Act} {w : World}

theorem IR2.next {s' : St} {a' : Act} {w' : World} {g' : Gh} (lt : ∀ b, T b → b < w.heap.size ∧ M b = none) (ut : ∀ b, U b → T b)
    (h : RG ⟨P, w, S, M, none, fun b => U b ∨ w.heap.size ≤ b, []⟩ s' a' w' g') :
    ∃ T' U', IGrow T S M w T' g'.S g'.M w' ∧ IR2 P T' U' g'.S g'.M s' a' w' ∧ (∀ b, T b → T' b) ∧ (∀ b, U' b → U b ∨ w.heap.size ≤ b) ∧ ∀ b, T b → ¬ U b → w'.heap[b]? = w.heap[b]? := by
  have hsz : w.heap.size ≤ w'.heap.size := h.below.size
  have hMn : ∀ b, T b → g'.M b = none := fun b hb => by
    cases hm : g'.M b with
    | none => rfl
    | some f => rcases h.df.mfrom b f hm with h1 | h1
                · have := (lt b hb).2; simp only at h1; rw [this] at h1; cases h1
                · have := (lt b hb).1; simp only at h1; omega
  let T' : Nat → Prop := fun b => T b ∨ (w.heap.size ≤ b ∧ b < w'.heap.size ∧ g'.M b = none)
  let U' : Nat → Prop := fun b => (U b ∨ w.heap.size ≤ b) ∧ b < w'.heap.size ∧ g'.M b = none
  have own' : ∀ b, (U b ∨ w.heap.size ≤ b) → b < w'.heap.size → g'.M b = none → U' b := fun b h1 h2 h3 => ⟨h1, h2, h3⟩
  refine ⟨T', U', ⟨⟨h.below.os, h.below.tape, h.below.output, h.below.size, fun k hk hn => h.below.block k hk (fun hm => hm.elim (fun ho => ho.elim (fun ht => hn (.inl (ut k ht))) (fun hl => by omega)) (fun hm => hn (.inr hm)))⟩,
    fun b hb => hb.elim .inl (fun h => .inr h.1), fun b hb => hb.elim (fun h => ⟨Nat.lt_of_lt_of_le (lt b h).1 hsz, hMn b h⟩) (fun h => h.2), h.S0, fun x hx => ?_, h.df.kp0, h.df.m0, h.df.mfrom, h.df.mok, h.good⟩,
    ⟨fun b hb => hb.elim (fun h => ⟨Nat.lt_of_lt_of_le (lt b h).1 hsz, hMn b h⟩) (fun h => h.2), fun b hb => hb.1.elim (fun h => .inl (ut b h)) (fun h => .inr ⟨h, hb.2⟩), g', rfl, rfl, ?_⟩, fun b hb => .inl hb, fun b hb => hb.1, fun b hb hu => ?_⟩
  · rcases h.from0 x hx with h1 | h1 | h1
    · exact .inl h1
    · exact .inr (.inl (ut _ h1))
    · exact .inr (.inr h1)
  · refine ⟨⟨⟨h.df.dok.1, fun d hd => ?_⟩, h.df.mok, fun _ _ h => h, fun _ _ h => .inl h, fun i b hb => by simp at hb, fun _ _ => rfl⟩, h.sz, .of (Below.refl _ _), fun b hb => .inr hb, h.good, fun _ h => .inl h, fun _ h => h, h.good, h.lβ, h.lρ, h.sl, fun i cs hi => ?_, fun i cs hi => ?_, fun r row hr => ?_, h.ap⟩
    · obtain ⟨D', hB, e, hD⟩ := h.df.dok.2 d hd
      exact ⟨D', .inl (own' D' hB (Array.getElem?_eq_some_iff.1 hD).1 (h.df.mok.noDefs hD)), e, hD⟩
    · obtain ⟨b, vs, t, e1, e2, e3, e4, e5⟩ := (h.bx i cs hi).ex
      exact ⟨b, vs, t, e1, e2, e3, .inl (own' b e4 (Array.getElem?_eq_some_iff.1 e2).1 (h.df.mok.noCells e2)), e5⟩
    · obtain ⟨b, vs, t, e1, e2, e3, e4, e5⟩ := (h.fz i cs hi).ex
      exact ⟨b, vs, t, e1, e2, e3, .inl (own' b e4 (Array.getElem?_eq_some_iff.1 e2).1 (h.df.mok.noCells e2)), e5⟩
    · obtain ⟨v, e1, e2, e3⟩ := (h.rw r row hr).ex
      refine ⟨v, e1, e2, fun hl => ?_⟩
      obtain ⟨⟨vals, hown⟩, hcl, hS⟩ := e3 hl
      refine ⟨⟨vals, hown⟩, hcl, fun gb hgb => ⟨.inl (own' gb (hS gb hgb).1 (hown.lt gb hgb).2 ?_), (hS gb hgb).2⟩⟩
      rcases hown.2 with ⟨rfl, _⟩ | ⟨g2, cap, cur, rfl, _, hgg, _⟩
      · simp [Value.ownBlock] at hgb
      · simp [Value.ownBlock] at hgb
        subst hgb
        exact h.df.mok.noCells hgg
  · refine h.below.block b (lt b hb).1 (fun hm => ?_)
    rcases hm with (h1 | h1) | h1
    · exact hu h1
    · have := (lt b hb).1; omega
    · exact h1 (lt b hb).2

/-- The world has turned elsewhere. -/
theorem IR2.move {T' : Nat → Prop} {S' : Addr → Prop} {M' : MM} {w' : World} (h : IR2 P T U S M s a w) (lt' : ∀ b, T' b → b < w'.heap.size ∧ M' b = none) (ut' : ∀ b, U b → T' b)
    (t : ∀ b, U b → w'.heap[b]? = w.heap[b]?) (cell : ∀ x, S x → w'.cell? x = w.cell? x) (s1 : ∀ x, S x → S' x) (s3 : ∀ x, S' x → U x.block → S x) (m1 : ∀ b f, M b = some f → M' b = some f) (mok : MOk w' M') (good : Good w' S') :
    IR2 P T' U S' M' s a w' := by
  obtain ⟨lt, ut, g, rfl, rfl, hg⟩ := h
  have k : Keeps w g w' ⟨S', g.β, g.ρ, M'⟩ := ⟨cell, s1, fun _ _ h => h, fun _ _ h => h, m1⟩
  have hT : ∀ b, b < w.heap.size → (U b ∨ w.heap.size ≤ b) → U b := fun b hb h => h.elim id (fun h => by omega)
  refine ⟨lt', ut', ⟨S', g.β, g.ρ, M'⟩, rfl, rfl, ?_⟩
  refine ⟨⟨⟨hg.df.dok.1, fun d hd => ?_⟩, mok, fun _ _ h => h, fun _ _ h => .inl h, fun i b hb => by simp at hb, fun _ _ => rfl⟩, hg.sz, .of (Below.refl _ _), fun b hb => .inr hb, good, fun _ h => .inl h, fun _ h => h, good, hg.lβ, hg.lρ, fun n => (hg.sl n).keep k, fun i cs hi => ?_, fun i cs hi => ?_, fun r row hr => ?_, hg.ap⟩
  · obtain ⟨D', hB, e, hD⟩ := hg.df.dok.2 d hd
    have ht := hT D' (Array.getElem?_eq_some_iff.1 hD).1 hB
    exact ⟨D', .inl ht, e, (t D' ht).trans hD⟩
  · obtain ⟨b, vs, tt, e1, e2, e3, e4, e5, e6⟩ := (hg.bx i cs hi).ex
    have ht := hT b (Array.getElem?_eq_some_iff.1 e2).1 e4
    exact ⟨b, vs, tt, e1, (t b ht).trans e2, e3.keep k, .inl ht, fun _ x hx e => e5 rfl x (s3 x hx (by rw [e]; exact ht)) e, fun h => by cases h⟩
  · obtain ⟨b, vs, tt, e1, e2, e3, e4, e5, e6⟩ := (hg.fz i cs hi).ex
    have ht := hT b (Array.getElem?_eq_some_iff.1 e2).1 e4
    exact ⟨b, vs, tt, e1, (t b ht).trans e2, e3.keep k.er, .inl ht, (fun h => by cases h), fun h q hq => s1 _ (e6 h q hq)⟩
  · obtain ⟨v, e1, e2, e3⟩ := (hg.rw r row hr).ex
    refine ⟨v, e1, e2.keep k, fun hl => ?_⟩
    obtain ⟨⟨vals, hown⟩, hcl, hS⟩ := e3 hl
    refine ⟨⟨vals, hown.1, ?_⟩, hcl, fun gb hgb => ?_⟩
    · rcases hown.2 with hn | ⟨g2, cap, cur, rfl, hg2, hgg, rest⟩
      · exact .inl hn
      · have ht := hT g2 (Array.getElem?_eq_some_iff.1 hgg).1 (hS g2 rfl).1
        exact .inr ⟨g2, cap, cur, rfl, hg2, (t g2 ht).trans hgg, rest⟩
    · have ht := hT gb (hown.lt gb hgb).2 (hS gb hgb).1
      exact ⟨.inl ht, fun x hx e => (hS gb hgb).2 x (s3 x hx (by rw [e]; exact ht)) e⟩
end

/-- What a call that yields may do to what lay before it: of the blocks T0 one may be written (behind what counts). -/
structure SG (T0 : Nat → Prop) (S0 : Addr → Prop) (M0 : MM) (w0 : World) (T : Nat → Prop) (S : Addr → Prop) (M : MM) (w : World) (pin : Option Nat) : Prop where
  os : w.os = w0.os
  tape : w.tape = w0.tape
  output : w.output = w0.output
  size : w0.heap.size ≤ w.heap.size
  t1 : ∀ b, T0 b → T b
  keep : ∀ b, T0 b → pin ≠ some b → w.heap[b]? = w0.heap[b]?
  s1 : ∀ x, S0 x → S x
  s3 : ∀ x, S x → T0 x.block → S0 x
  cell : ∀ x, S0 x → w.cell? x = w0.cell? x
  m1 : ∀ b f, M0 b = some f → M b = some f

/-- What is known at the start of a call of a function that searches: the list that it goes on from lies in the block of v. -/
structure SEnv where
  c : IC
  T0 : Nat → Prop
  S0 : Addr → Prop
  M0 : MM
  w0 : World
  e : TypeId
  v : Value
  xs : List Int
structure SEnv.Ok (E : SEnv) : Prop where
  ok : E.c.Ok
  lt0 : ∀ b, E.T0 b → b < E.w0.heap.size ∧ E.M0 b = none
  hv : ∀ g, E.v.ownBlock = some g → E.T0 g ∧ ∀ x, E.S0 x → x.block ≠ g

def Pin (w : World) (e : TypeId) (v : Value) (xs : List Int) : Prop := w.ownsRow 0 e 1 v xs.length (xs.map (Value.int .i64))
theorem Pin.kept {w w' : World} {e : TypeId} {v : Value} {xs : List Int} (h : Pin w e v xs) (hk : ∀ g, v.ownBlock = some g → w'.heap[g]? = w.heap[g]?) : Pin w' e v xs := by
  refine ⟨h.1, ?_⟩
  rcases h.2 with hn | ⟨g, cap, cur, rfl, hg, hgg, rest⟩
  · exact .inl hn
  · exact .inr ⟨g, cap, cur, rfl, hg, (hk g rfl).trans hgg, rest⟩

/-- The frame of a call that searches; tp is a list that was just made for the next call. -/
def RS (E : SEnv) (tp : Option (Value × List Int)) (i : Ix) (s : St) (a : Act) (w : World) : Prop :=
  ∃ T U S M, JX E.c.J E.c.Jx i T S M w ∧ IR2 E.c.P T U S M s a w ∧ SG E.T0 E.S0 E.M0 E.w0 T S M w E.v.ownBlock ∧ (∀ b, E.T0 b → ¬ U b) ∧ Pin w E.e E.v E.xs ∧
    ∀ v ys, tp = some (v, ys) → Pin w E.e v ys ∧ (E.v.ownBlock = v.ownBlock → ∀ w', Pin w' E.e v ys → Pin w' E.e E.v E.xs) ∧ ∀ g, v.ownBlock = some g → T g ∧ ¬ U g ∧ (∀ x, S x → x.block ≠ g) ∧ (E.T0 g → E.v.ownBlock = some g)

theorem rs_ok {E : SEnv} (hE : E.Ok) {tp : Option (Value × List Int)} : ROk E.c.P (RS E tp) := by
  rintro i s a w ⟨T, U, S, M, hJ, ⟨lt, ut, g, rfl, rfl, hg⟩, hs, hU, hp, ht⟩
  refine ⟨w, g.S, g.M, fun b => U b ∨ w.heap.size ≤ b, ⟨g, hg⟩, ?_⟩
  rintro s' a' w' ⟨g', h⟩
  obtain ⟨T', U', hi, hr, ht1, hu1, hk⟩ := IR2.next lt ut h
  have hUn : ∀ b, T b → ¬ U b → ¬ U' b := fun b h1 h2 h3 => (hu1 b h3).elim h2 (fun h => by have := (lt b h1).1; omega)
  have hSn : ∀ x, g'.S x → T x.block → ¬ U x.block → g.S x := fun x hx h1 h2 => by
    rcases h.from0 x hx with h3 | h3 | h3
    · exact h3
    · exact (h2 h3).elim
    · have := (lt _ h1).1; omega
  refine ⟨T', U', g'.S, g'.M, hE.ok.ab i _ _ _ _ _ _ _ _ hJ hi, hr, ⟨h.below.os.trans hs.os, h.below.tape.trans hs.tape, h.below.output.trans hs.output, Nat.le_trans hs.size h.below.size, fun b hb => ht1 b (hs.t1 b hb),
    fun b hb hn => (hk b (hs.t1 b hb) (hU b hb)).trans (hs.keep b hb hn), fun x hx => h.S0 x (hs.s1 x hx), fun x hx hb => hs.s3 x (hSn x hx (hs.t1 _ hb) (hU _ hb)) hb, fun x hx => (h.df.kp0 x (hs.s1 x hx)).trans (hs.cell x hx), fun b f hb => h.df.m0 b f (hs.m1 b f hb)⟩,
    fun b hb => hUn b (hs.t1 b hb) (hU b hb), hp.kept (fun gb hgb => hk gb (hs.t1 _ (hE.hv gb hgb).1) (hU _ (hE.hv gb hgb).1)), fun v ys e => ?_⟩
  obtain ⟨h1, h3, h2⟩ := ht v ys e
  refine ⟨h1.kept (fun gb hgb => hk gb (h2 gb hgb).1 (h2 gb hgb).2.1), h3, fun gb hgb => ?_⟩
  obtain ⟨q1, q2, q3, q4⟩ := h2 gb hgb
  exact ⟨ht1 gb q1, hUn gb q1 q2, fun x hx e => q3 x (hSn x hx (e ▸ q1) (e ▸ q2)) e, q4⟩

/-- A yield. -/
theorem rs_yield {E : SEnv} (hE : E.Ok) {o : Oper} {fx x : Operand} {at_ : Array TypeId} {k : Nat} {d : List D} {s : St} {a : Act} {w : World} {N : Act → World → Prop} {Q : Exit → Act → World → Prop}
    (ho : o.op = .call ⟨.value fx, #[x], at_⟩) (hr : RS E none (true, k) s a w) (hf : s.ev fx = .val (.func (.yield E.c.l) #[] #[])) (hd : pureDs s.bx s.rw [s.ev x] = some d) (hk : E.c.xs[k]? = some d) (hdst : dstOk s o.dst)
    (hN : ∀ (b : Bool) a' w', RS E none (b, k + 1) (s.put o.dst (.bool b)) a' w' → N a' w') : o.wpIn Fence.wide 0 E.c.P a w N Q := by
  obtain ⟨T, U, S, M, hJ, hir, hs, hU, hp, _⟩ := hr
  have hir0 := hir
  obtain ⟨lt, ut, g, rfl, rfl, hg⟩ := hir
  have hfx := hg.ev fx
  rw [hf] at hfx
  generalize hv : a.eval fx = vf at hfx
  cases hfx
  obtain ⟨q1, q2⟩ := pureDs_get hd
  have hY := hE.ok.rd k T g.S g.M w [a.eval x] d hk hJ (by rw [q1]; rfl) (fun q dd hq => by
    obtain ⟨z, hz, hp⟩ := q2 q dd hq
    have hq0 : q = 0 := by have := (List.getElem?_eq_some_iff.1 hz).1; simp at this; exact this
    subst hq0
    simp at hz
    subst hz
    exact pureD_rel hg (hg.ev x) hp)
  obtain ⟨fn, tmps, assign, body, hrun, hround⟩ := hY
  refine ⟨fun _ _ => trivial, ?_⟩
  have hsem : (o.semAt Fence.wide.round a.eval).run E.c.P w = .ok (.round E.c.l fn tmps assign body) w := by
    rw [Oper.semAt_eq _ _ _ (by rw [ho]; intro cl h; cases h)]
    simp [execOp, ho, resolve, hv, Deferred.ofValue, invoke, hrun]
  rw [hsem, Oper.uponIn_round]
  refine ⟨fun h => (by cases h), hround.mono ?_⟩
  rintro e w2 ⟨S2, M2, hf2, hres⟩
  have lt2 : ∀ b, T b → b < w2.heap.size ∧ M2 b = none := fun b hb => ⟨Nat.lt_of_lt_of_le (lt b hb).1 hf2.size, hf2.m3 b hb⟩
  have hr2 := hir0.move lt2 ut (fun b hb => hf2.t b (ut b hb)) hf2.cell hf2.s1 (fun x hx hu => hf2.s3 x hx (ut _ hu)) hf2.m1 hf2.mok hf2.good
  have hs2 : SG E.T0 E.S0 E.M0 E.w0 T S2 M2 w2 E.v.ownBlock := ⟨hf2.os.trans hs.os, hf2.tape.trans hs.tape, hf2.output.trans hs.output, Nat.le_trans hs.size hf2.size, hs.t1,
    fun b hb hn => (hf2.t b (hs.t1 b hb)).trans (hs.keep b hb hn), fun x hx => hf2.s1 x (hs.s1 x hx), fun x hx hb => hs.s3 x (hf2.s3 x hx (hs.t1 _ hb)) hb, fun x hx => (hf2.cell x (hs.s1 x hx)).trans (hs.cell x hx), fun b f hb => hf2.m1 b f (hs.m1 b f hb)⟩
  have fin : ∀ b : Bool, JX E.c.J E.c.Jx (b, k + 1) T S2 M2 w2 → N (a.put o.dst (.bool b)) w2 := fun b hJ2 => by
    obtain ⟨_, _, g2, f1, f2, hg2⟩ := hr2
    exact hN b _ _ ⟨T, U, S2, M2, hJ2, ⟨lt2, ut, g2, f1, f2, hg2.put hdst (.bool _ _)⟩, hs2, hU, hp.kept (fun gb hgb => hf2.t gb (hs.t1 _ (hE.hv gb hgb).1)), fun _ _ h => by cases h⟩
  rcases hres with ⟨rfl, hJ2⟩ | ⟨rfl, hJ2⟩
  · exact fin true hJ2
  · exact fin false hJ2
end Go.Ab
end
section
namespace Go.Ab
open Go.RowKit

theorem run_append_pin (P : Program) {w : World} (t ty e : TypeId) (i : TypeInfo) (z : Value) (bytes : Nat) (ht : P.underlying t = some (.slice e)) (hi : P.info? e = some i) (hz : i.zero = some z)
    (hsize : i.size = 1) (hby : i.bytes = bytes) (hzs : z.cells.size = 1) (v : Value) (xs : List Int) (hp : Pin w e v xs) (ad : Addr) (q : Nat) (n : Int) (hc : w.cell? (ad.add 0) = some (.int .i64 n))
    (h63 : xs.length + 1 ≤ maxLen) (hbytes : (xs.length + 1) * bytes ≤ 140737488355328) :
    ∃ v' w', (Builtin.append_ #[t, t] ty #[v, .slice (some ad) 1 q]).run P w = .ok v' w' ∧ Pin w' e v' (xs ++ [n]) ∧
      ((∃ g, v.ownBlock = some g ∧ v'.ownBlock = some g ∧ w.grownBy w' (some g) ∧ Pin w' e v xs ∧ ∀ w2, Pin w2 e v' (xs ++ [n]) → Pin w2 e v xs) ∨ (v'.ownBlock = some w.heap.size ∧ w.grownBy w' none)) := by
  have hnews : ∀ j u, [Value.int .i64 n][j]? = some u → w.cell? (ad.add j) = some u := fun j u hj => by
    match j with
    | 0 => simp at hj; subst hj; exact hc
    | j + 1 => simp at hj
  have h1 : ∀ u ∈ [Value.int .i64 n], u.oneCell' = true := fun u hu => by
    rw [List.mem_singleton.1 hu]; rfl
  have hany := run_append_any (w := w) P 0 t ty e i z 1 bytes ht hi hz hsize hby hzs (by decide) v xs.length _ hp (some ad) 1 q [.int .i64 n] rfl (fun _ => ⟨ad, rfl, hnews⟩) h1 h63 hbytes (Nat.zero_le _)
  have hmap : (xs ++ [n]).map (Value.int .i64) = xs.map (Value.int .i64) ++ [.int .i64 n] := by simp
  have hlen : (xs ++ [n]).length = xs.length + 1 := by simp
  have hgen : ¬ (∃ g cap cur, v = .slice (some ⟨g, 0, none⟩) xs.length cap ∧ w.heap[g]? = some (.cells cur e (0, 0)) ∧ xs.length + 1 ≤ cap ∧ cur.size = cap * 1) →
      ∃ v' w', (Builtin.append_ #[t, t] ty #[v, .slice (some ad) 1 q]).run P w = .ok v' w' ∧ Pin w' e v' (xs ++ [n]) ∧ (v'.ownBlock = some w.heap.size ∧ w.grownBy w' none) := fun hno => by
    obtain ⟨v', w', hrun, hown, hgr, hblk⟩ := hany
    refine ⟨v', w', hrun, by unfold Pin; rw [hlen, hmap]; exact hown, ?_⟩
    rcases hblk with hb | hb
    · exfalso
      rcases hp.2 with ⟨rfl, _⟩ | ⟨g, cap, cur, rfl, _, hg, hnc, _, hcs, _⟩
      · rcases hown.2 with ⟨rfl, h0⟩ | ⟨g, cap, cur, rfl, _⟩
        · omega
        · simp [Value.ownBlock] at hb
      · refine hno ⟨g, cap, cur, rfl, hg, ?_, hcs⟩
        rcases Nat.lt_or_ge cap (xs.length + 1) with hlt | hge
        · exfalso
          have holds : ∀ j u, (xs.map (Value.int .i64))[j]? = some u → w.cell? ((⟨g, 0, none⟩ : Addr).add j) = some u := World.ownsRow.cells hp (g := g) rfl
          have hr2 := run_append_grow (P := P) w t ty e i z ht hi hz ⟨g, 0, none⟩ xs.length cap (xs.map (Value.int .i64)) (by rw [hsize]; simp) holds ad 1 q [.int .i64 n] (by rw [hsize]; rfl) hnews (by omega)
            (by simp only [maxLen] at h63; omega) (growslice_fits (by omega) (by rw [hby]; exact hbytes))
          rw [hr2] at hrun
          cases hrun
          have : w.heap.size = g := by simpa [Value.ownBlock] using hb
          have := (Array.getElem?_eq_some_iff.1 hg).1
          omega
        · exact hge
    · exact hb
  by_cases hroom : ∃ g cap cur, v = .slice (some ⟨g, 0, none⟩) xs.length cap ∧ w.heap[g]? = some (.cells cur e (0, 0)) ∧ xs.length + 1 ≤ cap ∧ cur.size = cap * 1
  · clear hgen hany
    obtain ⟨g, cap, cur, rfl, hg, hnc, hcs⟩ := hroom
    have hr2 := run_append_room (P := P) w t ty e i ht hi g xs.length cap cur hg ad 1 q [.int .i64 n] (by rw [hsize]; rfl) hnews h1 hnc (by rw [hsize, hcs]; simp; omega)
    rw [hsize, Nat.mul_one] at hr2
    have hcap : cap ≤ maxLen ∧ cur.toList.take (xs.length * 1) = xs.map (Value.int .i64) := by
      rcases hp.2 with ⟨h, _⟩ | ⟨g', cap', cur', h, _, hg', _, hm, _, ht⟩
      · cases h
      · cases h; rw [hg] at hg'; cases hg'; exact ⟨hm, ht⟩
    have htk : cur.toList.take xs.length = xs.map (Value.int .i64) := by simpa using hcap.2
    have hheap := setRow_heap w g cur (cur.toList.take xs.length ++ [Value.int .i64 n] ++ cur.toList.drop (xs.length + [Value.int .i64 n].length)).toArray e (0, 0) hg
    have hsz : (cur.toList.take xs.length ++ [Value.int .i64 n] ++ cur.toList.drop (xs.length + [Value.int .i64 n].length)).toArray.size = cap * 1 := by
      simp; omega
    refine ⟨_, _, hr2, ?_, .inl ⟨g, rfl, rfl, setRow_grown w g _, ?_, fun w2 hw2 => ?_⟩⟩
    · refine ⟨by simp, .inr ⟨g, cap, _, by rw [hlen], Nat.zero_le _, hheap, by rw [hlen]; exact hnc, hcap.1, hsz, ?_⟩⟩
      rw [htk, hlen, hmap]
      have : (xs.length + 1) * 1 = (xs.map (Value.int .i64) ++ [Value.int .i64 n]).length := by simp
      rw [this]
      exact List.take_left
    · refine ⟨by simp, .inr ⟨g, cap, _, rfl, Nat.zero_le _, hheap, by omega, hcap.1, hsz, ?_⟩⟩
      rw [htk, List.append_assoc]
      have : xs.length * 1 = (xs.map (Value.int .i64)).length := by simp
      rw [this]
      exact List.take_left
    · rcases hw2.2 with ⟨h, _⟩ | ⟨g', cap', cur', h, _, hg', h3, hm, h4, ht⟩
      · cases h
      · simp only [Value.slice.injEq, Option.some.injEq, Addr.mk.injEq] at h
        obtain ⟨⟨h5, _⟩, _, h6⟩ := h
        subst h5; subst h6
        refine ⟨by simp, .inr ⟨g, cap, cur', rfl, Nat.zero_le _, hg', by omega, hm, h4, ?_⟩⟩
        rw [hlen, hmap] at ht
        have e1 : cur'.toList.take (xs.length * 1) = (cur'.toList.take ((xs.length + 1) * 1)).take (xs.length * 1) := by
          rw [List.take_take]; congr 1; omega
        rw [e1, ht]
        have : xs.length * 1 = (xs.map (Value.int .i64)).length := by simp
        rw [this]
        exact List.take_left
  · obtain ⟨v', w', h1, h2, h3⟩ := hgen hroom
    exact ⟨v', w', h1, h2, .inr h3⟩

/-- The list that a search goes on with. -/
theorem rs_append {E : SEnv} (hE : E.Ok) {o : Oper} {x y : Operand} {t : TypeId} {n : Int} {i : Ix} {s : St} {a : Act} {w : World} {N : Act → World → Prop} {Q : Exit → Act → World → Prop}
    (ho : o.op = .call ⟨.builtin .append, #[x, y], #[t, t]⟩) (hr : RS E none i s a w) (hx : s.ev x = .val E.v) (hy : s.ev y = .list [.int .i64 n]) (he : elemOf E.c.P t = some E.e) (hz : szOf E.c.P E.e = 1) (hzz : (zeroD E.c.P E.e).isSome = true)
    (hl : E.xs.length + 1 ≤ 9223372036854775807) (hbytes : (E.xs.length + 1) * bytesOf E.c.P E.e ≤ 140737488355328) (hdst : dstOk s o.dst)
    (hN : ∀ (v : Value) a' w', RS E (some (v, E.xs ++ [n])) i (s.put o.dst (.val v)) a' w' → N a' w') : o.wpIn Fence.wide 0 E.c.P a w N Q := by
  obtain ⟨T, U, S, M, hJ, hir, hs, hU, hp, _⟩ := hr
  have hir0 := hir
  obtain ⟨lt, ut, g, rfl, rfl, hg⟩ := hir
  have hxr := hg.ev x
  rw [hx] at hxr
  have hyr := hg.ev y
  rw [hy] at hyr
  obtain ⟨A, cy, szy, uy, hyv, hszy, hmy, hry⟩ := hyr.list_inv
  obtain ⟨ad, rfl, hc, _, _⟩ := hmy 0 (by simp [flat, D.cells])
  have hu0 : uy 0 = .int .i64 n := by
    have := hry 0 (.int .i64 n) (by simp [flat, D.cells])
    generalize uy 0 = u0 at this
    cases this; rfl
  rw [hu0] at hc
  obtain ⟨zs, hzs⟩ := Option.isSome_iff_exists.1 hzz
  have ⟨ti, z, hi, hiz, hzc, hisz⟩ : ∃ i z, E.c.P.info? E.e = some i ∧ i.zero = some z ∧ z.cells.size = 1 ∧ i.size = 1 := by
    unfold zeroD at hzs
    split at hzs
    · rename_i i hi
      split at hzs
      · rename_i z hz'
        split at hzs
        · rename_i hc
          simp only [Bool.and_eq_true, beq_iff_eq] at hc
          have : i.size = 1 := by rw [← hz]; simp [szOf, Program.cellsOf, hi]
          exact ⟨i, z, hi, hz', by rw [hc.2, this], this⟩
        · cases hzs
      · cases hzs
    · cases hzs
  have hvx : a.eval x = E.v := by
    generalize a.eval x = vx at hxr
    cases hxr; rfl
  obtain ⟨v', w', hrun, hp', hcase⟩ := run_append_pin E.c.P (w := w) t o.type E.e ti z (bytesOf E.c.P E.e) (elemOf_u he) hi hiz hisz (by simp [bytesOf, hi]) hzc E.v E.xs hp ad cy n hc (by simp only [maxLen]; exact hl) hbytes
  have hsem : (o.semAt Fence.wide.round a.eval).run E.c.P w = .ok (.value v') w' := by
    rw [Oper.semAt_eq _ _ _ (by rw [ho]; intro cl h; cases h)]
    simp only [List.length_cons, List.length_nil, Nat.zero_add] at hyv
    simp [execOp, ho, resolve, invoke, builtin, hvx, hyv, hrun]
  refine ⟨fun _ _ => trivial, ?_⟩
  rw [hsem, Oper.uponIn_value]
  -- what is left to show, once the blocks are named
  have key : ∀ T' : Nat → Prop, (∀ b, T b → T' b) → (∀ b, T' b → T b ∨ w.heap.size ≤ b) → (∀ b, T' b → b < w'.heap.size ∧ g.M b = none) → w.heap.size ≤ w'.heap.size → w'.os = w.os → w'.tape = w.tape → w'.output = w.output →
      (∀ b, b < w.heap.size → E.v.ownBlock ≠ some b → w'.heap[b]? = w.heap[b]?) → Pin w' E.e E.v E.xs → (E.v.ownBlock = v'.ownBlock → ∀ w2, Pin w2 E.e v' (E.xs ++ [n]) → Pin w2 E.e E.v E.xs) →
      (∀ gb, v'.ownBlock = some gb → T' gb ∧ ¬ U gb ∧ (∀ x, g.S x → x.block ≠ gb) ∧ (E.T0 gb → E.v.ownBlock = some gb)) → N (a.put o.dst v') w' := fun T' t1 t2 lt' hsz e1 e2 e3 hb hpv hpre htp => by
    have hvb : ∀ gb, E.v.ownBlock = some gb → T gb ∧ ¬ U gb ∧ ∀ x, g.S x → x.block ≠ gb := fun gb hgb => by
      obtain ⟨q1, q2⟩ := hE.hv gb hgb
      exact ⟨hs.t1 _ q1, hU _ q1, fun x hx e => q2 x (hs.s3 x hx (e ▸ q1)) e⟩
    have hcell : ∀ x, g.S x → w'.cell? x = w.cell? x := fun x hx => World.cell?_of_block (hb _ (hg.good.lt hx) (fun e => (hvb _ e).2.2 x hx rfl))
    have hgood : Good w' g.S := fun x hx => by
      obtain ⟨u, hu⟩ := hg.good x hx
      exact ⟨u, (hcell x hx).trans hu⟩
    have hmok : MOk w' g.M := fun b f hf => by
      obtain ⟨es, cl, q1, q2⟩ := hg.df.mok b f hf
      refine ⟨es, cl, (hb b (Array.getElem?_eq_some_iff.1 q1).1 (fun e => ?_)).trans q1, q2⟩
      have := (lt b (hvb b e).1).2
      rw [this] at hf; cases hf
    have hi : IGrow T g.S g.M w T' g.S g.M w' := ⟨⟨e1, e2, e3, hsz, fun k hk hn => hb k hk (fun e => hn (.inl (hvb k e).1))⟩, t2, lt', fun _ h => h, fun _ h => .inl h, hcell, fun _ _ h => h, fun _ _ h => .inl h, hmok, hgood⟩
    obtain ⟨_, ut', g2, f1, f2, hg2⟩ := hir0.move lt' (fun b hb => t1 b (ut b hb)) (fun b hb' => hb b (lt b (ut b hb')).1 (fun e => (hvb b e).2.1 hb')) hcell (fun _ h => h) (fun _ h _ => h) (fun _ _ h => h) hmok hgood
    refine hN v' _ _ ⟨T', U, g.S, g.M, hE.ok.ab i _ _ _ _ _ _ _ _ hJ hi, ⟨lt', ut', g2, f1, f2, hg2.put hdst (.val _ _)⟩, ⟨e1.trans hs.os, e2.trans hs.tape, e3.trans hs.output, Nat.le_trans hs.size hsz, fun b hb => t1 b (hs.t1 b hb),
      fun b hb' hn => (hb b (lt b (hs.t1 b hb')).1 hn).trans (hs.keep b hb' hn), hs.s1, hs.s3, fun x hx => (hcell x (hs.s1 x hx)).trans (hs.cell x hx), hs.m1⟩, hU, hpv, ?_⟩
    rintro v ys e
    cases e
    exact ⟨hp', hpre, htp⟩
  rcases hcase with ⟨gb, hb1, hb2, hgr, hpv, hpre⟩ | ⟨hb1, hgr⟩
  · obtain ⟨q1, q2⟩ := hE.hv gb hb1
    refine key T (fun _ h => h) (fun _ h => .inl h) (fun b hb => ⟨Nat.lt_of_lt_of_le (lt b hb).1 hgr.size, (lt b hb).2⟩) hgr.size hgr.os hgr.tape hgr.output (fun b hb hn => hgr.block b hb (fun e => hn (by rw [hb1]; exact e.symm))) hpv (fun _ => hpre) (fun g' hg' => ?_)
    rw [hb2] at hg'
    cases hg'
    exact ⟨hs.t1 _ q1, hU _ q1, fun x hx e => q2 x (hs.s3 x hx (e ▸ q1)) e, fun _ => hb1⟩
  · have hnew : w.heap.size < w'.heap.size := by
      rcases hp'.2 with ⟨rfl, _⟩ | ⟨g2, cap, cur, rfl, _, hg2, _⟩
      · simp [Value.ownBlock] at hb1
      · simp [Value.ownBlock] at hb1
        subst hb1
        exact (Array.getElem?_eq_some_iff.1 hg2).1
    have hMn : g.M w.heap.size = none := by
      cases hm : g.M w.heap.size with
      | none => rfl
      | some f =>
        obtain ⟨es, cl, q1, _⟩ := hg.df.mok _ f hm
        have := (Array.getElem?_eq_some_iff.1 q1).1
        omega
    refine key (fun b => T b ∨ b = w.heap.size) (fun _ h => .inl h) (fun b h => h.elim .inl (fun h => .inr (Nat.le_of_eq h.symm))) (fun b hb => ?_) hgr.size hgr.os hgr.tape hgr.output (fun b hb _ => hgr.block b hb (by simp)) ?_ (fun e => ?_) (fun g' hg' => ?_)
    · rcases hb with hb | rfl
      · exact ⟨Nat.lt_of_lt_of_le (lt b hb).1 hgr.size, (lt b hb).2⟩
      · exact ⟨hnew, hMn⟩
    · exact hp.kept (fun gb hgb => hgr.block gb (lt gb (hs.t1 _ (hE.hv gb hgb).1)).1 (by simp))
    · exfalso
      have := (lt _ (hs.t1 _ (hE.hv _ (e.trans hb1)).1)).1
      omega
    · rw [hb1] at hg'
      cases hg'
      refine ⟨.inr rfl, fun hu => ?_, fun x hx e => ?_, fun ht => ?_⟩
      · have := (lt _ (ut _ hu)).1; omega
      · have := hg.good.lt hx; omega
      · have := (lt _ (hs.t1 _ ht)).1; omega

/-- A call of a function that searches. -/
def SearchC (c : IC) (f : FuncId) (e : TypeId) (lb : List Value) (cs : List D) (xs : List Int) (left : Int) (out : List (List D)) : Prop :=
  ∀ (T : Nat → Prop) (S : Addr → Prop) (M : MM) (w : World) (k : Nat) (v : Value), JX c.J c.Jx (true, k) T S M w → (∀ b, T b → b < w.heap.size ∧ M b = none) → MOk w M → Good w S → Pin w e v xs →
    (∀ g, v.ownBlock = some g → T g ∧ ∀ x, S x → x.block ≠ g) → (∀ q x, cs[q]? = some x → Rel w ⟨S, [], [], M⟩ (lb.getD q Go.undef) x) → (∀ q, q < out.length → c.xs[k + q]? = out[q]?) →
    Calls c.P f (v :: .int .i64 left :: lb).toArray w fun e' w' => ∃ b k' T' S' M', e' = .returned (.bool b) ∧ JX c.J c.Jx (b, k') T' S' M' w' ∧ (b = true → k' = k + out.length) ∧ SG T S M w T' S' M' w' v.ownBlock ∧ Pin w' e v xs ∧
      (∀ b, T' b → b < w'.heap.size ∧ M' b = none) ∧ MOk w' M' ∧ Good w' S'

theorem rs_call {E : SEnv} (hE : E.Ok) {o : Oper} {fx x y : Operand} {at_ : Array TypeId} {f : FuncId} {lb : List Value} {cs : List D} {v : Value} {ys : List Int} {left : Int} {out : List (List D)} {k : Nat} {s : St} {a : Act} {w : World}
    {N : Act → World → Prop} {Q : Exit → Act → World → Prop} (ho : o.op = .call ⟨.value fx, #[x, y], at_⟩) (hr : RS E (some (v, ys)) (true, k) s a w) (hf : s.ev fx = .val (.func (.func f) #[] ⟨lb⟩)) (hx : s.ev x = .val v) (hy : s.ev y = .int .i64 left)
    (hcf : ∀ (args : Array Value) (w : World), (callFunc f args).run E.c.P w = .ok (.enter f args) w) (hS : SearchC E.c f E.e lb cs ys left out) (hlb : ∀ q x, cs[q]? = some x → Rel E.w0 ⟨E.S0, [], [], E.M0⟩ (lb.getD q Go.undef) x)
    (hxs : ∀ q, q < out.length → E.c.xs[k + q]? = out[q]?) (hdst : dstOk s o.dst) (hN : ∀ (b : Bool) k' a' w', (b = true → k' = k + out.length) → RS E none (b, k') (s.put o.dst (.bool b)) a' w' → N a' w') : o.wpIn Fence.wide 0 E.c.P a w N Q := by
  obtain ⟨T, U, S, M, hJ, hir, hs, hU, hp, htp⟩ := hr
  obtain ⟨hpv, hpre, hvb⟩ := htp v ys rfl
  have hir0 := hir
  obtain ⟨lt, ut, g, rfl, rfl, hg⟩ := hir
  have e1 := hg.ev fx
  rw [hf] at e1
  have e2 := hg.ev x
  rw [hx] at e2
  have e3 := hg.ev y
  rw [hy] at e3
  generalize hv1 : a.eval fx = v1 at e1
  generalize hv2 : a.eval x = v2 at e2
  generalize hv3 : a.eval y = v3 at e3
  cases e1; cases e2; cases e3
  have hcl := hS T g.S g.M w k v hJ lt hg.df.mok hg.good hpv (fun gb hgb => ⟨(hvb gb hgb).1, (hvb gb hgb).2.2.1⟩) (fun q x hx => (hlb q x hx).keep ⟨hs.cell, hs.s1, fun _ _ h => h, fun _ _ h => h, hs.m1⟩) hxs
  refine ⟨fun _ _ => trivial, ?_⟩
  have hsem : (o.semAt Fence.wide.round a.eval).run E.c.P w = .ok (.enter f (v :: .int .i64 left :: lb).toArray) w := by
    rw [Oper.semAt_eq _ _ _ (by rw [ho]; intro cl h; cases h)]
    simp [execOp, ho, resolve, hv1, hv2, hv3, Deferred.ofValue, invoke, hcf]
  rw [hsem, Oper.uponIn_enter]
  refine ⟨fun h => (by cases h), callsIn_wide.2 (hcl.mono ?_)⟩
  rintro e' w' ⟨b, k', T', S', M', rfl, hJ', hk', hs', hpv', lt', hmok, hgood⟩
  obtain ⟨_, ut', g2, f1, f2, hg2⟩ := hir0.move lt' (fun b hb => hs'.t1 b (ut b hb)) (fun b hb => hs'.keep b (ut b hb) (fun e => (hvb b e).2.1 hb)) hs'.cell hs'.s1 (fun x hx hu => hs'.s3 x hx (ut _ hu)) hs'.m1 hmok hgood
  refine hN b k' _ _ hk' ⟨T', U, S', M', hJ', ⟨lt', ut', g2, f1, f2, hg2.put hdst (.bool _ _)⟩, ⟨hs'.os.trans hs.os, hs'.tape.trans hs.tape, hs'.output.trans hs.output, Nat.le_trans hs.size hs'.size, fun b hb => hs'.t1 b (hs.t1 b hb),
    fun b hb hn => (hs'.keep b (hs.t1 b hb) (fun e => hn ((hvb b e).2.2.2 hb))).trans (hs.keep b hb hn), fun x hx => hs'.s1 x (hs.s1 x hx), fun x hx hb => hs.s3 x (hs'.s3 x hx (hs.t1 _ hb)) hb, fun x hx => (hs'.cell x (hs.s1 x hx)).trans (hs.cell x hx), fun b f hb => hs'.m1 b f (hs.m1 b f hb)⟩,
    hU, ?_, fun _ _ h => by cases h⟩
  by_cases heq : E.v.ownBlock = v.ownBlock
  · exact hpre heq w' hpv'
  · refine hp.kept (fun gb hgb => hs'.keep gb (hs.t1 _ (hE.hv gb hgb).1) (fun e => heq (by rw [hgb, e])))
end Go.Ab
end
section
namespace Go.Ab
open Go.RowKit

section
variable {c : Ctx} {s : St} {a : Act} {w : World} {g : Gh}

/-- A slice that nothing else lies in is taken for a row of the call's own. -/
theorem RG.pushRow {v : Value} {xs : List D} {e : TypeId} {sz : Nat} {vals : List Value} (h : RG c s a w g) (hrel : Rel w g v (.list xs)) (hown : w.ownsRow 0 e sz v xs.length vals) (hcl : ∀ x ∈ xs, x.cells.length = sz)
    (hS : ∀ gb, v.ownBlock = some gb → c.own gb ∧ ∀ x, g.S x → x.block = gb → x.off < xs.length * sz)
    (hb1 : ∀ gb, v.ownBlock = some gb → ∀ (i : Nat) (x : Bx) (b : Nat), s.bx[i]? = some x → x.live = true → g.β[i]? = some b → b ≠ gb)
    (hb2 : ∀ gb, v.ownBlock = some gb → ∀ (r : Nat) (row : Row) (v2 : Value) (g2 : Nat), s.rw[r]? = some row → row.live = true → g.ρ[r]? = some v2 → v2.ownBlock = some g2 → g2 ≠ gb) :
    RG c { s with rw := s.rw ++ [⟨true, e, sz, xs⟩] } a w ⟨g.S, g.β, g.ρ ++ [v], g.M⟩ := by
  have k : Keeps w g w ⟨g.S, g.β, g.ρ ++ [v], g.M⟩ := ⟨fun _ _ => rfl, fun _ h => h, fun _ _ h => h, fun i b hi => by
    rw [List.getElem?_append_left (List.getElem?_eq_some_iff.1 hi).1]; exact hi, fun _ _ h => h⟩
  have hold : ∀ (i : Nat) (x : Row), (s.rw ++ [⟨true, e, sz, xs⟩])[i]? = some x → s.rw[i]? = some x ∧ i < s.rw.length ∨ x = ⟨true, e, sz, xs⟩ ∧ i = s.rw.length := fun i x hi => by
    rcases Nat.lt_or_ge i s.rw.length with hlt | hge
    · rw [List.getElem?_append_left hlt] at hi; exact .inl ⟨hi, hlt⟩
    · rw [List.getElem?_append_right hge] at hi
      have : i - s.rw.length = 0 := by have := (List.getElem?_eq_some_iff.1 hi).1; simp at this; omega
      rw [this] at hi; simp at hi; exact .inr ⟨hi.symm, by omega⟩
  have hn : (g.ρ ++ [v])[s.rw.length]? = some v := by rw [← h.lρ]; simp
  refine ⟨h.df.gh rfl, h.sz, h.below, h.own0, h.good, h.from0, h.S0, h.good0, h.lβ, by simp [h.lρ], fun n => (h.sl n).keep k, ?_, ?_, ?_, ?_⟩
  · intro i cs hi
    obtain ⟨b, vs, t, e1, e2, e3, e4, e5, e6⟩ := (h.bx i cs hi).ex
    exact ⟨b, vs, t, e1, e2, e3.keep k, e4, e5, e6⟩
  · intro i cs hi
    obtain ⟨b, vs, t, e1, e2, e3, e4, e5, e6⟩ := (h.fz i cs hi).ex
    exact ⟨b, vs, t, e1, e2, e3, e4, e5, e6⟩
  · intro r row hr
    rcases hold r _ hr with ⟨hr, _⟩ | ⟨rfl, rfl⟩
    · obtain ⟨v, e1, e2, e3⟩ := (h.rw r row hr).ex
      exact ⟨v, k.ρ _ _ e1, e2.keep k, e3⟩
    · exact ⟨_, hn, hrel.keep k, fun _ => ⟨⟨vals, hown⟩, hcl, hS⟩⟩
  · obtain ⟨κ, k1, k2⟩ := h.ap
    refine ⟨fun b => if v.ownBlock = some b then .inr s.rw.length else κ b, fun i x b hi hx hb => ?_, fun r row v2 gb hr hl hv hgb => ?_⟩
    · simp only
      rw [if_neg (fun e => hb1 b e i x b hi hx hb rfl)]
      exact k1 i x b hi hx hb
    · rcases hold r _ hr with ⟨hr, hlt⟩ | ⟨rfl, rfl⟩
      · rw [List.getElem?_append_left (by rw [h.lρ]; exact hlt)] at hv
        simp only
        rw [if_neg (fun e => hb2 gb e r row v2 gb hr hl hv hgb rfl)]
        exact k2 r row v2 gb hr hl hv hgb
      · rw [hn] at hv; cases hv
        simp only
        rw [if_pos hgb]

/-- A region that starts with a new empty slice. -/
theorem abs_region_row0 {id d : Nat} {t e : TypeId} {ty : TypeId} {pos : String} {aft : Array Edge} {l : List Oper} {Q : Exit → St → Prop} (he : elemOf c.P t = some e) (hz : szOf c.P e ≠ 0) (hd : d < s.n)
    (h : ∀ K : St → Prop, (∀ s', Q .normal s' → K s') → evOps c.P (⟨some d, .buildSlice t 0 #[], ty, pos, aft, none⟩ :: l) l (St.put { s with rw := s.rw ++ [⟨true, e, szOf c.P e, []⟩] } (some d) (.own s.rw.length)) K) :
    Abs c (.region id (⟨some d, .buildSlice t 0 #[], ty, pos, aft, none⟩ :: l).toArray false) Q s := by
  rintro a w ⟨g, hg⟩
  refine wpIn_region_lit ?_
  obtain ⟨o, ho⟩ : ∃ o : Oper, o = ⟨some d, .buildSlice t 0 #[], ty, pos, aft, none⟩ := ⟨_, rfl⟩
  rw [← ho] at h ⊢
  unfold wpListIn
  rw [if_pos (by rw [ho]; simp [Region.wanted])]
  have hrun : (execOp a.eval o).run c.P w = .ok (.value (.slice (some ⟨w.heap.size, 0, none⟩) 0 0)) (w.alloc (.cells #[] e)) := by
    have r0 : Array.range 0 = #[] := rfl
    rw [ho]
    simp [execOp, Instr.buildSlice, run_underlying (elemOf_u he), run_sizeOf hz, newRow, r0, Instr.fill]
  have hlt : ∀ {b}, b < w.heap.size → b ≠ w.heap.size := fun h e => by omega
  have hb := below_alloc w (.cells #[] e)
  have hw := hg.world hb (fun _ h => h) (fun _ h => .inl h) (hg.good.below hb)
  have hp := hw.pushRow (v := .slice (some ⟨w.heap.size, 0, none⟩) 0 0) (xs := []) (e := e) (sz := szOf c.P e) (vals := [])
    (.list _ _ 0 0 [] (szOf c.P e) (fun _ => Go.undef) rfl (by simp) (fun q hq => by simp [flat] at hq) (fun q d hd => by simp [flat] at hd))
    ⟨by simp, .inr ⟨w.heap.size, 0, #[], rfl, Nat.zero_le _, heap_alloc_new w _, Nat.le_refl _, Nat.zero_le _, by simp, by simp⟩⟩ (by simp)
    (fun gb hgb => by
      simp [Value.ownBlock] at hgb
      subst hgb
      exact ⟨hg.own0 _ hg.below.size, fun x hx e => by have := hg.good.lt hx; omega⟩)
    (fun gb hgb i x b hi hx hb => by
      simp [Value.ownBlock] at hgb
      subst hgb
      exact hlt (hg.boxlt hi hx hb).1)
    (fun gb hgb r row v2 g2 hr hl hv h2 => by
      simp [Value.ownBlock] at hgb
      subst hgb
      exact hlt (hg.rowlt hr hl hv h2).1)
  refine op_in (by rw [ho]; intro cl h; cases h) ?_
  unfold Oper.wp
  rw [hrun]
  have hdst : o.dst = some d := by rw [ho]
  show wpListIn c.F 0 c.P (o :: l).toArray (fun e a' w' => ∃ s', R c s' a' w' ∧ Q e s') l (a.put o.dst _) _
  rw [hdst]
  refine evOps_sound (K := Q .normal) (fun s a w hr hq => ⟨s, hr, hq⟩) l _ _ _ ⟨_, RG.put (s := { s with rw := s.rw ++ [⟨true, e, szOf c.P e, []⟩] }) (dst := some d) (d := .own s.rw.length) hp hd (.own _ _ _ ?_)⟩ (h _ (fun _ h => h))
  show (g.ρ ++ [_])[s.rw.length]? = _
  rw [← hg.lρ]; simp

/-- The leave of a function that hands back one slot. -/
theorem marks_leave1 {fn : Func} {t : Nat} {R : Ending → World → Prop} (hres : fn.results = #[.tmp t]) : ∀ (l : List Deferred) (a : Act) (w : World), RG c s a w g → a.defers = l →
    (∀ w', RG c s { a with defers := [] } w' g → R (.returned (a.tmps.getD t undef)) w') → LeavesInM Fence.wide 0 c.P fn a.tmps R l .returning w
  | [], a, w, h, hl, hR => by
    refine ⟨a.tmps.getD t undef, ?_, hR _ (by rw [show ({ a with defers := [] } : Act) = a by rw [← hl]]; exact h)⟩
    rw [results_eq, hres]
    simp [resOne]
  | d :: l, a, w, h, hl, hR => by
    obtain ⟨hnd, hall⟩ := h.df.dok
    rw [hl] at hnd hall
    obtain ⟨D, hB, rfl, hD⟩ := hall d (List.mem_cons_self ..)
    refine ⟨by simp, .inl ⟨D, _, rfl, run_takeDeferred hD, ?_⟩⟩
    have hg : RG c s { a with defers := l } (w.putObj D (.deferred none)) g := h.turn hD rfl (by simp) hB rfl ⟨(List.nodup_cons.1 hnd).2, fun d' hd' => by
      obtain ⟨D', hB', rfl, hD'⟩ := hall d' (List.mem_cons_of_mem _ hd')
      refine ⟨D', hB', rfl, ?_⟩
      rw [World.putObj_heap_other (fun e => by subst e; exact (List.nodup_cons.1 hnd).1 hd')]
      exact hD'⟩
    exact marks_leave1 hres l { a with defers := l } _ hg rfl hR
end

/-- A call that hands back a new slice, in which nothing else lies. -/
def CallsRow (P : Program) (f : FuncId) (ds : List D) (e : TypeId) (sz : Nat) (xs : List D) : Prop :=
  (∀ (args : Array Value) (w : World), (callFunc f args).run P w = .ok (.enter f args) w) ∧
  ∀ (S : Addr → Prop) (M : MM) (w : World) (args : List Value), Good w S → MOk w M → args.length = ds.length → (∀ q x, ds[q]? = some x → Rel w ⟨S, [], [], M⟩ (args.getD q Go.undef) x) →
    Calls P f args.toArray w fun e' w' => ∃ v S' M', e' = .returned v ∧ Grow w S M w' S' M' ∧ Good w' S' ∧ Rel w' ⟨S', [], [], M'⟩ v (.list xs) ∧ (∃ vals, w'.ownsRow 0 e sz v xs.length vals) ∧ (∀ x ∈ xs, x.cells.length = sz) ∧
      ∀ gb, v.ownBlock = some gb → w.heap.size ≤ gb ∧ ∀ x, S' x → x.block = gb → x.off < xs.length * sz

def rowQ (t : Nat) (e : TypeId) (sz : Nat) (xs : List D) : Exit → St → Prop
  | .normal, s => ∃ r, s.sl t = .own r ∧ s.rw[r]? = some ⟨true, e, sz, xs⟩
  | .ret, s => ∃ r, s.sl t = .own r ∧ s.rw[r]? = some ⟨true, e, sz, xs⟩
  | _, _ => False

theorem callsRow_of_abs {P : Program} {f : FuncId} {fn : Func} {code : Code} {ds : List D} {e : TypeId} {sz t n : Nat} {xs : List D} (hf : P.funcs[f]? = some fn) (hnt : fn.ntmps = n) (hres : fn.results = #[.tmp t])
    (hc : ∀ (args : Array Value) (w : World), (callFunc f args).run P w = .ok (.enter f args) w) (hb : fn.body = some code) (hn : ds.length ≤ n)
    (h : ∀ (w0 : World) (S0 : Addr → Prop) (M0 : MM), Abs ⟨P, w0, S0, M0, none, fun b => w0.heap.size ≤ b, []⟩ code (rowQ t e sz xs) ⟨n, ofL 0 ds, [], []⟩) : CallsRow P f ds e sz xs := by
  subst hnt
  refine ⟨hc, fun S M w args hS hM hl hrel => ?_⟩
  refine (callsIn_wide (n := 0)).1 (callsIn_of_wp_marks hf hb trivial ?_)
  have hw := h w S M { tmps := args.toArray ++ Array.replicate (fn.ntmps - args.toArray.size) undef, defers := [] } w
    ⟨⟨S, [], [], M⟩, ⟨⟨List.nodup_nil, fun d hd => by cases hd⟩, hM, fun _ _ h => h, fun _ _ h => .inl h, fun i b h => by simp at h, fun _ _ => rfl⟩, by simp; omega, .of (Below.refl _ _), fun _ h => h, hS, fun _ h => .inl h, fun _ h => h, hS, rfl, rfl, ?_, ?_, ?_, ?_, ?_⟩
  · refine wpIn_mono (F := Fence.wide) hw ?_
    rintro e' a' w' ⟨s', ⟨g, hg⟩, hq⟩
    have key : (∃ r, s'.sl t = .own r ∧ s'.rw[r]? = some ⟨true, e, sz, xs⟩) → LeavesInM Fence.wide 0 P fn a'.tmps (fun e' w' => ∃ v S' M', e' = .returned v ∧ Grow w S M w' S' M' ∧ Good w' S' ∧ Rel w' ⟨S', [], [], M'⟩ v (.list xs) ∧ (∃ vals, w'.ownsRow 0 e sz v xs.length vals) ∧ (∀ x ∈ xs, x.cells.length = sz) ∧
      ∀ gb, v.ownBlock = some gb → w.heap.size ≤ gb ∧ ∀ x, S' x → x.block = gb → x.off < xs.length * sz) a'.defers .returning w' := fun ⟨r, hr1, hr2⟩ => by
      refine marks_leave1 (c := ⟨P, w, S, M, none, fun b => w.heap.size ≤ b, []⟩) hres a'.defers a' w' hg rfl (fun w2 h2 => ?_)
      have hsl := h2.sl t
      rw [hr1] at hsl
      change Rel w2 g (a'.tmps.getD t undef) _ at hsl
      generalize hv : a'.tmps.getD t undef = v at hsl
      cases hsl with
      | own _ _ _ hρ =>
        obtain ⟨v', f1, f2, f3⟩ := (h2.rw r _ hr2).ex
        rw [f1] at hρ; cases hρ
        obtain ⟨hown, hcl, hgb⟩ := f3 rfl
        refine ⟨v, g.S, g.M, rfl, ⟨⟨h2.below.os, h2.below.tape, h2.below.output, h2.below.size, fun k hk hn => h2.below.block k hk (fun h => h.elim (fun h => absurd (show w.heap.size ≤ k from h) (Nat.not_le_of_lt hk)) hn)⟩, h2.S0, h2.from0, h2.df.m0, h2.df.mfrom, h2.df.mok⟩, h2.good, f2.erase trivial, hown, hcl, hgb⟩
    cases e' <;> first | exact key hq | exact hq.elim
  · intro m
    simp only
    rw [ofL_at]
    simp only [Nat.not_lt_zero, if_false, Nat.sub_zero]
    cases hd : ds[m]? with
    | none => exact .undef _ _
    | some x =>
      have hm := (List.getElem?_eq_some_iff.1 hd).1
      have := hrel m x hd
      have e : (args.toArray ++ Array.replicate (fn.ntmps - args.toArray.size) undef).getD m undef = args.getD m undef := by
        have : m < args.length := by omega
        simp [Array.getElem?_append, this]
      rw [e]; exact this
  · intro i cs hi; simp at hi
  · intro i cs hi; simp at hi
  · intro i cs hi; simp at hi
  · exact ⟨fun _ => .inl 0, fun i x b hi => by simp at hi, fun r row v gb hr => by simp at hr⟩

theorem flat_i64 (xs : List Int) : flat (xs.map (D.int .i64)) = xs.map (D.int .i64) := by
  induction xs with
  | nil => rfl
  | cons x xs ih => show _ :: flat (xs.map (D.int .i64)) = _; rw [ih]; rfl

/-- A pinned list reads as a list, where its cells count. -/
theorem Pin.rel {w : World} {e : TypeId} {v : Value} {xs : List Int} (h : Pin w e v xs) (g : Gh) (hS : ∀ gb q, v.ownBlock = some gb → q < xs.length → g.S ⟨gb, q, none⟩) : Rel w g v (.list (xs.map (D.int .i64))) := by
  rcases h.2 with ⟨rfl, h0⟩ | ⟨gb, cap, cur, rfl, _⟩
  · have : xs = [] := List.length_eq_zero_iff.1 h0
    subst this
    exact .nil _ _
  · have hcl : ∀ x ∈ xs.map (D.int .i64), x.cells.length = 1 := fun x hx => by
      obtain ⟨y, _, rfl⟩ := List.mem_map.1 hx; rfl
    refine .list _ _ _ _ _ 1 (fun q => .int .i64 (xs.getD q 0)) (by simp) hcl (fun q hq => ?_) (fun q d hd => ?_)
    · rw [flat_i64] at hq
      have hq' : q < xs.length := by simpa using hq
      have hc := World.ownsRow.cells h (g := gb) rfl q (.int .i64 (xs.getD q 0)) (by simp [hq'])
      exact ⟨_, rfl, hc, by rw [add_block, Nat.zero_add]; exact hS gb q rfl hq', rfl⟩
    · rw [flat_i64] at hd
      have hq' : q < xs.length := by have := (List.getElem?_eq_some_iff.1 hd).1; simpa using this
      have : d = .int .i64 (xs.getD q 0) := by
        simp [hq'] at hd
        simp [hq', hd]
      rw [this]
      exact .int _ _ _

/-- A copy of the list at hand. -/
theorem rs_clone {E : SEnv} (hE : E.Ok) {o : Oper} {x : Operand} {at_ : Array TypeId} {f : FuncId} {i : Ix} {s : St} {a : Act} {w : World} {N : Act → World → Prop} {Q : Exit → Act → World → Prop}
    (ho : o.op = .call ⟨.value (.func f), #[x], at_⟩) (hr : RS E none i s a w) (hx : s.ev x = .val E.v) (hC : CallsRow E.c.P f [.list (E.xs.map (D.int .i64))] E.e 1 (E.xs.map (D.int .i64))) (hdst : dstOk s o.dst)
    (hN : ∀ a' w', RS E none i (St.put { s with rw := s.rw ++ [⟨true, E.e, 1, E.xs.map (D.int .i64)⟩] } o.dst (.own s.rw.length)) a' w' → N a' w') : o.wpIn Fence.wide 0 E.c.P a w N Q := by
  have hpin : Pin w E.e E.v E.xs := by obtain ⟨_, _, _, _, _, _, _, _, hp, _⟩ := hr; exact hp
  obtain ⟨w0, S0, M0, own, ⟨g, hg⟩, hcl⟩ := rs_ok hE i s a w hr
  have hxr := hg.ev x
  rw [hx] at hxr
  have hvx : a.eval x = E.v := by
    generalize a.eval x = vx at hxr
    cases hxr; rfl
  obtain ⟨hcf, hcs⟩ := hC
  let S1 : Addr → Prop := fun y => g.S y ∨ ∃ gb q, E.v.ownBlock = some gb ∧ q < E.xs.length ∧ y = ⟨gb, q, none⟩
  have hgood1 : Good w S1 := fun y hy => by
    rcases hy with hy | ⟨gb, q, hgb, hq, rfl⟩
    · exact hg.good y hy
    · have hc := World.ownsRow.cells hpin hgb q (.int .i64 (E.xs.getD q 0)) (by simp [hq])
      rw [add_block, Nat.zero_add] at hc
      exact ⟨_, hc⟩
  have hcall := hcs S1 g.M w [E.v] hgood1 hg.df.mok rfl (fun q d hd => by
    match q, hd with
    | 0, hd => cases hd; exact hpin.rel ⟨S1, [], [], g.M⟩ (fun gb q hgb hq => .inr ⟨gb, q, hgb, hq, rfl⟩))
  refine ⟨fun _ _ => trivial, ?_⟩
  have hsem : (o.semAt Fence.wide.round a.eval).run E.c.P w = .ok (.enter f [E.v].toArray) w := by
    rw [Oper.semAt_eq _ _ _ (by rw [ho]; intro cl h; cases h)]
    have e1 : a.eval (.func f) = .func (.func f) #[] #[] := rfl
    simp [execOp, ho, resolve, e1, hvx, Deferred.ofValue, invoke, hcf]
  rw [hsem, Oper.uponIn_enter]
  refine ⟨fun h => (by cases h), callsIn_wide.2 (hcall.mono ?_)⟩
  rintro e' w' ⟨v', S', M', rfl, hgr, hgood, hrel, ⟨vals, hown⟩, hcell, hblk⟩
  let S2 : Addr → Prop := fun y => S' y ∧ (g.S y ∨ w.heap.size ≤ y.block)
  have hG2 : Grow w g.S g.M w' S2 M' := ⟨hgr.below, fun y hy => ⟨hgr.s1 y (.inl hy), .inl hy⟩, fun y hy => hy.2, hgr.m1, hgr.m2, hgr.mok⟩
  have h2 := hg.grow hG2 (fun y hy => hgood y hy.1)
  have hrel2 : Rel w' ⟨S2, g.β, g.ρ, M'⟩ v' (.list (E.xs.map (D.int .i64))) := by
    obtain ⟨A, cp, sz, u, hv', hsz, hm, hr'⟩ := hrel.list_inv
    rw [hv']
    refine .list _ _ _ _ _ sz u rfl hsz (fun q hq => ?_) (fun q d hd => ?_)
    · obtain ⟨ad, rfl, q1, q2, q3⟩ := hm q hq
      refine ⟨ad, rfl, q1, ⟨q2, .inr ?_⟩, q3⟩
      have := (hblk ad.block (by rw [hv']; rfl)).1
      show w.heap.size ≤ (ad.add q).block
      unfold Addr.add
      split <;> exact this
    · have hd' := hr' q d hd
      rw [flat_i64] at hd
      obtain ⟨y, _, rfl⟩ : ∃ y, y ∈ E.xs ∧ D.int .i64 y = d := by
        have := List.mem_of_getElem? hd
        simpa using this
      generalize u q = uq at hd'
      cases hd'
      exact .int _ _ _
  have h3 := h2.pushRow (e := E.e) (sz := 1) hrel2 (vals := vals) hown hcell
    (fun gb hgb => ⟨hg.own0 _ (Nat.le_trans hg.below.size (hblk gb hgb).1), fun y hy e => (hblk gb hgb).2 y hy.1 e⟩)
    (fun gb hgb j y b hj hy hb => by have h1 := (hg.boxlt hj hy hb).1; have h2 := (hblk gb hgb).1; omega)
    (fun gb hgb r row v2 g2 hr hl hv2 hg2 => by have h1 := (hg.rowlt hr hl hv2 hg2).1; have h2 := (hblk gb hgb).1; omega)
  refine hN _ _ (hcl _ _ _ ⟨_, RG.put (s := { s with rw := s.rw ++ [⟨true, E.e, 1, E.xs.map (D.int .i64)⟩] }) (dst := o.dst) (d := .own s.rw.length) h3 hdst (.own _ _ _ ?_)⟩)
  show (g.ρ ++ [v'])[s.rw.length]? = some v'
  rw [← hg.lρ]; simp

/-- The end of a search. -/
def endS (t k n : Nat) : Exit → Ix → St → Prop
  | .normal, i, s => s.sl t = .bool i.1 ∧ (i.1 = true → i.2 = k + n)
  | .ret, i, s => s.sl t = .bool i.1 ∧ (i.1 = true → i.2 = k + n)
  | _, _, _ => False

theorem searchC_of_ga {c : IC} (hok : c.Ok) {f : FuncId} {fn : Func} {code : Code} {e : TypeId} {lb : List Value} {cs : List D} {xs : List Int} {left : Int} {out : List (List D)} {t n : Nat}
    (hf : c.P.funcs[f]? = some fn) (hnt : fn.ntmps = n) (hres : fn.results = #[.tmp t]) (hb : fn.body = some code) (hn : cs.length + 2 ≤ n) (hlb : lb.length = cs.length)
    (h : ∀ E : SEnv, E.c = c → E.e = e → E.xs = xs → E.Ok → (∀ q x, cs[q]? = some x → Rel E.w0 ⟨E.S0, [], [], E.M0⟩ (lb.getD q Go.undef) x) → ∀ k, (∀ q, q < out.length → c.xs[k + q]? = out[q]?) →
      GA c.P (RS E none) code (endS t k out.length) (true, k) ⟨n, ofL 0 (.val E.v :: .int .i64 left :: cs), [], []⟩) : SearchC c f e lb cs xs left out := by
  subst hnt
  intro T S M w k v hJ lt hM hS hp hv hrel hxs
  refine (callsIn_wide (n := 0)).1 (callsIn_of_wp_marks hf hb trivial ?_)
  let E : SEnv := ⟨c, T, S, M, w, e, v, xs⟩
  have hE : E.Ok := ⟨hok, lt, hv⟩
  let args : Array Value := (v :: .int .i64 left :: lb).toArray
  have hw := h E rfl rfl rfl hE hrel k hxs { tmps := args ++ Array.replicate (fn.ntmps - args.size) undef, defers := [] } w
    ⟨T, fun _ => False, S, M, hJ, ⟨lt, fun _ h => h.elim, ⟨S, [], [], M⟩, rfl, rfl, ⟨⟨List.nodup_nil, fun d hd => by cases hd⟩, hM, fun _ _ h => h, fun _ _ h => .inl h, fun i b h => by simp at h, fun _ _ => rfl⟩, by simp [args]; omega, .of (Below.refl _ _), fun _ h => .inr h, hS, fun _ h => .inl h, fun _ h => h, hS, rfl, rfl, fun m => ?_, fun i cs hi => by simp at hi, fun i cs hi => by simp at hi, fun i cs hi => by simp at hi, ⟨fun _ => .inl 0, fun i x b hi => by simp at hi, fun r row v gb hr => by simp at hr⟩⟩,
      ⟨rfl, rfl, rfl, Nat.le_refl _, fun _ h => h, fun _ _ _ => rfl, fun _ h => h, fun _ h _ => h, fun _ _ => rfl, fun _ _ h => h⟩, fun _ _ h => h, hp, fun _ _ h => by cases h⟩
  · refine wpIn_mono (F := Fence.wide) hw ?_
    rintro e' a' w' ⟨i', s', hr', hq⟩
    have fin : (s'.sl t = .bool i'.1 ∧ (i'.1 = true → i'.2 = k + out.length)) → LeavesInM Fence.wide 0 c.P fn a'.tmps (fun e' w' => ∃ b k' T' S' M', e' = .returned (.bool b) ∧ JX c.J c.Jx (b, k') T' S' M' w' ∧ (b = true → k' = k + out.length) ∧ SG T S M w T' S' M' w' v.ownBlock ∧ Pin w' e v xs ∧
      (∀ b, T' b → b < w'.heap.size ∧ M' b = none) ∧ MOk w' M' ∧ Good w' S') a'.defers .returning w' := fun ⟨h1, h2⟩ => by
      obtain ⟨w0, S0, M0, own, ⟨g, hg⟩, hcl⟩ := rs_ok hE i' s' a' w' hr'
      refine marks_leave1 (c := ⟨c.P, w0, S0, M0, none, own, []⟩) hres a'.defers a' w' hg rfl (fun w2 hw2 => ?_)
      have hsl := hw2.sl t
      rw [h1] at hsl
      have hv := hsl.asBool
      simp only at hv
      rw [hv]
      obtain ⟨T', U', S', M', hJ', hir, hs', _, hp', _⟩ := hcl _ _ _ ⟨g, hw2⟩
      obtain ⟨b, k'⟩ := i'
      obtain ⟨lt', _, g2, rfl, rfl, hg2⟩ := hir
      exact ⟨b, k', T', g2.S, g2.M, rfl, hJ', h2, hs', hp', lt', hg2.df.mok, hg2.good⟩
    cases e' <;> first | exact fin hq | exact hq.elim
  · simp only
    rw [ofL_at]
    simp only [Nat.not_lt_zero, if_false, Nat.sub_zero]
    have e : (args ++ Array.replicate (fn.ntmps - args.size) undef).getD m undef = (v :: Value.int .i64 left :: lb).getD m undef := by
      simp only [args, Array.getD_eq_getD_getElem?, List.getD_eq_getElem?_getD]
      rw [Array.getElem?_append]
      split
      · simp
      · rename_i hm
        rw [List.getElem?_eq_none (by simpa using hm)]
        simp [Array.getElem?_replicate]
        split <;> rfl
    rw [e]
    match m with
    | 0 => exact .val _ _
    | 1 => exact .int _ _ _
    | m + 2 =>
      simp only [List.getElem?_cons_succ, List.getD_cons_succ]
      cases hd : cs[m]? with
      | none => exact .undef _ _
      | some x => exact hrel m x hd
end Go.Ab
end
section
namespace Go.Ab
open Go.RowKit

theorem SG.done {T : Nat → Prop} {S : Addr → Prop} {M : MM} {w : World} : SG T S M w T S M w none :=
  ⟨rfl, rfl, rfl, Nat.le_refl _, fun _ h => h, fun _ _ _ => rfl, fun _ h => h, fun _ h _ => h, fun _ _ => rfl, fun _ _ h => h⟩

/-- An iterator whose code calls a search, and is done. -/
theorem ia_search {c : IC} {Q : Exit → Ix → St → Prop} {s : St} {id d1 d2 m : Nat} {t t1 t2 : TypeId} {p1 p2 : String} {q1 q2 : Array Edge} {at_ : Array TypeId} {f : FuncId} {e : TypeId} {A B : List D} {Y : Value} {n : Int} {out : List (List D)}
    (hbx : s.bx = [.mu [.val Y], .mu [.clo f [.ro A, .box 0 0, .ro B, .box 1 0]]]) (hm : s.sl m = .box 1 0) (hag : aggO c.P t = some false) (hd : d1 < s.n) (hd12 : d2 < s.n) (hY : Y.oneCell' = true)
    (hcf : ∀ (args : Array Value) (w : World), (callFunc f args).run c.P w = .ok (.enter f args) w)
    (hS : c.Ok → ∀ lb : List Value, lb.length = 4 → SearchC c f e lb [.ro A, .ro [.val Y], .ro B, .ro [.val (.func (.func f) #[] ⟨lb⟩)]] [] n out) (hout : ∀ q, q < out.length → c.xs[q]? = out[q]?)
    (hQ : ∀ (b : Bool) k', (b = true → k' = out.length) → Q .normal (b, k') ⟨s.n, none', [], []⟩) :
    IA c (.region id #[⟨some d1, .load t (.tmp m), t1, p1, q1, none⟩, ⟨some d2, .call ⟨.value (.tmp d1), #[.const (.slice none 0 0), .const (.int .i64 n)], at_⟩, t2, p2, q2, none⟩] false) Q (true, 0) s := by
  intro hok a w T S M hJ hir
  obtain ⟨lt, g, rfl, rfl, hg⟩ := hir
  obtain ⟨b0, vs0, t0, e1, e2, e3, e4, _⟩ := (hg.bx 0 _ (by rw [hbx]; rfl)).ex
  obtain ⟨b1, vs1, t1', f1, f2, f3, f4, _⟩ := (hg.bx 1 _ (by rw [hbx]; rfl)).ex
  have e3 : CellsR w g vs0 [.val Y] := e3
  have f3 : CellsR w g vs1 [.clo f [.ro A, .box 0 0, .ro B, .box 1 0]] := f3
  have hlt0 : b0 < w.heap.size := (Array.getElem?_eq_some_iff.1 e2).1
  have hlt1 : b1 < w.heap.size := (Array.getElem?_eq_some_iff.1 f2).1
  have hT0 : T b0 := e4.elim (fun h => h) (fun h => by omega)
  have hT1 : T b1 := f4.elim (fun h => h) (fun h => by omega)
  have hY0 : vs0.getD 0 Go.undef = Y := by
    have := (e3.2 0 _ rfl).1
    generalize vs0.getD 0 Go.undef = v at this
    cases this; rfl
  -- what the box of the search holds
  have hF := (f3.2 0 _ rfl).1
  generalize hFv : vs1.getD 0 Go.undef = Fv at hF
  cases hF with
  | clo _ _ vs _ hvl hvr =>
  obtain ⟨lb⟩ := vs
  have hlb : lb.length = 4 := by simpa using hvl
  have hvr' : ∀ (q : Nat) (d : D), [D.ro A, .box 0 0, .ro B, .box 1 0][q]? = some d → Rel w g (lb.getD q Go.undef) d := fun q d hd => by simpa using hvr q d hd
  have hc0 : w.cell? ⟨b0, 0, none⟩ = some Y := by
    rw [cell_of_row w b0 0 vs0 t0 (0, 0) e2]
    have hs : 0 < vs0.size := by rw [e3.1]; simp
    simp [hs] at hY0 ⊢; exact hY0
  have hc1 : w.cell? ⟨b1, 0, none⟩ = some (.func (.func f) #[] ⟨lb⟩) := by
    rw [cell_of_row w b1 0 vs1 t1' (0, 0) f2]
    have hs : 0 < vs1.size := by rw [f3.1]; simp
    simp [hs] at hFv ⊢; exact hFv
  have h3 : lb.getD 1 Go.undef = .pointer (some ⟨b0, 0, none⟩) := by
    have := hvr' 1 _ rfl
    generalize lb.getD 1 Go.undef = v at this
    cases this with
    | box _ _ _ b hb => rw [e1] at hb; cases hb; rfl
  have h5 : lb.getD 3 Go.undef = .pointer (some ⟨b1, 0, none⟩) := by
    have := hvr' 3 _ rfl
    generalize lb.getD 3 Go.undef = v at this
    cases this with
    | box _ _ _ b hb => rw [f1] at hb; cases hb; rfl
  have hmv : a.eval (.tmp m) = .pointer (some ⟨b1, 0, none⟩) := by
    have := hg.ev (.tmp m)
    rw [show s.ev (.tmp m) = .box 1 0 from hm] at this
    generalize a.eval (.tmp m) = v at this
    cases this with
    | box _ _ _ b hb => rw [f1] at hb; cases hb; rfl
  -- the load
  have hload : (loadVar t ⟨b1, 0, none⟩).run c.P w = .ok (.func (.func f) #[] ⟨lb⟩) w := by
    obtain ⟨v, d, h1, h2, h3⟩ := run_loadVar' (P := c.P) (w := w) (g := g) (t := t) (ad := ⟨b1, 0, none⟩) (cs := [.val (.func (.func f) #[] ⟨lb⟩)]) (u := fun _ => .func (.func f) #[] ⟨lb⟩) (k := fun d => d = .val (.func (.func f) #[] ⟨lb⟩))
      (fun q hq => by have : q = 0 := by simpa using hq
                      subst this; exact ⟨by rw [add_block]; exact hc1, rfl⟩) (fun q d hd => by
        match q, hd with
        | 0, hd => cases hd; exact .val _ _) (by unfold wTake; rw [hag]; rfl)
    subst h3
    cases h2
    exact h1
  refine wpIn_region_lit ?_
  have r1 : (Oper.semAt Fence.wide.round a.eval ⟨some d1, .load t (.tmp m), t1, p1, q1, none⟩).run c.P w = .ok (.value (.func (.func f) #[] ⟨lb⟩)) w := by
    rw [Oper.semAt_eq _ _ _ (by intro cl h; cases h)]
    simp [execOp, hmv, Instr.loadAt, Instr.sureAddr, hload]
  unfold wpListIn
  rw [if_pos (by simp [Region.wanted])]
  refine ⟨fun _ _ => trivial, ?_⟩
  rw [r1, Oper.uponIn_value]
  unfold wpListIn
  rw [if_pos (by simp [Region.wanted])]
  refine ⟨fun _ _ => trivial, ?_⟩
  have hd1v : (a.put (some d1) (.func (.func f) #[] ⟨lb⟩)).eval (.tmp d1) = .func (.func f) #[] ⟨lb⟩ := by
    have : d1 < a.tmps.size := by rw [hg.sz]; exact hd
    simp [Act.put, Act.eval, this]
  have r2 : (Oper.semAt Fence.wide.round (a.put (some d1) (.func (.func f) #[] ⟨lb⟩)).eval ⟨some d2, .call ⟨.value (.tmp d1), #[.const (.slice none 0 0), .const (.int .i64 n)], at_⟩, t2, p2, q2, none⟩).run c.P w =
      .ok (.enter f (.slice none 0 0 :: .int .i64 n :: lb).toArray) w := by
    rw [Oper.semAt_eq _ _ _ (by intro cl h; cases h)]
    have k1 : (a.put (some d1) (.func (.func f) #[] ⟨lb⟩)).eval (.const (.slice none 0 0)) = .slice none 0 0 := rfl
    have k2 : (a.put (some d1) (.func (.func f) #[] ⟨lb⟩)).eval (.const (.int .i64 n)) = .int .i64 n := rfl
    simp [execOp, resolve, hd1v, k1, k2, Deferred.ofValue, invoke, hcf]
  rw [r2, Oper.uponIn_enter]
  refine ⟨fun h => (by cases h), callsIn_wide.2 ?_⟩
  -- the two boxes count from here on
  let S2 : Addr → Prop := fun x => g.S x ∨ x = ⟨b0, 0, none⟩ ∨ x = ⟨b1, 0, none⟩
  have hgood2 : Good w S2 := fun x hx => by
    rcases hx with hx | rfl | rfl
    · exact hg.good x hx
    · exact ⟨_, hc0⟩
    · exact ⟨_, hc1⟩
  have hJ2 : JX c.J c.Jx (true, 0) T S2 g.M w := hok.ab (true, 0) _ _ _ _ _ _ _ _ hJ ⟨.of (Below.refl _ _), fun _ h => .inl h, lt, fun _ h => .inl h, fun x hx => by
    rcases hx with hx | rfl | rfl
    · exact .inl hx
    · exact .inr (.inl hT0)
    · exact .inr (.inl hT1), fun _ _ => rfl, fun _ _ h => h, fun _ _ h => .inl h, hg.df.mok, hgood2⟩
  have kk : Keeps w g.er w ⟨S2, [], [], g.M⟩ := ⟨fun _ _ => rfl, fun _ h => .inl h, fun _ _ h => h, fun _ _ h => h, fun _ _ h => h⟩
  have hcl := hS hok lb hlb T S2 g.M w 0 (.slice none 0 0) hJ2 lt hg.df.mok hgood2 (World.ownsRow_nil w 0 e 1) (fun gb hgb => by simp [Value.ownBlock] at hgb) (fun q x hx => by
    match q, hx with
    | 0, hx => cases hx; exact ((hvr' 0 _ rfl).erase trivial).keep kk
    | 1, hx =>
      cases hx
      rw [h3]
      exact .ro _ _ _ (fun _ => Y) (fun q hq => by
        have : q = 0 := by simpa using hq
        subst this
        exact ⟨by rw [add_block]; exact hc0, by rw [add_block]; exact .inr (.inl rfl), hY⟩) (fun q d hd => by
        match q, hd with
        | 0, hd => cases hd; exact .val _ _)
    | 2, hx => cases hx; exact ((hvr' 2 _ rfl).erase trivial).keep kk
    | 3, hx =>
      cases hx
      rw [h5]
      exact .ro _ _ _ (fun _ => .func (.func f) #[] ⟨lb⟩) (fun q hq => by
        have : q = 0 := by simpa using hq
        subst this
        exact ⟨by rw [add_block]; exact hc1, by rw [add_block]; exact .inr (.inr rfl), rfl⟩) (fun q d hd => by
        match q, hd with
        | 0, hd => cases hd; exact .val _ _)) (fun q hq => by rw [Nat.zero_add]; exact hout q hq)
  refine hcl.mono ?_
  rintro e' w' ⟨b, k', T', S', M', rfl, hJ', hk', hs', _, lt', hmok, hgood⟩
  show _
  unfold wpListIn
  refine ⟨(b, k'), ⟨s.n, none', [], []⟩, T', S', M', hJ', ⟨lt', ⟨S', [], [], M'⟩, rfl, rfl, ⟨⟨⟨?_, ?_⟩, hmok, fun _ _ h => h, fun _ _ h => .inl h, fun i b hb => by simp at hb, fun _ _ => rfl⟩, by simp [Act.put, hg.sz], .of (Below.refl _ _), fun _ h => .inr h, hgood, fun _ h => .inl h, fun _ h => h, hgood, rfl, rfl,
    fun m => .undef _ _, fun i cs hi => by simp at hi, fun i cs hi => by simp at hi, fun r row hr => by simp at hr, ⟨fun _ => .inl 0, fun i x b hi => by simp at hi, fun r row v gb hr => by simp at hr⟩⟩⟩, hQ b k' (fun h => by rw [hk' h]; omega)⟩
  · exact hg.df.dok.1
  · intro d hd
    obtain ⟨D', hB, rfl, hD⟩ := hg.df.dok.2 d hd
    have hlt := (Array.getElem?_eq_some_iff.1 hD).1
    have hTD : T D' := hB.elim (fun h => h) (fun h => by omega)
    exact ⟨D', .inl (hs'.t1 _ hTD), rfl, (hs'.keep D' hTD (by simp [Value.ownBlock])).trans hD⟩
end Go.Ab
end
section
namespace Go.Ab
open Go.RowKit

/-- What a call is handed, exact values kept (a nil slice stays one). -/
def pureDV (bx : List Bx) (rw : List Row) : D → Option D
  | .val v => some (.val v)
  | d => pureD bx rw d
def pureDsV (bx : List Bx) (rw : List Row) : List D → Option (List D)
  | [] => some []
  | d :: ds => match pureDV bx rw d with | some d' => (pureDsV bx rw ds).map (d' :: ·) | none => none
theorem pureDsV_get {bx : List Bx} {rw' : List Row} : ∀ {ds ds' : List D}, pureDsV bx rw' ds = some ds' → ds'.length = ds.length ∧ ∀ (q : Nat) (d' : D), ds'[q]? = some d' → ∃ d, ds[q]? = some d ∧ pureDV bx rw' d = some d'
  | [], ds', h => by simp [pureDsV] at h; subst h; simp
  | d :: ds, ds', h => by
    simp only [pureDsV] at h
    split at h
    · rename_i d1 h1
      simp only [Option.map_eq_some_iff] at h
      obtain ⟨l, hl, rfl⟩ := h
      obtain ⟨e1, e2⟩ := pureDsV_get hl
      refine ⟨by simp [e1], fun q d' hq => ?_⟩
      cases q with
      | zero => simp at hq; subst hq; exact ⟨d, rfl, h1⟩
      | succ q => exact e2 q d' (by simpa using hq)
    · cases h

section
variable {c : Ctx} {s : St} {a : Act} {w : World} {g : Gh}
theorem pureDV_rel {v : Value} {d d' : D} (h : RG c s a w g) (hr : Rel w g v d) (hp : pureDV s.bx s.rw d = some d') : Rel w g.er v d' := by
  unfold pureDV at hp
  split at hp
  · cases hp; exact hr.erase trivial
  · exact pureD_rel h hr hp

/-- What is done at a call of a function that is named. -/
theorem s_enter {o : Oper} {f : FuncId} {xs : Array Operand} {at_ : Array TypeId} {ds : List D} (ho : o.op = .call { callee := .value (.func f), args := xs, argTypes := at_ }) (h : RG c s a w g)
    (hp : pureDsV s.bx s.rw (xs.toList.map s.ev) = some ds) (hcf : ∀ (args : Array Value) (w : World), (callFunc f args).run c.P w = .ok (.enter f args) w) :
    (execOp a.eval o).run c.P w = .ok (.enter f (xs.toList.map a.eval).toArray) w ∧ (xs.toList.map a.eval).length = ds.length ∧ ∀ q x, ds[q]? = some x → Rel w ⟨g.S, [], [], g.M⟩ ((xs.toList.map a.eval).getD q Go.undef) x := by
  obtain ⟨e1, e2⟩ := pureDsV_get hp
  refine ⟨?_, by rw [e1]; simp, fun q x hx => ?_⟩
  · have : a.eval (.func f) = .func (.func f) #[] #[] := rfl
    simp [execOp, ho, resolve, this, Deferred.ofValue, invoke]
    rw [hcf]
    simp
    rw [← Array.toList_map, Array.toArray_toList]
  · obtain ⟨y, hy, hpy⟩ := e2 q x hx
    refine pureDV_rel h ?_ hpy
    simp only [List.getElem?_map, Option.map_eq_some_iff] at hy
    obtain ⟨z, hz, rfl⟩ := hy
    rw [List.getD_eq_getElem?_getD]
    simp only [List.getElem?_map, hz, Option.map_some, Option.getD_some]
    exact h.ev z

/-- A region with a call that is handed exact values. -/
theorem abs_regionV {Q : Exit → St → Prop} {id : Nat} {l : List Oper} (n : Nat) {f : FuncId} {xs : Array Operand} {dst : Option Tmp} {at_ : Array TypeId} {ty : TypeId} {pos : String} {aft : Array Edge} {d : D} {ds : List D}
    (hl : l = l.take n ++ ⟨dst, .call ⟨.value (.func f), xs, at_⟩, ty, pos, aft, none⟩ :: l.drop (n + 1)) (hC : CallsTo c.P f ds d)
    (h : ∀ K1 : St → Prop, (∀ s1, pureDsV s1.bx s1.rw (xs.toList.map s1.ev) = some ds → dstOk s1 dst → evOps c.P l (l.drop (n + 1)) (s1.put dst d) (fun s2 => Q .normal s2) → K1 s1) → evOps c.P l (l.take n) s K1) :
    Abs c (.region id l.toArray false) Q s := by
  intro a w hr
  refine wpIn_region_lit ?_
  rw [hl]
  rw [hl] at h
  have hl1 : (l.take n ++ (⟨dst, .call ⟨.value (.func f), xs, at_⟩, ty, pos, aft, none⟩ : Oper) :: l.drop (n + 1)).take n = l.take n := by rw [← hl]
  have hl2 : (l.take n ++ (⟨dst, .call ⟨.value (.func f), xs, at_⟩, ty, pos, aft, none⟩ : Oper) :: l.drop (n + 1)).drop (n + 1) = l.drop (n + 1) := by rw [← hl]
  rw [hl1, hl2] at h
  generalize l.take n = l1 at *
  generalize l.drop (n + 1) = l2 at *
  obtain ⟨y, hy⟩ : ∃ y : Oper, y = ⟨dst, .call ⟨.value (.func f), xs, at_⟩, ty, pos, aft, none⟩ := ⟨_, rfl⟩
  rw [← hy] at h ⊢
  refine evOps_pre (c := c) (fun s1 a1 w1 hr1 hk1 => ?_) l1 s a w hr (h (fun s1 => pureDsV s1.bx s1.rw (xs.toList.map s1.ev) = some ds ∧ dstOk s1 dst ∧ evOps c.P (l1 ++ y :: l2) l2 (s1.put dst d) (fun s2 => Q .normal s2)) (fun s1 h1 h2 h3 => ⟨h1, h2, h3⟩))
  obtain ⟨h1, h2, h3⟩ := hk1
  obtain ⟨g1, hg1⟩ := hr1
  obtain ⟨q1, q2, q3⟩ := s_enter (o := y) (by rw [hy]) hg1 h1 hC.1
  have hcl := hC.2 g1.S g1.M w1 _ hg1.good hg1.df.mok q2 q3
  show wpListIn c.F 0 c.P _ _ (y :: l2) a1 w1
  unfold wpListIn
  rw [if_pos (by rw [hy]; simp [Region.wanted])]
  refine op_in (by rw [hy]; intro cl h; cases h) ?_
  unfold Oper.wp
  rw [q1]
  refine hcl.mono ?_
  rintro e w' ⟨v, S', M', rfl, hgr, hgood, hrel⟩
  have hyd : y.dst = dst := by rw [hy]
  show wpListIn _ _ _ _ _ l2 (a1.put y.dst v) w'
  rw [hyd]
  exact evOps_sound (c := c) (K := fun s2 => Q .normal s2) (fun s3 a3 w3 hr3 hk3 => ⟨s3, hr3, hk3⟩) l2 _ _ _ ⟨_, (hg1.grow hgr hgood).put h2 (hrel.keep (er_up _ _ _ _ _))⟩ h3
end
attribute [go_sem] pureDV pureDsV
end Go.Ab
end
section
namespace Go.Ab
open Go.RowKit

/-- A statement on code that may panic with a value of the type t. -/
def AbsP (c : Ctx) (code : Code) (Q : Exit → St → Prop) (t : TypeId) (Z : List D → Prop) (s : St) : Prop :=
  ∀ a w, R c s a w → code.wpIn c.F 0 c.P (fun e a' w' => (∃ s', R c s' a' w' ∧ Q e s') ∨ ∃ x cs s' g, e = .panic [{ v := .iface t x, recovered := false }] ∧ RG c s' a' w' g ∧ Rel w' g.er x (.agg cs) ∧ Z cs) a w

section
variable {c : Ctx} {Q : Exit → St → Prop} {s : St} {t : TypeId} {Z : List D → Prop}

theorem absp_of {code : Code} (h : Abs c code Q s) : AbsP c code Q t Z s := fun a w hr => wpIn_mono (h a w hr) fun _ _ _ h => .inl h
theorem absp_intro {code : Code} (h : ∀ a w, R c s a w → code.wpIn c.F 0 c.P (fun e a' w' => (∃ s', R c s' a' w' ∧ Q e s') ∨ ∃ x cs s' g, e = .panic [{ v := .iface t x, recovered := false }] ∧ RG c s' a' w' g ∧ Rel w' g.er x (.agg cs) ∧ Z cs) a w) : AbsP c code Q t Z s := h

theorem absp_seq {x y : Code} (h : AbsP c x (thenQ (AbsP c y Q t Z) Q) t Z s) : AbsP c (.seq x y) Q t Z s := by
  intro a w hr
  refine wpIn_seq (wpIn_mono (h a w hr) ?_)
  rintro e a' w' (⟨s', r, q⟩ | ⟨x, cs, s', g, rfl, r, hx, hz⟩)
  · cases e with
    | normal => exact q a' w' r
    | exit id => exact .inl ⟨s', r, q⟩
    | goto l => exact .inl ⟨s', r, q⟩
    | ret => exact .inl ⟨s', r, q⟩
    | panic ch => exact .inl ⟨s', r, q⟩
    | outgrown => exact .inl ⟨s', r, q⟩
  · exact .inr ⟨x, cs, s', g, rfl, r, hx, hz⟩

theorem absp_block {id : Nat} {x : Code} (h : AbsP c x (blockQ id Q) t Z s) : AbsP c (.block id x) Q t Z s := by
  intro a w hr
  refine wpIn_block (wpIn_mono (h a w hr) ?_)
  rintro e a' w' (⟨s', r, q⟩ | ⟨x, cs, s', g, rfl, r, hx, hz⟩)
  · cases e with
    | normal => exact .inl ⟨s', r, q⟩
    | exit id' =>
      simp only [blockQ] at q
      simp only [Exit.inBlock]
      split at q
      · rw [if_pos (by assumption)]; exact .inl ⟨s', r, q⟩
      · rw [if_neg (by assumption)]; exact .inl ⟨s', r, q⟩
    | goto l => exact .inl ⟨s', r, q⟩
    | ret => exact .inl ⟨s', r, q⟩
    | panic ch => exact .inl ⟨s', r, q⟩
    | outgrown => exact .inl ⟨s', r, q⟩
  · exact .inr ⟨x, cs, s', g, rfl, r, hx, hz⟩

theorem absp_if {x : Operand} {y z : Code} (h : wBool (s.ev x) fun b => (b = true → AbsP c y Q t Z s) ∧ (b = false → AbsP c z Q t Z s)) : AbsP c (.cond x y z) Q t Z s := by
  intro a w hr
  cases hs : s.ev x <;> rw [hs] at h <;> simp only [wBool] at h
  have hr0 := hr
  obtain ⟨g, hg⟩ := hr0
  have hv := hg.ev x
  rw [hs] at hv
  exact wpIn_cond_split hv.asBool (fun hb => h.1 hb a w hr) (fun hb => h.2 hb a w hr)

theorem absp_loopN {body : Code} {ι : Type} {n : Nat} (l : ι → List (Nat × D)) (bx : ι → List Bx) (rw : ι → List Row) (p : ι → Prop) (μ : ι → Nat)
    (hn : ∀ i, p i → ((l i).all fun q => namesB (bx i).length (rw i).length q.2) = true ∧ namesBx (bx i).length (rw i).length (bx i) = true)
    (i0 : ι) (h0 : p i0) (hle : Le s (mkSt n (l i0) (bx i0) (rw i0)))
    (round : ∀ i, p i → AbsP c body (thenQ (fun s' => ∃ j, p j ∧ μ j < μ i ∧ Le s' (mkSt n (l j) (bx j) (rw j))) Q) t Z ⟨n, (l i).foldr (fun p f => put f p.1 p.2) none', bx i, rw i⟩) (hβ : c.β0 = []) : AbsP c (.loop body) Q t Z s := by
  intro a w hr
  have hb0 : ∀ i, c.β0.length ≤ (mkSt n (l i) (bx i) (rw i)).bx.length := fun i => by rw [hβ]; exact Nat.zero_le _
  have hnm : ∀ i, p i → (mkSt n (l i) (bx i) (rw i)).named := fun i hi => named_of (hn i hi).1 (hn i hi).2
  refine wp_loop_ix (fun i a w => p i ∧ R c (mkSt n (l i) (bx i) (rw i)) a w) μ (fun i a w ⟨hp, hr⟩ => ?_) i0 ⟨h0, hr.le hle (hnm i0 h0) (hb0 i0)⟩
  refine wpIn_mono (round i hp a w hr) ?_
  rintro e a' w' (⟨s', r, q⟩ | ⟨x, cs, s', g, rfl, r, hx, hz⟩)
  · cases e with
    | normal => obtain ⟨j, hj, hlt, hl⟩ := q; exact ⟨j, ⟨hj, r.le hl (hnm j hj) (hb0 j)⟩, hlt⟩
    | exit id => exact .inl ⟨s', r, q⟩
    | goto l => exact .inl ⟨s', r, q⟩
    | ret => exact .inl ⟨s', r, q⟩
    | panic ch => exact .inl ⟨s', r, q⟩
    | outgrown => exact .inl ⟨s', r, q⟩
  · exact .inr ⟨x, cs, s', g, rfl, r, hx, hz⟩

/-- One plain operation. -/
theorem absp_step {o : Oper} {a : Act} {w : World} {K : St → Prop} {Q' : Exit → Act → World → Prop} {N : Act → World → Prop} (hr : R c s a w) (hst : stepOp c.P o s K) (hN : ∀ s' a' w', R c s' a' w' → K s' → N a' w') : o.wpIn c.F 0 c.P a w N Q' := by
  obtain ⟨g, hg⟩ := hr
  exact op_in (step_nodefer hst) (Oper.wp_mono (fun a' w' ⟨s', hr', hk'⟩ => hN s' a' w' hr' hk') (step_sound hg hst))

/-- A call that comes back, or panics with a value of the type t. -/
def CallsP (P : Program) (f : FuncId) (ds : List D) (t : TypeId) (res : Option (List D)) : Prop :=
  (∀ (args : Array Value) (w : World), (callFunc f args).run P w = .ok (.enter f args) w) ∧
  ∀ (S : Addr → Prop) (M : MM) (w : World) (args : List Value), Good w S → MOk w M → args.length = ds.length → (∀ q x, ds[q]? = some x → Rel w ⟨S, [], [], M⟩ (args.getD q Go.undef) x) →
    Calls P f args.toArray w fun e w' => ∃ S' M', Grow w S M w' S' M' ∧ Good w' S' ∧ ((res = none ∧ ∃ v, e = .returned v) ∨ ∃ x cs, res = some cs ∧ e = .panicked [{ v := .iface t x, recovered := false }] ∧ Rel w' ⟨S', [], [], M'⟩ x (.agg cs))

theorem marks_panic {a0 : Act} {fn : Func} {chain : List PanicEntry} {R : Ending → World → Prop} {g : Gh} : ∀ (l : List Deferred) (a : Act) (w : World), RG c s a w g → a.defers = l →
    (∀ w', RG c s { a with defers := [] } w' g → (∀ x, g.S x → w'.cell? x = w.cell? x) → R (.panicked chain) w') → LeavesInM Fence.wide 0 c.P fn a.tmps R l (.panicking chain) w
  | [], a, w, h, hl, hR => hR w (by rw [show ({ a with defers := [] } : Act) = a by rw [← hl]]; exact h) (fun _ _ => rfl)
  | d :: l, a, w, h, hl, hR => by
    obtain ⟨hnd, hall⟩ := h.df.dok
    rw [hl] at hnd hall
    obtain ⟨D, hB, rfl, hD⟩ := hall d (List.mem_cons_self ..)
    refine ⟨by simp, .inl ⟨D, _, rfl, run_takeDeferred hD, ?_⟩⟩
    have hg : RG c s { a with defers := l } (w.putObj D (.deferred none)) g := h.turn hD rfl (by simp) hB rfl ⟨(List.nodup_cons.1 hnd).2, fun d' hd' => by
      obtain ⟨D', hB', rfl, hD'⟩ := hall d' (List.mem_cons_of_mem _ hd')
      refine ⟨D', hB', rfl, ?_⟩
      rw [World.putObj_heap_other (fun e => by subst e; exact (List.nodup_cons.1 hnd).1 hd')]
      exact hD'⟩
    have hc : ∀ x, g.S x → (w.putObj D (.deferred none)).cell? x = w.cell? x := fun x hx => by
      obtain ⟨u, hu⟩ := h.good x hx
      obtain ⟨cs, t, fz, hx⟩ := cell_cells hu
      exact World.cell?_of_block (World.putObj_heap_other (fun e => by subst e; rw [hD] at hx; cases hx))
    exact marks_panic (a0 := a0) l { a with defers := l } _ hg rfl (fun w' h1 h2 => hR w' h1 (fun x hx => (h2 x hx).trans (hc x hx)))
end

theorem callsP_of_absp {P : Program} {f : FuncId} {fn : Func} {code : Code} {ds : List D} {t : TypeId} {res : Option (List D)} {n : Nat} {rs : Array ResultVar} (hf : P.funcs[f]? = some fn) (hnt : fn.ntmps = n) (hrs : fn.results = rs)
    (hc : ∀ (args : Array Value) (w : World), (callFunc f args).run P w = .ok (.enter f args) w) (hb : fn.body = some code) (hn : ds.length ≤ n) (hr0 : rs = #[])
    (h : ∀ (w0 : World) (S0 : Addr → Prop) (M0 : MM), AbsP ⟨P, w0, S0, M0, none, fun b => w0.heap.size ≤ b, []⟩ code (fun e _ => (e = .normal ∨ e = .ret) ∧ res = none) t (fun cs => res = some cs) ⟨n, ofL 0 ds, [], []⟩) : CallsP P f ds t res := by
  subst hnt
  refine ⟨hc, fun S M w args hS hM hl hrel => ?_⟩
  refine (callsIn_wide (n := 0)).1 (callsIn_of_wp_marks hf hb trivial ?_)
  have hw := h w S M { tmps := args.toArray ++ Array.replicate (fn.ntmps - args.toArray.size) undef, defers := [] } w
    ⟨⟨S, [], [], M⟩, ⟨⟨List.nodup_nil, fun d hd => by cases hd⟩, hM, fun _ _ h => h, fun _ _ h => .inl h, fun i b h => by simp at h, fun _ _ => rfl⟩, by simp; omega, .of (Below.refl _ _), fun _ h => h, hS, fun _ h => .inl h, fun _ h => h, hS, rfl, rfl, ?_, ?_, ?_, ?_, ?_⟩
  · refine wpIn_mono (F := Fence.wide) hw ?_
    have grow : ∀ {s' : St} {a' : Act} {w' : World} {g : Gh}, RG ⟨P, w, S, M, none, fun b => w.heap.size ≤ b, []⟩ s' a' w' g → Grow w S M w' g.S g.M := fun hg =>
      ⟨⟨hg.below.os, hg.below.tape, hg.below.output, hg.below.size, fun k hk hn => hg.below.block k hk (fun h => h.elim (fun h => absurd (show w.heap.size ≤ k from h) (Nat.not_le_of_lt hk)) hn)⟩, hg.S0, hg.from0, hg.df.m0, hg.df.mfrom, hg.df.mok⟩
    rintro e a' w' (⟨s', ⟨g, hg⟩, hq, hres⟩ | ⟨x, cs, s', g, rfl, hg, hx, hres⟩)
    · have key : LeavesInM Fence.wide 0 P fn a'.tmps (fun e w' => ∃ S' M', Grow w S M w' S' M' ∧ Good w' S' ∧ ((res = none ∧ ∃ v, e = .returned v) ∨ ∃ x cs, res = some cs ∧ e = .panicked [{ v := .iface t x, recovered := false }] ∧ Rel w' ⟨S', [], [], M'⟩ x (.agg cs))) a'.defers .returning w' :=
        marks_leave (c := ⟨P, w, S, M, none, fun b => w.heap.size ≤ b, []⟩) (s := s') (g := g) (ds := []) a'.defers a' w' hg rfl (by rw [hrs, hr0]; rfl) (fun v w2 h2 _ => ⟨g.S, g.M, grow h2, h2.good, .inl ⟨hres, v, rfl⟩⟩)
      rcases hq with rfl | rfl
      · exact key
      · exact key
    · exact marks_panic (c := ⟨P, w, S, M, none, fun b => w.heap.size ≤ b, []⟩) (s := s') (g := g) (a0 := a') a'.defers a' w' hg rfl (fun w2 h2 hcell => ⟨g.S, g.M, grow h2, h2.good, .inr ⟨x, cs, hres, rfl, hx.keep ⟨hcell, fun _ h => h, fun _ _ h => h, fun _ _ h => h, fun _ _ h => h⟩⟩⟩)
  · intro m
    simp only
    rw [ofL_at]
    simp only [Nat.not_lt_zero, if_false, Nat.sub_zero]
    cases hd : ds[m]? with
    | none => exact .undef _ _
    | some x =>
      have hm := (List.getElem?_eq_some_iff.1 hd).1
      have := hrel m x hd
      have e : (args.toArray ++ Array.replicate (fn.ntmps - args.toArray.size) undef).getD m undef = args.getD m undef := by
        have : m < args.length := by omega
        simp [Array.getElem?_append, this]
      rw [e]; exact this
  · intro i cs hi; simp at hi
  · intro i cs hi; simp at hi
  · intro i cs hi; simp at hi
  · exact ⟨fun _ => .inl 0, fun i x b hi => by simp at hi, fun r row v gb hr => by simp at hr⟩

section
variable {c : Ctx} {s : St} {Q : Exit → St → Prop} {code : Code} {t : TypeId} {Z : List D → Prop}
theorem R.freeze (i : Nat) (cs cs' : List D) (hi : s.bx[i]? = some (.mu cs)) (hp : pureL s.bx s.rw cs = some cs') {a : Act} {w : World} (hr : R c s a w) : R c { s with bx := s.bx.set i (.fz cs') } a w := by
  obtain ⟨g, hg⟩ := hr
  obtain ⟨b, vs, t, e1, e2, e3, e4, e5, _⟩ := (hg.bx i cs hi).ex
  have e3 : CellsR w g vs cs := e3
  obtain ⟨p1, p2⟩ := pureL_get hp
  let S' : Addr → Prop := fun x => g.S x ∨ ∃ q, q < cs.length ∧ x = ⟨b, q, none⟩
  have hil : i < s.bx.length := (List.getElem?_eq_some_iff.1 hi).1
  have k : Keeps w g w ⟨S', g.β, g.ρ, g.M⟩ := ⟨fun _ _ => rfl, fun _ h => .inl h, fun _ _ h => h, fun _ _ h => h, fun _ _ h => h⟩
  obtain ⟨κ, k1, k2⟩ := hg.ap
  have hold : ∀ (j : Nat) (x : Bx), (s.bx.set i (.fz cs'))[j]? = some x → (j = i ∧ x = .fz cs') ∨ (j ≠ i ∧ s.bx[j]? = some x) := fun j x hj => by
    by_cases hji : j = i
    · subst hji
      rw [List.getElem?_set_self hil] at hj
      exact .inl ⟨rfl, (Option.some.inj hj).symm⟩
    · rw [List.getElem?_set_ne (Ne.symm hji)] at hj
      exact .inr ⟨hji, hj⟩
  have hbsz : b < w.heap.size := (Array.getElem?_eq_some_iff.1 e2).1
  refine ⟨⟨S', g.β, g.ρ, g.M⟩, hg.df.gh rfl, hg.sz, hg.below, hg.own0, fun x hx => ?_, fun x hx => ?_, fun x hx => .inl (hg.S0 x hx), hg.good0, by simp [hg.lβ], hg.lρ, fun n => (hg.sl n).keep k, ?_, ?_, ?_, ?_⟩
  · rcases hx with hx | ⟨q, hq, rfl⟩
    · exact hg.good x hx
    · rw [cell_of_row w b q vs t (0, 0) e2]
      have : q < vs.size := by rw [e3.1]; exact hq
      exact ⟨vs[q], by simp [this]⟩
  · rcases hx with hx | ⟨q, _, rfl⟩
    · exact hg.from0 x hx
    · exact .inr e4
  · intro j ds hj
    rcases hold j _ hj with ⟨_, e⟩ | ⟨hji, hj⟩
    · cases e
    · obtain ⟨b', vs', t', f1, f2, f3, f4, f5, f6⟩ := (hg.bx j ds hj).ex
      refine ⟨b', vs', t', f1, f2, f3.keep k, f4, fun _ x hx => ?_, fun h => by cases h⟩
      rcases hx with hx | ⟨q, _, rfl⟩
      · exact f5 rfl x hx
      · intro e
        simp at e; subst e
        have q1 := k1 i _ b hi rfl e1
        have q2 := k1 j _ b hj rfl f1
        rw [q1] at q2; injection q2 with q2; exact hji q2.symm
  · intro j ds hj
    rcases hold j _ hj with ⟨rfl, e⟩ | ⟨hji, hj⟩
    · cases e
      refine ⟨b, vs, t, e1, e2, ⟨by rw [e3.1, p1], fun q d hd => ?_⟩, e4, (fun h => by cases h), fun _ q hq => .inr ⟨q, by rw [← p1]; exact hq, rfl⟩⟩
      obtain ⟨d0, hd0, hpd⟩ := p2 q d hd
      exact ⟨(pureA_rel hg (e3.2 q d0 hd0).1 hpd).keep k.er, (e3.2 q d0 hd0).2⟩
    · obtain ⟨b', vs', t', f1, f2, f3, f4, f5, f6⟩ := (hg.fz j ds hj).ex
      exact ⟨b', vs', t', f1, f2, f3.keep k.er, f4, (fun h => by cases h), fun _ q hq => .inl (f6 rfl q hq)⟩
  · intro r row hr
    obtain ⟨v, f1, f2, f3⟩ := (hg.rw r row hr).ex
    refine ⟨v, f1, f2.keep k, fun hl => ?_⟩
    obtain ⟨ho, hcl, hS⟩ := f3 hl
    refine ⟨ho, hcl, fun gb hgb => ⟨(hS gb hgb).1, fun x hx hxb => ?_⟩⟩
    rcases hx with hx | ⟨q, _, rfl⟩
    · exact (hS gb hgb).2 x hx hxb
    · simp at hxb; subst hxb
      have q1 := k1 i _ b hi rfl e1
      have q2 := k2 r row v b hr hl f1 hgb
      rw [q1] at q2; cases q2
  · refine ⟨κ, fun j x b' hj hx hb' => ?_, k2⟩
    rcases hold j _ hj with ⟨rfl, e⟩ | ⟨hji, hj⟩
    · exact k1 j _ b' hi rfl hb'
    · exact k1 j x b' hj hx hb'


theorem absp_freeze (i : Nat) (cs cs' : List D) (hi : s.bx[i]? = some (.mu cs)) (hp : pureL s.bx s.rw cs = some cs')
    (h : AbsP c code Q t Z { s with bx := s.bx.set i (.fz cs') }) : AbsP c code Q t Z s := fun a w hr => h a w (hr.freeze i cs cs' hi hp)
end
end Go.Ab
namespace Go.Ab
/-- What is done stands with all that it waits for. -/
def closedL (ops : Array Oper) (L : Nat → Bool) : Prop := ∀ (j : Nat) (o : Oper), ops[j]? = some o → L j = true → ∀ e ∈ o.after, Region.binds .any e = true → L e.on = true
theorem wpIn_region_flowC {P : Program} {ops : Array Oper} {Q : Exit → Act → World → Prop} {id : Nat} {a : Act} {w : World} (hm : P.follows .mixedOrders = true) (hB : flowB ops = true) (Inv : (Nat → Bool) → Act → World → Prop)
    (h0 : Inv (fun _ => false) a { w with drawn := w.drawn + 1 })
    (step : ∀ (L : Nat → Bool) (i : Nat) (o : Oper), closedL ops L → ops[i]? = some o → L i = false → (∀ e ∈ o.after, Region.binds .any e = true → L e.on = true) → ∀ a w, Inv L a w →
      o.wpIn Fence.wide 0 P a w (Inv (fun j => decide (j = i) || L j)) Q)
    (done : ∀ (L : Nat → Bool) a w, (∀ i, i < ops.size → L i = true) → Inv L a w → Q .normal a w) : (Code.region id ops true).wpIn Fence.wide 0 P Q a w := by
  refine wpIn_region_flowB hm hB (fun L a w => closedL ops L ∧ Inv L a w) ⟨fun j o _ h => (by cases h), h0⟩ (fun L i o ho hL hdep a w hI => ?_) (fun L a w hL hI => done L a w hL hI.2)
  refine Oper.wpIn_mono (fun a' w' h => ⟨fun j oj hj hLj e he hb => ?_, h⟩) (step L i o hI.1 ho hL hdep a w hI.2)
  simp only [Bool.or_eq_true, decide_eq_true_eq] at hLj ⊢
  rcases hLj with rfl | hLj
  · rw [ho] at hj; cases hj
    exact .inr (hdep e he hb)
  · exact .inr (hI.1 j oj hj hLj e he hb)
end Go.Ab
end
section
namespace Go.Ab
open Go.RowKit

/-- Operations that only compute, or turn memory. -/
def calmOp : Op → Bool
  | .move _ | .assign _ | .alloc _ | .load .. | .store .. | .extract .. | .fieldAddr .. | .makeFunc .. | .unOp .. => true
  | _ => false
theorem calm_v {P : Program} {w w' : World} {s : Sem Value} {n : Next} (h : (do pure (.value (← s)) : Sem Next).run P w = .ok n w') : ∃ v, n = .value v := by
  rw [Sem.run_bind] at h
  cases hr : s.run P w with
  | ok v w2 => rw [hr] at h; simp only [Result.andThen_ok, Sem.run_pure] at h; cases h; exact ⟨v, rfl⟩
  | halt x w2 => rw [hr] at h; cases h
theorem calm_u {P : Program} {w w' : World} {s : Sem Unit} {n : Next} (h : (do s; pure .skip : Sem Next).run P w = .ok n w') : n = .skip := by
  rw [Sem.run_bind] at h
  cases hr : s.run P w with
  | ok v w2 => rw [hr] at h; simp only [Result.andThen_ok, Sem.run_pure] at h; cases h; rfl
  | halt x w2 => rw [hr] at h; cases h
theorem calm_run {P : Program} {ρ : Operand → Value} {o : Oper} {w w' : World} {n : Next} (hc : calmOp o.op = true) (h : (execOp ρ o).run P w = .ok n w') : (∃ v, n = .value v) ∨ n = .skip := by
  obtain ⟨dst, op, ty, pos, aft, gd⟩ := o
  cases op <;> first | (cases hc; done) | skip
  all_goals first
    | (exact .inl (calm_v h))
    | (exact .inr (calm_u h))
    | (simp only [execOp, Sem.run_pure] at h; cases h; exact .inl ⟨_, rfl⟩)

/-- The state of a frame that has deferred what the layer does not speak of. -/
def RX (l1 l2 : List Deferred) (c : Ctx) (s : St) (a : Act) (w : World) : Prop := a.defers = l1 ∧ R c s { a with defers := l2 } w

section
variable {c : Ctx} {l1 l2 : List Deferred} {s : St} {a : Act} {w : World}
theorem rx_step {o : Oper} {K : St → Prop} {Q' : Exit → Act → World → Prop} {N : Act → World → Prop} (hc : calmOp o.op = true) (hr : RX l1 l2 c s a w) (hst : stepOp c.P o s K) (hN : ∀ s' a' w', RX l1 l2 c s' a' w' → K s' → N a' w') : o.wpIn c.F 0 c.P a w N Q' := by
  obtain ⟨hd, g, hg⟩ := hr
  have hs := step_sound (Q := fun _ _ _ => False) hg hst
  refine op_in (fun cl e => by rw [e] at hc; cases hc) ?_
  unfold Oper.wp at hs ⊢
  have he : ({ a with defers := l2 } : Act).eval = a.eval := rfl
  rw [he] at hs
  have hput : ∀ v, (a.put o.dst v).defers = l1 ∧ ({ a.put o.dst v with defers := l2 } : Act) = ({ a with defers := l2 } : Act).put o.dst v := fun v => by
    cases o.dst with
    | none => exact ⟨hd, rfl⟩
    | some n => exact ⟨hd, rfl⟩
  cases hrun : (execOp a.eval o).run c.P w with
  | ok n w' =>
    rw [hrun] at hs
    rcases calm_run hc hrun with ⟨v, rfl⟩ | rfl
    · obtain ⟨s', h1, h2⟩ := hs
      exact hN s' _ _ ⟨(hput v).1, (hput v).2 ▸ h1⟩ h2
    · obtain ⟨s', h1, h2⟩ := hs
      exact hN s' _ _ ⟨(hput undef).1, (hput undef).2 ▸ h1⟩ h2
  | halt x w' =>
    rw [hrun] at hs
    cases x <;> exact hs.elim

theorem rx_list {ops : Array Oper} {K : St → Prop} {Q : Exit → Act → World → Prop} {rest : List Oper} (hK : ∀ s a w, RX l1 l2 c s a w → K s → wpListIn c.F 0 c.P ops Q rest a w) : ∀ (l : List Oper) (s : St) (a : Act) (w : World), (l.all fun o => calmOp o.op && o.guard.isNone) = true → RX l1 l2 c s a w → evOps c.P ops.toList l s K → wpListIn c.F 0 c.P ops Q (l ++ rest) a w
  | [], s, a, w, _, hr, h => hK s a w hr h
  | o :: l, s, a, w, hl, hr, h => by
    simp only [List.all_cons, Bool.and_eq_true, Option.isNone_iff_eq_none] at hl
    obtain ⟨⟨h1, h2⟩, h3⟩ := hl
    unfold evOps at h
    rw [h2] at h
    show wpListIn _ _ _ _ _ (o :: (l ++ rest)) a w
    unfold wpListIn
    rw [if_pos (by simp [Region.wanted, h2])]
    exact rx_step h1 hr h (fun s' a' w' hr' hk' => rx_list hK l s' a' w' (by simpa using h3) hr' hk')

/-- A value that is known, in a slot. -/
theorem RX.put {v : Value} {d : D} {dst : Option Tmp} (hr : RX l1 l2 c s a w) (hd : dstOk s dst) (h : ∀ g, RG c s { a with defers := l2 } w g → ∃ g', RG c s { a with defers := l2 } w g' ∧ Rel w g' v d) : RX l1 l2 c (s.put dst d) (a.put dst v) w := by
  obtain ⟨hdf, g, hg⟩ := hr
  obtain ⟨g', hg', hv⟩ := h g hg
  have h2 := hg'.put hd hv
  refine ⟨?_, g', ?_⟩
  · cases dst <;> exact hdf
  · have : ({ a.put dst v with defers := l2 } : Act) = ({ a with defers := l2 } : Act).put dst v := by cases dst <;> rfl
    rw [this]; exact h2
theorem RX.tick (hr : RX l1 l2 c s a w) : RX l1 l2 c s a { w with drawn := w.drawn + 1 } := ⟨hr.1, RG.drewTick hr.2⟩
theorem RX.le {s' : St} (hr : RX l1 l2 c s a w) (hl : Le s s') (hn : s'.named) (h0 : c.β0.length ≤ s'.bx.length) : RX l1 l2 c s' a w := ⟨hr.1, hr.2.le hl hn h0⟩
end

/-- A frame that shares the boxes of the one ahead. -/
theorem RG.enterN {c : Ctx} {st : St} {a a' : Act} {W : World} {g : Gh} {n : Nat} {sl : Nat → D} (h : RG c st a W g) (hd : a'.defers = []) (hs : a'.tmps.size = n) (hsl : ∀ m, Rel W g (a'.tmps.getD m Go.undef) (sl m)) :
    RG ⟨c.P, W, g.S, g.M, none, fun b => W.heap.size ≤ b ∨ (c.own b ∧ ∃ cs t fz, W.heap[b]? = some (.cells cs t fz)), g.β⟩ ⟨n, sl, st.bx, st.rw⟩ a' W g := by
  refine ⟨⟨⟨by rw [hd]; exact List.nodup_nil, fun d h => by rw [hd] at h; cases h⟩, h.df.mok, fun _ _ h => h, fun _ _ h => .inl h, fun _ _ h => h, fun _ _ => rfl⟩, hs, .of (Below.refl _ _), fun _ h => .inl h, h.good, fun _ h => .inl h, fun _ h => h, h.good, h.lβ, h.lρ, hsl, fun i cs hi => ?_, fun i cs hi => ?_, fun r row hr => ?_, h.ap⟩
  · obtain ⟨b, vs, t, e1, e2, e3, e4, e5⟩ := (h.bx i cs hi).ex
    exact ⟨b, vs, t, e1, e2, e3, .inr ⟨e4, _, _, _, e2⟩, e5⟩
  · obtain ⟨b, vs, t, e1, e2, e3, e4, e5⟩ := (h.fz i cs hi).ex
    exact ⟨b, vs, t, e1, e2, e3, .inr ⟨e4, _, _, _, e2⟩, e5⟩
  · obtain ⟨v, e1, e2, e3⟩ := (h.rw r row hr).ex
    refine ⟨v, e1, e2, fun hl => ?_⟩
    obtain ⟨h1, h2, h3⟩ := e3 hl
    refine ⟨h1, h2, fun gb hgb => ⟨.inr ⟨(h3 gb hgb).1, ?_⟩, (h3 gb hgb).2⟩⟩
    obtain ⟨vals, hown⟩ := h1
    rcases hown.2 with ⟨rfl, _⟩ | ⟨g2, cap, cur, rfl, _, hgg, _⟩
    · simp [Value.ownBlock] at hgb
    · simp [Value.ownBlock] at hgb
      subst hgb
      exact ⟨_, _, _, hgg⟩

/-- Back from such a frame. -/
theorem RG.leaveN {c : Ctx} {st s2 : St} {a a2 : Act} {W W2 : World} {g g2 : Gh} (h : RG c st a W g)
    (h2 : RG ⟨c.P, W, g.S, g.M, none, fun b => W.heap.size ≤ b ∨ (c.own b ∧ ∃ cs t fz, W.heap[b]? = some (.cells cs t fz)), g.β⟩ s2 a2 W2 g2) (hsl : ∀ m, Names st.bx.length 0 (st.sl m)) : RG c ⟨st.n, st.sl, s2.bx, s2.rw⟩ a W2 g2 := by
  have hown : ∀ b, (W.heap.size ≤ b ∨ (c.own b ∧ ∃ cs t fz, W.heap[b]? = some (.cells cs t fz))) → c.own b := fun b hb => hb.elim (fun h1 => h.own0 b (Nat.le_trans h.below.size h1)) (fun h1 => h1.1)
  refine h.back h2 (h2.later rfl rfl rfl (fun _ hb => hb)) hown hown h2.df.anc hsl (fun d hd D hD hb => ?_)
  obtain ⟨D', _, rfl, hD'⟩ := h.df.dok.2 d hd
  cases hD
  have hlt := (Array.getElem?_eq_some_iff.1 hD').1
  rcases hb with hb | ⟨_, cs, t, fz, hb⟩
  · omega
  · rw [hD'] at hb; cases hb
end Go.Ab
end
section
namespace Go.Ab
open Go.RowKit
section
variable {c : Ctx} {s : St} {Q : Exit → St → Prop} {code : Code}
/-- What a row of the call's own holds so far, as a list that is not written. -/
theorem abs_list (n r : Nat) (row : Row) (hn : s.sl n = .own r) (hr : s.rw[r]? = some row) (h : Abs c code Q { s with sl := put s.sl n (.list row.xs) }) : Abs c code Q s := by
  rintro a w ⟨g, hg⟩
  refine h a w ⟨g, hg.df, hg.sz, hg.below, hg.own0, hg.good, hg.from0, hg.S0, hg.good0, hg.lβ, hg.lρ, fun m => ?_, hg.bx, hg.fz, hg.rw, hg.ap⟩
  simp only [put]
  by_cases hm : m = n
  · subst hm
    rw [if_pos rfl]
    have := hg.sl m
    rw [hn] at this
    generalize hv : a.tmps.getD m undef = v at this
    cases this with
    | own _ _ _ h1 =>
      obtain ⟨v', f1, f2, _⟩ := (hg.rw r row hr).ex
      rw [h1] at f1; cases f1
      exact f2
  · rw [if_neg hm]; exact hg.sl m
/-- A nil slice in a box is taken for a row of the call's own. -/
theorem abs_adoptB (i q : Nat) (e : TypeId) (sz : Nat) (cs : List D) (hi : s.bx[i]? = some (.mu cs)) (hq : cs[q]? = some (.val (.slice none 0 0)))
    (h : Abs c code Q { s with bx := s.bx.set i (.mu (cs.set q (.own s.rw.length))), rw := s.rw ++ [⟨true, e, sz, []⟩] }) : Abs c code Q s := by
  rintro a w ⟨g, hg⟩
  refine h a w ⟨⟨g.S, g.β, g.ρ ++ [.slice none 0 0], g.M⟩, ?_⟩
  have hp := hg.pushNil e sz
  have hil : i < s.bx.length := (List.getElem?_eq_some_iff.1 hi).1
  have hql : q < cs.length := (List.getElem?_eq_some_iff.1 hq).1
  have hold : ∀ (j : Nat) (x : Bx), (s.bx.set i (.mu (cs.set q (.own s.rw.length))))[j]? = some x → (j = i ∧ x = .mu (cs.set q (.own s.rw.length))) ∨ (j ≠ i ∧ s.bx[j]? = some x) := fun j x hj => by
    by_cases hji : j = i
    · subst hji
      rw [List.getElem?_set_self hil] at hj
      exact .inl ⟨rfl, (Option.some.inj hj).symm⟩
    · rw [List.getElem?_set_ne (Ne.symm hji)] at hj
      exact .inr ⟨hji, hj⟩
  obtain ⟨κ, k1, k2⟩ := hp.ap
  refine ⟨hp.df, hp.sz, hp.below, hp.own0, hp.good, hp.from0, hp.S0, hp.good0, by simpa using hp.lβ, hp.lρ, hp.sl, fun j ds hj => ?_, fun j ds hj => ?_, hp.rw, κ, fun j x b hj hx hb => ?_, k2⟩
  · rcases hold j _ hj with ⟨rfl, e1⟩ | ⟨_, hj'⟩
    · cases e1
      obtain ⟨b, vs, t, f1, f2, f3, f4, f5, f6⟩ := (hp.bx j cs hi).ex
      refine ⟨b, vs, t, f1, f2, ⟨by rw [List.length_set]; exact f3.1, fun p d hd => ?_⟩, f4, f5, fun hh => by cases hh⟩
      by_cases hpq : p = q
      · subst hpq
        rw [List.getElem?_set_self hql] at hd
        cases hd
        obtain ⟨g1, g2⟩ := f3.2 p _ hq
        refine ⟨?_, g2⟩
        generalize vs.getD p undef = v at g1
        simp only [if_true] at g1 ⊢
        cases g1
        exact .own _ _ _ (by rw [← hg.lρ]; simp)
      · rw [List.getElem?_set_ne (Ne.symm hpq)] at hd
        exact f3.2 p d hd
    · exact hp.bx j ds hj'
  · rcases hold j _ hj with ⟨_, e1⟩ | ⟨_, hj'⟩
    · cases e1
    · exact hp.fz j ds hj'
  · rcases hold j _ hj with ⟨rfl, _⟩ | ⟨_, hj'⟩
    · exact k1 j _ b hi rfl hb
    · exact k1 j x b hj' hx hb
end
end Go.Ab
end
