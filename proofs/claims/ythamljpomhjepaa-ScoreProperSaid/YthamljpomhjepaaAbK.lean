import Derived.Test.YthamljpomhjepaaAbJ
set_option linter.unusedVariables false
set_option linter.unusedSimpArgs false
namespace Go.Ab
open Go.RowKit

/-- Operations as steps of some system; which of them may change places. -/
structure Sys (ops : Array Oper) (σ : Type) where
  stp : Oper → σ → (σ → Prop) → Prop
  pr : Oper → Oper → Bool
  mono : ∀ {i : Nat} {o : Oper}, ops[i]? = some o → ∀ {s : σ} {K K' : σ → Prop}, (∀ s, K s → K' s) → stp o s K → stp o s K'
  ex : ∀ {i : Nat} {o : Oper}, ops[i]? = some o → ∀ {s : σ} {K : σ → Prop}, stp o s K → ∃ s', K s'
  swap : ∀ {i j : Nat} {oi oj : Oper}, ops[i]? = some oi → ops[j]? = some oj → oi.apart ops oj = true → pr oi oj = true → ∀ {s : σ} {K : σ → Prop}, stp oi s (fun s1 => stp oj s1 K) → stp oj s (fun s1 => stp oi s1 K)

section
variable {ops : Array Oper} {σ : Type} (Y : Sys ops σ)

def anyG (K : σ → Prop) : Nat → Array Bool → σ → Prop
  | 0, listed, s => Region.ready .any ops listed = [] ∧ K s
  | n + 1, listed, s => (Region.ready .any ops listed = [] → K s) ∧ ∀ i ∈ Region.ready .any ops listed, ∀ o, ops[i]? = some o → Y.stp o s fun s' => anyG K n (listed.setIfInBounds i true) s'
def txtG (K : σ → Prop) : List Oper → σ → Prop
  | [], s => K s
  | o :: l, s => Y.stp o s fun s' => txtG K l s'

variable {Y} {K : σ → Prop}
theorem anyG_first {i : Nat} {oi : Oper} (hi : ops[i]? = some oi) :
    ∀ (fuel : Nat) (listed : Array Bool) (s : σ),
      (∀ (j : Nat) (oj : Oper), ops[j]? = some oj → j ≠ i → listed.getD j true = false → (∀ e ∈ oj.after, Region.binds .any e = true → e.on ≠ i) → oi.apart ops oj = true ∧ Y.pr oi oj = true) →
      i ∈ Region.ready .any ops listed → Y.stp oi s (fun s' => anyG Y K fuel (listed.setIfInBounds i true) s') → anyG Y K (fuel + 1) listed s := by
  intro fuel
  induction fuel with
  | zero =>
    intro listed s _ hr H
    refine ⟨fun h => (by rw [h] at hr; cases hr), fun j hj oj hoj => ?_⟩
    by_cases hji : j = i
    · subst hji; rw [hi] at hoj; cases hoj; exact H
    · have hrj := ready_mono hj hji
      exfalso
      obtain ⟨s', h1, _⟩ := Y.ex hi H
      rw [h1] at hrj
      cases hrj
  | succ fuel ih =>
    intro listed s hfree hr H
    refine ⟨fun h => (by rw [h] at hr; cases hr), fun j hj oj hoj => ?_⟩
    by_cases hji : j = i
    · subst hji; rw [hi] at hoj; cases hoj; exact H
    · obtain ⟨hjun, oj', hoj', hall⟩ := mem_ready.1 hj
      rw [hoj] at hoj'; cases hoj'
      have hnot : ∀ e ∈ oj.after, Region.binds .any e = true → e.on ≠ i := fun e he hb heq => by
        have h1 := hall e he hb
        have h0 := (mem_ready.1 hr).1
        rw [heq] at h1
        rcases Nat.lt_or_ge i listed.size with h' | h'
        · simp [h'] at h0 h1; rw [h0] at h1; cases h1
        · simp [Array.getElem?_eq_none h'] at h1
      obtain ⟨hap, hpk⟩ := hfree j oj hoj hji hjun hnot
      have h1 : Y.stp oi s fun s1 => Y.stp oj s1 fun s2 => anyG Y K fuel ((listed.setIfInBounds i true).setIfInBounds j true) s2 :=
        Y.mono hi (fun s1 hs1 => hs1.2 j (ready_mono hj hji) oj hoj) H
      have h2 := Y.swap hi hoj hap hpk h1
      have hfree' : ∀ (k : Nat) (ok : Oper), ops[k]? = some ok → k ≠ i → (listed.setIfInBounds j true).getD k true = false →
          (∀ e ∈ ok.after, Region.binds .any e = true → e.on ≠ i) → oi.apart ops ok = true ∧ Y.pr oi ok = true := fun k ok hk hki hun hno => by
        refine hfree k ok hk hki ?_ hno
        by_cases hjk : j = k
        · subst hjk; exact hjun
        · rw [getD_set_ne true hjk] at hun; exact hun
      refine Y.mono hoj (fun s1 h3 => ih (listed.setIfInBounds j true) s1 hfree' (ready_mono hr (Ne.symm hji)) ?_) h2
      rw [Array.setIfInBounds_comm _ _ hji]
      exact h3

theorem anyG_lex (hp : ∀ (a b : Nat) (oa ob : Oper), a < b → ops[a]? = some oa → ops[b]? = some ob → (∀ e ∈ ob.after, Region.binds .any e = true → e.on ≠ a) → Y.pr oa ob = true) :
    ∀ (l : List Oper) (k : Nat) (listed : Array Bool) (s : σ), (∀ j, l[j]? = ops[k + j]?) →
    (∀ j, j < k → listed.getD j true = true) → Region.lexFrom .any ops l.length k listed = true → txtG Y K l s → anyG Y K l.length listed s
  | [], _, _, _, _, _, hB, h => ⟨by simpa [Region.lexFrom] using hB, h⟩
  | o :: l, k, listed, s, hl, hlt, hB, h => by
    have h0 : ops[k]? = some o := by simpa using (hl 0).symm
    simp only [List.length_cons, Region.lexFrom, Bool.and_eq_true] at hB
    obtain ⟨⟨hr, hf⟩, hB'⟩ := hB
    refine anyG_first h0 l.length listed s (fun j oj hj hjk hun hno => ⟨Region.free_spec h0 hf j oj hj hjk hun hno, ?_⟩) (by simpa using hr)
      (Y.mono h0 (fun s' hs' => anyG_lex hp l (k + 1) _ s' (fun j => by have := hl (j + 1); simpa [Nat.add_assoc, Nat.add_comm 1 j] using this) (fun j hj => ?_) hB' hs') h)
    · have hkj : k < j := by
        rcases Nat.lt_trichotomy j k with h1 | h1 | h1
        · rw [hlt j h1] at hun; cases hun
        · exact absurd h1 hjk
        · exact h1
      exact hp k j o oj hkj h0 hj hno
    · by_cases h1 : k = j
      · subst h1
        by_cases hs : k < listed.size
        · simp [hs]
        · simp [hs]
      · rw [getD_set_ne true h1]; exact hlt j (by omega)

theorem anyG_sound {P : Program} {F : Fence} {Rr : σ → Act → World → Prop} {Q : Exit → Act → World → Prop} (hQ : ∀ s a w, Rr s a w → K s → Q .normal a w)
    (hs : ∀ (i : Nat) (o : Oper), ops[i]? = some o → ∀ (s : σ) (a : Act) (w : World) (K' : σ → Prop) (N : Act → World → Prop), Rr s a w → (∀ s a w, Rr s a w → K' s → N a w) → Y.stp o s K' →
      if Region.wanted o (yielded ops a.tmps) then o.wpIn F 0 P a w N Q else (∀ f, o.about P w a.eval = some f → F.fn f) ∧ N (a.put o.dst undef) w) :
    ∀ (fuel : Nat) (listed : Array Bool) (s : σ) (a : Act) (w : World), Rr s a w → anyG Y K fuel listed s → wpAnyIn F 0 P .any ops Q fuel listed a w
  | 0, _, s, a, w, hr, h => ⟨h.1, hQ s a w hr h.2⟩
  | fuel + 1, listed, s, a, w, hr, h => by
    refine ⟨fun h0 => hQ s a w hr (h.1 h0), fun i hi => ?_⟩
    unfold wpOpIn
    cases ho : ops[i]? with
    | none =>
      obtain ⟨_, o, ho', _⟩ := mem_ready.1 hi
      rw [ho] at ho'; cases ho'
    | some o =>
      exact hs i o ho s a w _ _ hr (fun s' a' w' hr' hk' => anyG_sound hQ hs fuel _ s' a' w' hr' hk') (h.2 i hi o ho)
end

/-- The yield, as a step. -/
def yStep (c : IC) (fx x : Operand) (dst : Option Tmp) (s : St × Ix) (K : St × Ix → Prop) : Prop :=
  ∃ k d, s.2 = (true, k) ∧ s.1.ev fx = .val (.func (.yield c.l) #[] #[]) ∧ pureDs s.1.bx s.1.rw [s.1.ev x] = some d ∧ c.xs[k]? = some d ∧ dstOk s.1 dst ∧ ∀ b : Bool, K (s.1.put dst (.bool b), (b, k + 1))
/-- Which operation is the yield: by its slot. -/
def isY (t : Nat) (o : Oper) : Bool := match o.dst with | some u => u == t | none => false
def yOf (o : Oper) : Option (Operand × Operand) := match o.op with | .call ⟨.value fx, ⟨[x]⟩, _⟩ => if o.guard.isNone then some (fx, x) else none | _ => none
def yStp (c : IC) (ops : List Oper) (t : Nat) (o : Oper) (s : St × Ix) (K : St × Ix → Prop) : Prop := match isY t o with
  | true => ∃ fx x, yOf o = some (fx, x) ∧ yStep c fx x o.dst s K
  | false => gst c.P ops o s.1 fun s' => K (s', s.2)
def yKinds (t : Nat) (ops : List Oper) : Bool := ops.all fun o => isY t o || match kindOf o.op with
  | .X => false
  | .L => o.guard.isNone
  | .W => o.guard.isNone
  | _ => true
def yPr (t : Nat) (a b : Oper) : Bool := !isY t a && !isY t b && pairOk (kindOf a.op) (kindOf b.op)
def yPairsFrom (t : Nat) (o : Oper) (i : Nat) (rest : List Oper) : Bool := rest.all fun p => p.after.any (fun e => Region.binds .any e && e.on == i) || yPr t o p
def yPairs (t : Nat) : Nat → List Oper → Bool
  | _, [] => true
  | i, o :: rest => yPairsFrom t o i rest && yPairs t (i + 1) rest
theorem yPairs_at {t : Nat} : ∀ (l : List Oper) (i : Nat), yPairs t i l = true → ∀ (a b : Nat) (oa ob : Oper), a < b → l[a]? = some oa → l[b]? = some ob →
    (∀ e ∈ ob.after, Region.binds .any e = true → e.on ≠ i + a) → yPr t oa ob = true
  | [], _, _, a, b, oa, ob, _, ha, _, _ => by simp at ha
  | o :: l, i, h, a, b, oa, ob, hab, ha, hb, hno => by
    simp only [yPairs, Bool.and_eq_true] at h
    obtain ⟨b, rfl⟩ : ∃ b', b = b' + 1 := ⟨b - 1, by omega⟩
    cases a with
    | zero =>
      simp at ha hb
      subst ha
      have hm := List.mem_of_getElem? hb
      have := List.all_eq_true.1 h.1 ob hm
      simp only [Bool.or_eq_true] at this
      rcases this with h | h
      · exfalso
        obtain ⟨e, he, h⟩ := Array.any_eq_true'.1 h
        simp only [Bool.and_eq_true, beq_iff_eq] at h
        exact hno e he h.1 (by simpa using h.2)
      · exact h
    | succ a =>
      exact yPairs_at l (i + 1) h.2 a b oa ob (by omega) (by simpa using ha) (by simpa using hb) (fun e he hb' => by have := hno e he hb'; omega)
end Go.Ab
namespace Go.Ab
open Go.RowKit
theorem yKinds_of {t : Nat} {ops : Array Oper} (h : yKinds t ops.toList = true) {i : Nat} {o : Oper} (ho : ops[i]? = some o) (hy : isY t o = false) : kindOf o.op ≠ .X ∧ (kindOf o.op = .L ∨ kindOf o.op = .W → o.guard = none) := by
  have hm : o ∈ ops.toList := by simpa using Array.mem_of_getElem? ho
  have := List.all_eq_true.1 h o hm
  rw [hy, Bool.false_or] at this
  cases k : kindOf o.op <;> rw [k] at this <;> simp at this ⊢ <;> exact this

def ySys (c : IC) (ops : Array Oper) (t : Nat) (hk : yKinds t ops.toList = true) : Sys ops (St × Ix) where
  stp := yStp c ops.toList t
  pr := yPr t
  mono := by
    intro i o ho s K K' hKK h
    unfold yStp at h ⊢
    cases hy : isY t o with
    | true =>
      rw [hy] at h
      obtain ⟨fx, x, e, k, d, h1, h2, h3, h4, h5, h6⟩ := h
      exact ⟨fx, x, e, k, d, h1, h2, h3, h4, h5, fun b => hKK _ (h6 b)⟩
    | false =>
      rw [hy] at h
      have hm := yKinds_of hk ho hy
      exact gst_mono hm.1 hm.2 (fun s' hs' => hKK _ hs') h
  ex := by
    intro i o ho s K H
    unfold yStp at H
    cases hy : isY t o with
    | true =>
      rw [hy] at H
      obtain ⟨fx, x, e, k, d, h1, h2, h3, h4, h5, h6⟩ := H
      exact ⟨_, h6 true⟩
    | false =>
      rw [hy] at H
      have hm := yKinds_of hk ho hy
      simp only at H
      cases k : kindOf o.op with
      | X => exact absurd k hm.1
      | A => obtain ⟨_, h2⟩ := (gst_V (.inl k)).1 H; obtain ⟨d, _, h3⟩ := (cp_gval _ _ _ _ _).ex h2; exact ⟨_, h3⟩
      | B => obtain ⟨_, h2⟩ := (gst_V (.inr k)).1 H; obtain ⟨d, _, h3⟩ := (cp_gval _ _ _ _ _).ex h2; exact ⟨_, h3⟩
      | L => obtain ⟨_, _, h2⟩ := (gst_E (.inl k) (hm.2 (.inl k))).1 H; obtain ⟨d, _, h3⟩ := (cp_eff _ _ _).ex h2; exact ⟨_, h3⟩
      | W => obtain ⟨_, _, h2⟩ := (gst_E (.inr k) (hm.2 (.inr k))).1 H; obtain ⟨d, _, h3⟩ := (cp_eff _ _ _).ex h2; exact ⟨_, h3⟩
  swap := by
    intro i j oi oj hi hj hap hpr s K h
    unfold yPr at hpr
    simp only [Bool.and_eq_true, Bool.not_eq_true'] at hpr
    obtain ⟨⟨yi, yj⟩, hp⟩ := hpr
    unfold yStp at h ⊢
    rw [yi] at h
    simp only [yi, yj] at h ⊢
    exact swap hap hp (yKinds_of hk hi yi).2 (yKinds_of hk hj yj).2 h

def JR (c : IC) (s : St × Ix) (a : Act) (w : World) : Prop := ∃ T S M, JX c.J c.Jx s.2 T S M w ∧ IR c.P T S M s.1 a w

theorem y_sound {c : IC} (hok : c.Ok) {ops : Array Oper} {t : Nat} {Q : Exit → Act → World → Prop} {o : Oper} {s : St × Ix} {a : Act} {w : World} {K' : St × Ix → Prop} {N : Act → World → Prop}
    (hr : JR c s a w) (hN : ∀ s a w, JR c s a w → K' s → N a w) (h : yStp c ops.toList t o s K') :
    if Region.wanted o (yielded ops a.tmps) then o.wpIn Fence.wide 0 c.P a w N Q else (∀ f, o.about c.P w a.eval = some f → Fence.wide.fn f) ∧ N (a.put o.dst undef) w := by
  obtain ⟨s, i⟩ := s
  obtain ⟨T, S, M, hJ, hir⟩ := hr
  have hir0 := hir
  obtain ⟨lt, g, rfl, rfl, hg⟩ := hir
  unfold yStp at h
  cases hy : isY t o with
  | false =>
    rw [hy] at h
    exact gst_sound (c := ⟨c.P, w, g.S, g.M, none, fun b => T b ∨ w.heap.size ≤ b, []⟩) (K := fun s' => K' (s', i)) hg (fun s' a' w' ⟨g', hg'⟩ hk => by
      obtain ⟨T', hi, hr'⟩ := IR.next lt hg'
      exact hN (s', i) a' w' ⟨T', _, _, hok.ab i _ _ _ _ _ _ _ _ hJ hi, hr'⟩ hk) h
  | true =>
    rw [hy] at h
    obtain ⟨fx, x, e, k, d, h1, h2, h3, h4, h5, h6⟩ := h
    simp only at h1 h2 h3 h5 h6
    subst h1
    obtain ⟨odst, oop, oty, opos, oaft, ogd⟩ := o
    unfold yOf at e
    simp only at e
    split at e
    case h_2 => cases e
    rename_i op0 fx' x' at_
    split at e
    case isFalse => cases e
    rename_i hgd
    simp only [Option.some.injEq, Prod.mk.injEq] at e
    obtain ⟨rfl, rfl⟩ := e
    have hgn : ogd = none := by cases ogd <;> simp_all
    subst hgn
    rw [if_pos (by simp [Region.wanted])]
    have hfx := hg.ev fx'
    rw [h2] at hfx
    generalize hv : a.eval fx' = vf at hfx
    cases hfx
    obtain ⟨q1, q2⟩ := pureDs_get h3
    have hY := hok.rd k T g.S g.M w [a.eval x'] d h4 hJ (by rw [q1]; rfl) (fun q dd hq => by
      obtain ⟨z, hz, hp⟩ := q2 q dd hq
      have hq0 : q = 0 := by have := (List.getElem?_eq_some_iff.1 hz).1; simp at this; exact this
      subst hq0
      simp at hz
      subst hz
      exact pureD_rel hg (hg.ev x') hp)
    obtain ⟨fn, tmps, assign, body, hrun, hround⟩ := hY
    refine ⟨fun _ _ => trivial, ?_⟩
    have hsem : (Oper.semAt Fence.wide.round a.eval ⟨odst, .call ⟨.value fx', ⟨[x']⟩, at_⟩, oty, opos, oaft, none⟩).run c.P w = .ok (.round c.l fn tmps assign body) w := by
      rw [Oper.semAt_eq _ _ _ (by intro cl h; cases h)]
      simp [execOp, resolve, hv, Deferred.ofValue, invoke, hrun]
    rw [hsem, Oper.uponIn_round]
    refine ⟨fun h => (by cases h), hround.mono ?_⟩
    rintro e w2 ⟨S2, M2, hf, hres⟩
    have hr2 := hir0.round hf
    have fin : ∀ b : Bool, JX c.J c.Jx (b, k + 1) T S2 M2 w2 → N (a.put odst (.bool b)) w2 := fun b hJ2 => by
      obtain ⟨lt2, g2, f1, f2, hg2⟩ := hr2
      exact hN (s.put odst (.bool b), (b, k + 1)) _ _ ⟨T, S2, M2, hJ2, lt2, g2, f1, f2, hg2.put h5 (.bool _ _)⟩ (h6 b)
    rcases hres with ⟨rfl, hJ2⟩ | ⟨rfl, hJ2⟩
    · exact fin true hJ2
    · exact fin false hJ2

theorem txt_of_ev {c : IC} {ops : Array Oper} {t : Nat} {hk : yKinds t ops.toList = true} {K : St × Ix → Prop} {rest : List Oper} {i : Ix} : ∀ (l : List Oper) (s : St), (l.all fun o => !isY t o) = true → (∀ o ∈ l, o ∈ ops.toList) →
    evOps c.P ops.toList l s (fun s1 => txtG (ySys c ops t hk) K rest (s1, i)) → txtG (ySys c ops t hk) K (l ++ rest) (s, i)
  | [], s, _, _, h => h
  | o :: l, s, hy, hin, h => by
    simp only [List.all_cons, Bool.and_eq_true, Bool.not_eq_true'] at hy
    show yStp c ops.toList t o (s, i) fun s' => txtG (ySys c ops t hk) K (l ++ rest) s'
    unfold yStp
    rw [hy.1]
    obtain ⟨j, hj⟩ := List.getElem?_of_mem (hin o (List.mem_cons_self ..))
    have hm := yKinds_of hk (i := j) (o := o) (by simpa using hj) hy.1
    exact gst_mono hm.1 hm.2 (fun s' hs' => txt_of_ev l s' hy.2 (fun o' ho' => hin o' (List.mem_cons_of_mem _ ho')) hs') (evOps_gst h)

theorem JR.drewTick {c : IC} (hok : c.Ok) {s : St × Ix} {a : Act} {w : World} (h : JR c s a w) : JR c s a { w with drawn := w.drawn + 1 } := by
  obtain ⟨T, S, M, hJ, lt, g, rfl, rfl, hg⟩ := h
  obtain ⟨g', hg'⟩ := RG.drewTick (c := ⟨c.P, w, g.S, g.M, none, fun b => T b ∨ w.heap.size ≤ b, []⟩) ⟨g, hg⟩
  obtain ⟨T', hi, hr'⟩ := IR.next lt hg'
  exact ⟨T', _, _, hok.ab s.2 _ _ _ _ _ _ _ _ hJ hi, hr'⟩

/-- A region that draws its order, with a yield at its n-th operation. -/
theorem ia_drawYield {c : IC} {Q : Exit → Ix → St → Prop} {s : St} {k id t : Nat} {l : List Oper} (n : Nat) {fx x : Operand} {at_ : Array TypeId} {ty : TypeId} {pos : String} {aft : Array Edge}
    (hm : c.P.follows .mixedOrders = true) (hB : (Region.lexB .any l.toArray && yKinds t l && yPairs t 0 l) = true)
    (hl : l = l.take n ++ ⟨some t, .call ⟨.value fx, #[x], at_⟩, ty, pos, aft, none⟩ :: l.drop (n + 1)) (hn : ((l.take n).all (fun o => !isY t o) && (l.drop (n + 1)).all (fun o => !isY t o)) = true)
    (h : ∀ K1 : St → Prop, (∀ s1 d, s1.ev fx = .val (.func (.yield c.l) #[] #[]) → pureDs s1.bx s1.rw [s1.ev x] = some d → c.xs[k]? = some d → dstOk s1 (some t) →
        (∀ b : Bool, evOps c.P l (l.drop (n + 1)) (s1.put (some t) (.bool b)) (fun s2 => Q .normal (b, k + 1) s2)) → K1 s1) →
      evOps c.P l (l.take n) s K1) :
    IA c (.region id l.toArray true) Q (true, k) s := by
  intro hok a w T S M hJ hr
  simp only [Bool.and_eq_true, Region.lexB] at hB
  obtain ⟨⟨⟨_, hlx⟩, hk⟩, hp⟩ := hB
  simp only [Bool.and_eq_true] at hn
  have hk' : yKinds t l.toArray.toList = true := by simpa using hk
  let Y := ySys c l.toArray t hk'
  let K : St × Ix → Prop := fun σ => Q .normal σ.2 σ.1
  have htx : txtG Y K l (s, (true, k)) := by
    obtain ⟨y, hy⟩ : ∃ y : Oper, y = ⟨some t, .call ⟨.value fx, #[x], at_⟩, ty, pos, aft, none⟩ := ⟨_, rfl⟩
    rw [← hy] at hl
    have hmem1 : ∀ o ∈ l.take n, o ∈ l.toArray.toList := fun o ho => by simpa using List.mem_of_mem_take ho
    have hmem2 : ∀ o ∈ l.drop (n + 1), o ∈ l.toArray.toList := fun o ho => by simpa using List.mem_of_mem_drop ho
    have h2 := txt_of_ev (c := c) (ops := l.toArray) (t := t) (hk := hk') (K := K) (rest := y :: l.drop (n + 1)) (i := (true, k)) (l.take n) s hn.1 hmem1 (by
      refine h _ (fun s1 d h1 h2 h3 h4 h5 => ?_)
      show yStp c l.toArray.toList t y (s1, (true, k)) fun s' => txtG Y K (l.drop (n + 1)) s'
      unfold yStp
      have hyy : isY t y = true := by rw [hy]; simp [isY]
      rw [hyy]
      refine ⟨fx, x, by rw [hy]; rfl, k, d, rfl, h1, h2, h3, by rw [hy]; exact h4, fun b => ?_⟩
      have h6 := txt_of_ev (c := c) (ops := l.toArray) (t := t) (hk := hk') (K := K) (rest := []) (i := (b, k + 1)) (l.drop (n + 1)) (s1.put y.dst (.bool b)) hn.2 hmem2 (by rw [hy]; exact h5 b)
      rw [List.append_nil] at h6
      exact h6)
    rw [← hl] at h2
    exact h2
  refine wpIn_region_any hm ?_
  refine anyG_sound (Y := Y) (K := K) (Rr := JR c) (fun σ a w hr hq => ?_) (fun i o ho σ a w K' N hr hN hst => y_sound hok hr hN hst) _ _ (s, (true, k)) _ _ (JR.drewTick hok ⟨T, S, M, hJ, hr⟩) ?_
  · obtain ⟨s', i'⟩ := σ
    obtain ⟨T', S', M', hJ', hr'⟩ := hr
    exact ⟨i', s', T', S', M', hJ', hr', hq⟩
  · have := anyG_lex (Y := Y) (K := K) (fun a b oa ob hab ha hb hno => yPairs_at l 0 hp a b oa ob hab (by simpa using ha) (by simpa using hb) (by simpa using hno)) l 0 (Array.replicate l.length false) (s, (true, k)) (by simp) (by simp) (by simpa using hlx) htx
    simpa using this
end Go.Ab
