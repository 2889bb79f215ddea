import Derived.Test.YthamljpomhjepaaAbD
set_option linter.unusedVariables false
set_option linter.unusedSimpArgs false
namespace Go.Ab
open Go.RowKit

def ofL : Nat → List D → (Nat → D)
  | _, [] => none'
  | k, d :: ds => put (ofL (k + 1) ds) k d
theorem ofL_at : ∀ (ds : List D) (k m : Nat), ofL k ds m = if m < k then .undef else (ds[m - k]?).getD .undef
  | [], k, m => by simp [ofL, none']
  | d :: ds, k, m => by
    simp only [ofL, put]
    by_cases h : m = k
    · subst h; simp
    · rw [if_neg h, ofL_at ds (k + 1) m]
      by_cases h2 : m < k
      · rw [if_pos (by omega), if_pos h2]
      · rw [if_neg (by omega), if_neg h2, show m - k = (m - (k + 1)) + 1 by omega]
        simp

def resK (P : Program) (s : St) : ResultVar → (D → Prop) → Prop
  | .tmp t, k => wOpt (pureD s.bx s.rw (s.sl t)) k
  | .cell t ty, k => wLoad P s.bx ty (s.sl t) fun d => wOpt (pureD s.bx s.rw d) k
def resL (P : Program) (s : St) : List ResultVar → (List D → Prop) → Prop
  | [], k => k []
  | r :: rs, k => resK P s r fun d => resL P s rs fun ds => k (d :: ds)
def resD : List D → D
  | [d] => d
  | ds => .tup ds
/-- The function has come to its end, and its results read so. -/
def retQ (P : Program) (rs : Array ResultVar) (d : D) : Exit → St → Prop
  | .normal, s => resL P s rs.toList fun ds => resD ds = d
  | .ret, s => resL P s rs.toList fun ds => resD ds = d
  | _, _ => False

def resOne (tmps : Array Value) : ResultVar → Sem Value
  | .tmp t => pure (tmps.getD t undef)
  | .cell ad t => do loadVar t (← asAddr (tmps.getD ad undef))
theorem results_eq (fn : Func) (tmps : Array Value) : results fn tmps = (do
    let vs ← fn.results.mapM (resOne tmps)
    pure (if h : vs.size = 1 then vs[0] else .tuple vs)) := rfl

section
variable {c : Ctx} {s : St} {a : Act} {w : World} {g : Gh}

theorem resK_sound (h : RG c s a w g) {r : ResultVar} {k : D → Prop} (hk : resK c.P s r k) :
    ∃ v d, (resOne a.tmps r).run c.P w = .ok v w ∧ Rel w g.er v d ∧ k d := by
  cases r with
  | tmp t =>
    obtain ⟨d, hd, hk⟩ := wOpt_some hk
    exact ⟨_, d, rfl, pureD_rel h (h.sl t) hd, hk⟩
  | cell t ty =>
    simp only [resK] at hk
    have hx := h.sl t
    cases hsl : s.sl t <;> rw [hsl] at hk hx <;> simp only [wLoad] at hk
    · rename_i i off
      obtain ⟨cs, hcs, hk⟩ := wBx_some hk
      obtain ⟨b, vs, tb, e1, e2, e3⟩ := h.mem.bx i cs hcs
      generalize hv : a.tmps.getD t undef = v at hx
      cases hx with
      | box _ _ _ b' hb' =>
        obtain rfl : b' = b := by rw [e1] at hb'; exact (Option.some.inj hb').symm
        obtain ⟨h1, h2⟩ := box_cells e2 e3 off
        obtain ⟨v, d, hrun, hr, hk⟩ := run_loadVar' (P := c.P) (t := ty) (ad := ⟨b', off, none⟩) h1 h2 hk
        obtain ⟨d', hd', hk⟩ := wOpt_some hk
        exact ⟨v, d', by simp only [resOne, hv]; simp [asAddr, hrun], pureD_rel h hr hd', hk⟩
    · rename_i cs
      obtain ⟨ad, u, hv, hm, hr⟩ := hx.ro_inv
      obtain ⟨v, d, hrun, hr, hk⟩ := run_loadVar' (P := c.P) (w := w) (g := g) (t := ty) (ad := ad) (cs := cs) (u := u) (fun q hq => ⟨(hm q hq).1, (hm q hq).2.2⟩) (fun q d hd => (hr q d hd).keep (keeps_er _ _)) hk
      obtain ⟨d', hd', hk⟩ := wOpt_some hk
      exact ⟨v, d', by simp only [resOne, hv]; simp [asAddr, hrun], pureD_rel h hr hd', hk⟩

theorem resL_sound (h : RG c s a w g) : ∀ {rs : List ResultVar} {k : List D → Prop}, resL c.P s rs k →
    ∃ vs ds, (rs.mapM (resOne a.tmps)).run c.P w = .ok vs w ∧
      vs.length = ds.length ∧ (∀ q d, ds[q]? = some d → Rel w g.er (vs.getD q undef) d) ∧ k ds
  | [], k, hk => ⟨[], [], by simp, rfl, by simp, hk⟩
  | r :: rs, k, hk => by
    obtain ⟨v, d, h1, h2, hk⟩ := resK_sound h hk
    obtain ⟨vs, ds, h3, h4, h5, hk⟩ := resL_sound h hk
    refine ⟨v :: vs, d :: ds, ?_, by simp [h4], fun q x hx => ?_, hk⟩
    · rw [List.mapM_cons]
      simp only [Sem.run_bind, h1, Result.andThen_ok, h3, Sem.run_pure]
    · cases q with
      | zero => simp at hx; subst hx; exact h2
      | succ q => exact h5 q x (by simpa using hx)

theorem marks_leave {fn : Func} {ds : List D} {R : Ending → World → Prop} : ∀ (l : List Deferred) (a : Act) (w : World), RG c s a w g → a.defers = l → (resL c.P s fn.results.toList fun ds' => ds' = ds) →
    (∀ v w', RG c s { a with defers := [] } w' g → Rel w' g.er v (resD ds) → R (.returned v) w') → LeavesInM Fence.wide 0 c.P fn a.tmps R l .returning w
  | [], a, w, h, hl, hq, hR => by
    obtain ⟨vs, ds', h1, h2, h3, rfl⟩ := resL_sound h hq
    refine ⟨(if h : vs.length = 1 then vs[0] else .tuple vs.toArray), ?_, hR _ _ (by rw [show ({ a with defers := [] } : Act) = a by rw [← hl]]; exact h) ?_⟩
    · rw [results_eq, Array.mapM_eq_mapM_toList]
      simp only [Sem.run_bind, Sem.run_map, h1]
      simp
    · match vs, ds', h2 with
      | [v], [d], _ => simpa [resD] using h3 0 d rfl
      | [], [], _ => exact .tup _ _ _ rfl (by simp)
      | v1 :: v2 :: vs, d1 :: d2 :: ds, h2 =>
        simp only [List.length_cons, resD]
        rw [dif_neg (by omega)]
        exact .tup _ _ _ (by simpa using h2) (fun q d hd => by simpa using h3 q d hd)
  | d :: l, a, w, h, hl, hq, hR => by
    obtain ⟨hnd, hall⟩ := h.df.dok
    rw [hl] at hnd hall
    obtain ⟨D, hB, rfl, hD⟩ := hall d (List.mem_cons_self ..)
    refine ⟨by simp, .inl ⟨D, _, rfl, run_takeDeferred hD, ?_⟩⟩
    have hg : RG c s { a with defers := l } (w.putObj D (.deferred none)) g := h.turn hD rfl (by simp) hB rfl ⟨(List.nodup_cons.1 hnd).2, fun d' hd' => by
      obtain ⟨D', hB', rfl, hD'⟩ := hall d' (List.mem_cons_of_mem _ hd')
      refine ⟨D', hB', rfl, ?_⟩
      rw [World.putObj_heap_other (fun e => by subst e; exact (List.nodup_cons.1 hnd).1 hd')]
      exact hD'⟩
    exact marks_leave l { a with defers := l } _ hg rfl hq hR

theorem resL_eq : ∀ {rs : List ResultVar} {k : List D → Prop}, resL c.P s rs k → ∃ ds, (resL c.P s rs fun ds' => ds' = ds) ∧ k ds := by
  have hk : ∀ {r : ResultVar} {k : D → Prop}, resK c.P s r k → ∃ d, (∀ k' : D → Prop, k' d → resK c.P s r k') ∧ k d := by
    intro r k h
    cases r with
    | tmp t =>
      obtain ⟨d, hd, h⟩ := wOpt_some h
      exact ⟨d, fun k' hk' => by simp only [resK, hd]; exact hk', h⟩
    | cell t ty =>
      have hw : ∀ {cs : List D} {k : D → Prop}, wTake c.P ty cs k → ∃ d, (∀ k' : D → Prop, k' d → wTake c.P ty cs k') ∧ k d := by
        intro cs k h
        unfold wTake at h ⊢
        obtain ⟨b, hb, h⟩ := wOpt_some h
        rw [hb]
        cases b with
        | true => exact ⟨_, fun k' hk' => ⟨h.1, h.2.1, hk'⟩, h.2.2⟩
        | false =>
          cases cs with
          | nil => exact h.elim
          | cons d cs => exact ⟨d, fun k' hk' => hk', h⟩
      have : ∃ d, (∀ k' : D → Prop, k' d → wLoad c.P s.bx ty (s.sl t) k') ∧ wOpt (pureD s.bx s.rw d) k := by
        simp only [resK] at h
        cases hsl : s.sl t <;> rw [hsl] at h <;> simp only [wLoad] at h
        · obtain ⟨cs, hcs, h⟩ := wBx_some h
          obtain ⟨d, h1, h2⟩ := hw h
          refine ⟨d, fun k' hk' => ?_, h2⟩
          simp only [wLoad, wBx]
          rcases hcs with e | e <;> rw [e] <;> exact h1 k' hk'
        · obtain ⟨d, h1, h2⟩ := hw h
          exact ⟨d, fun k' hk' => h1 k' hk', h2⟩
      obtain ⟨d, h1, h2⟩ := this
      obtain ⟨d', hd', h2⟩ := wOpt_some h2
      refine ⟨d', fun k' hk' => ?_, h2⟩
      simp only [resK]
      exact h1 _ (by rw [hd']; exact hk')
  intro rs
  induction rs with
  | nil => intro k h; exact ⟨[], rfl, h⟩
  | cons r rs ih =>
    intro k h
    obtain ⟨d, h1, h⟩ := hk (r := r) h
    obtain ⟨ds, h2, h⟩ := ih h
    refine ⟨d :: ds, h1 _ ?_, h⟩
    have mono : ∀ {rs : List ResultVar} {k k' : List D → Prop}, (∀ ds, k ds → k' ds) → resL c.P s rs k → resL c.P s rs k' := by
      intro rs
      induction rs with
      | nil => intro k k' hh h; exact hh _ h
      | cons r rs ih2 =>
        intro k k' hh h
        obtain ⟨d, h1, h⟩ := hk (r := r) h
        exact h1 _ (ih2 (fun ds h => hh _ h) h)
    exact mono (fun ds' e => by rw [e]) h2

theorem retQ_sound {fn : Func} {d : D} {e : Exit} (h : RG c s a w g) (hq : retQ c.P fn.results d e s) {Rr : Ending → World → Prop} (hR : ∀ v w', RG c s { a with defers := [] } w' g → Rel w' g.er v d → Rr (.returned v) w') :
    bodyPostM Fence.wide 0 c.P fn Rr e a w := by
  have key : (resL c.P s fn.results.toList fun ds => resD ds = d) → LeavesInM Fence.wide 0 c.P fn a.tmps Rr a.defers .returning w := fun hq => by
    obtain ⟨ds, h1, rfl⟩ := resL_eq hq
    exact marks_leave a.defers a w h rfl h1 hR
  cases e <;> first | exact key hq | exact hq.elim

end

theorem callsTo_of_abs {P : Program} {f : FuncId} {fn : Func} {code : Code} {ds : List D} {d : D} (hf : P.funcs[f]? = some fn) (hb : fn.body = some code)
    (hc : ∀ (args : Array Value) (w : World), (callFunc f args).run P w = .ok (.enter f args) w) (hn : ds.length ≤ fn.ntmps)
    (h : ∀ c : Ctx, c.P = P → c.l = none → (c.own = fun b => c.w0.heap.size ≤ b) → c.β0 = [] → Abs c code (retQ P fn.results d) ⟨fn.ntmps, ofL 0 ds, [], []⟩) : CallsTo P f ds d := by
  refine ⟨hc, fun S M w args hS hM hl hrel => ?_⟩
  refine (callsIn_wide (n := 0)).1 (callsIn_of_wp_marks hf hb trivial ?_)
  have hw := h ⟨P, w, S, M, none, fun b => w.heap.size ≤ b, []⟩ rfl rfl rfl rfl { tmps := args.toArray ++ Array.replicate (fn.ntmps - args.toArray.size) undef, defers := [] } w
    ⟨⟨S, [], [], M⟩, ⟨⟨List.nodup_nil, fun d hd => by cases hd⟩, hM, fun _ _ h => h, fun _ _ h => .inl h, fun i b h => by simp at h, fun _ _ => rfl⟩, by simp; omega, .of (Below.refl _ _), fun _ h => h, hS, fun _ h => .inl h, fun _ h => h, hS, rfl, rfl, ?_, ?_, ?_, ?_, ?_⟩
  · refine wpIn_mono (F := Fence.wide) hw ?_
    rintro e a' w' ⟨s', ⟨g, hg⟩, hq⟩
    exact retQ_sound (c := ⟨P, w, S, M, none, fun b => w.heap.size ≤ b, []⟩) hg hq (fun v w' hg hv => ⟨v, g.S, g.M, rfl, ⟨⟨hg.below.os, hg.below.tape, hg.below.output, hg.below.size, fun k hk hn => hg.below.block k hk (fun h => h.elim (fun h => absurd (show w.heap.size ≤ k from h) (Nat.not_le_of_lt hk)) hn)⟩, hg.S0, hg.from0, hg.df.m0, hg.df.mfrom, hg.df.mok⟩, hg.good, hv⟩)
  · intro m
    simp only
    rw [ofL_at]
    simp only [Nat.not_lt_zero, if_false, Nat.sub_zero]
    cases hd : ds[m]? with
    | none => exact .undef _ _
    | some x =>
      have hm := (List.getElem?_eq_some_iff.1 hd).1
      have := hrel m x hd
      have e : (args.toArray ++ Array.replicate (fn.ntmps - args.toArray.size) undef).getD m undef = args.getD m undef := by
        have : m < args.length := by omega
        simp [Array.getElem?_append, this]
      rw [e]; exact this
  · intro i cs hi; simp at hi
  · intro i cs hi; simp at hi
  · intro i cs hi; simp at hi
  · exact ⟨fun _ => .inl 0, fun i x b hi => by simp at hi, fun r row v gb hr => by simp at hr⟩

section
variable {c : Ctx} {s : St} {Q : Exit → St → Prop} {code : Code}

/-- A box that is written no more: its cells may be handed on. -/
theorem abs_freeze (i : Nat) (cs cs' : List D) (hi : s.bx[i]? = some (.mu cs)) (hp : pureL s.bx s.rw cs = some cs')
    (h : Abs c code Q { s with bx := s.bx.set i (.fz cs') }) : Abs c code Q s := by
  rintro a w ⟨g, hg⟩
  refine h a w ?_
  obtain ⟨b, vs, t, e1, e2, e3, e4, e5, _⟩ := (hg.bx i cs hi).ex
  have e3 : CellsR w g vs cs := e3
  obtain ⟨p1, p2⟩ := pureL_get hp
  let S' : Addr → Prop := fun x => g.S x ∨ ∃ q, q < cs.length ∧ x = ⟨b, q, none⟩
  have hil : i < s.bx.length := (List.getElem?_eq_some_iff.1 hi).1
  have k : Keeps w g w ⟨S', g.β, g.ρ, g.M⟩ := ⟨fun _ _ => rfl, fun _ h => .inl h, fun _ _ h => h, fun _ _ h => h, fun _ _ h => h⟩
  obtain ⟨κ, k1, k2⟩ := hg.ap
  have hold : ∀ (j : Nat) (x : Bx), (s.bx.set i (.fz cs'))[j]? = some x → (j = i ∧ x = .fz cs') ∨ (j ≠ i ∧ s.bx[j]? = some x) := fun j x hj => by
    by_cases hji : j = i
    · subst hji
      rw [List.getElem?_set_self hil] at hj
      exact .inl ⟨rfl, (Option.some.inj hj).symm⟩
    · rw [List.getElem?_set_ne (Ne.symm hji)] at hj
      exact .inr ⟨hji, hj⟩
  have hbsz : b < w.heap.size := (Array.getElem?_eq_some_iff.1 e2).1
  refine ⟨⟨S', g.β, g.ρ, g.M⟩, hg.df.gh rfl, hg.sz, hg.below, hg.own0, fun x hx => ?_, fun x hx => ?_, fun x hx => .inl (hg.S0 x hx), hg.good0, by simp [hg.lβ], hg.lρ, fun n => (hg.sl n).keep k, ?_, ?_, ?_, ?_⟩
  · rcases hx with hx | ⟨q, hq, rfl⟩
    · exact hg.good x hx
    · rw [cell_of_row w b q vs t (0, 0) e2]
      have : q < vs.size := by rw [e3.1]; exact hq
      exact ⟨vs[q], by simp [this]⟩
  · rcases hx with hx | ⟨q, _, rfl⟩
    · exact hg.from0 x hx
    · exact .inr e4
  · intro j ds hj
    rcases hold j _ hj with ⟨_, e⟩ | ⟨hji, hj⟩
    · cases e
    · obtain ⟨b', vs', t', f1, f2, f3, f4, f5, f6⟩ := (hg.bx j ds hj).ex
      refine ⟨b', vs', t', f1, f2, f3.keep k, f4, fun _ x hx => ?_, fun h => by cases h⟩
      rcases hx with hx | ⟨q, _, rfl⟩
      · exact f5 rfl x hx
      · intro e
        simp at e; subst e
        have q1 := k1 i _ b hi rfl e1
        have q2 := k1 j _ b hj rfl f1
        rw [q1] at q2; injection q2 with q2; exact hji q2.symm
  · intro j ds hj
    rcases hold j _ hj with ⟨rfl, e⟩ | ⟨hji, hj⟩
    · cases e
      refine ⟨b, vs, t, e1, e2, ⟨by rw [e3.1, p1], fun q d hd => ?_⟩, e4, (fun h => by cases h), fun _ q hq => .inr ⟨q, by rw [← p1]; exact hq, rfl⟩⟩
      obtain ⟨d0, hd0, hpd⟩ := p2 q d hd
      exact ⟨(pureA_rel hg (e3.2 q d0 hd0).1 hpd).keep k.er, (e3.2 q d0 hd0).2⟩
    · obtain ⟨b', vs', t', f1, f2, f3, f4, f5, f6⟩ := (hg.fz j ds hj).ex
      exact ⟨b', vs', t', f1, f2, f3.keep k.er, f4, (fun h => by cases h), fun _ q hq => .inl (f6 rfl q hq)⟩
  · intro r row hr
    obtain ⟨v, f1, f2, f3⟩ := (hg.rw r row hr).ex
    refine ⟨v, f1, f2.keep k, fun hl => ?_⟩
    obtain ⟨ho, hcl, hS⟩ := f3 hl
    refine ⟨ho, hcl, fun gb hgb => ⟨(hS gb hgb).1, fun x hx hxb => ?_⟩⟩
    rcases hx with hx | ⟨q, _, rfl⟩
    · exact (hS gb hgb).2 x hx hxb
    · simp at hxb; subst hxb
      have q1 := k1 i _ b hi rfl e1
      have q2 := k2 r row v b hr hl f1 hgb
      rw [q1] at q2; cases q2
  · refine ⟨κ, fun j x b' hj hx hb' => ?_, k2⟩
    rcases hold j _ hj with ⟨rfl, e⟩ | ⟨hji, hj⟩
    · exact k1 j _ b' hi rfl hb'
    · exact k1 j x b' hj hx hb'

/-- A nil slice in a slot is taken for a row of the call's own. -/
theorem abs_adopt (n : Nat) (e : TypeId) (sz : Nat) (hn : s.sl n = .val (.slice none 0 0))
    (h : Abs c code Q { s with sl := put s.sl n (.own s.rw.length), rw := s.rw ++ [⟨true, e, sz, []⟩] }) : Abs c code Q s := by
  rintro a w ⟨g, hg⟩
  refine h a w ⟨⟨g.S, g.β, g.ρ ++ [.slice none 0 0], g.M⟩, ?_⟩
  have hp := hg.pushNil e sz
  refine ⟨hp.df, hp.sz, hp.below, hp.own0, hp.good, hp.from0, hp.S0, hp.good0, hp.lβ, hp.lρ, fun m => ?_, hp.bx, hp.fz, hp.rw, ?_⟩
  · simp only [put]
    by_cases hm : m = n
    · subst hm
      rw [if_pos rfl]
      have := hg.sl m
      rw [hn] at this
      generalize hv : a.tmps.getD m undef = v at this
      cases this
      exact .own _ _ _ (by rw [← hg.lρ]; simp)
    · rw [if_neg hm]; exact hp.sl m
  · exact hp.ap

end
end Go.Ab
