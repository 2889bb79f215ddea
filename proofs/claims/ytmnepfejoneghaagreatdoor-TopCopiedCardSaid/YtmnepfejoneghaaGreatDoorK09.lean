import Derived.Test.YtmnepfejoneghaaGreatDoorK07
set_option linter.unusedVariables false
set_option linter.unusedSimpArgs false
namespace Go.Ab
open Go.RowKit
/-!
  Regions that draw their order and make two boxes: both orders, the boxes' names swapped back behind the second.
-/
def swN (m i : Nat) : Nat := if i = m then m + 1 else if i = m + 1 then m else i
mutual
def swD (m : Nat) : D → D
  | .box i off => .box (swN m i) off
  | .bsl i off n c => .bsl (swN m i) off n c
  | .agg cs => .agg (swL m cs)
  | .tup cs => .tup (swL m cs)
  | .clo f cs => .clo f (swL m cs)
  | .mth f cs => .mth f (swL m cs)
  | .undef => .undef
  | .int k n => .int k n
  | .bool b => .bool b
  | .str s => .str s
  | .list xs => .list xs
  | .ro cs => .ro cs
  | .own r => .own r
  | .val v => .val v
  | .memo f => .memo f
  | .skp => .skp
def swL (m : Nat) : List D → List D
  | [] => []
  | d :: ds => swD m d :: swL m ds
end
theorem swL_map (m : Nat) : ∀ cs : List D, swL m cs = cs.map (swD m)
  | [] => by simp [swL]
  | d :: ds => by simp [swL, swL_map m ds]
theorem swN_swN (m i : Nat) : swN m (swN m i) = i := by unfold swN; split <;> (try split) <;> (try split) <;> omega
/-- The m-th and the next one change places. -/
def swp {α : Type} (m : Nat) (l : List α) : List α := match l[m]?, l[m + 1]? with
  | some x, some y => (l.set m y).set (m + 1) x
  | _, _ => l
theorem swp_len {α : Type} (m : Nat) (l : List α) : (swp m l).length = l.length := by unfold swp; split <;> simp
theorem swp_at {α : Type} {m : Nat} {l : List α} (h : m + 1 < l.length) (i : Nat) : (swp m l)[i]? = l[swN m i]? := by
  unfold swp
  rw [List.getElem?_eq_getElem (show m < l.length by omega), List.getElem?_eq_getElem h]
  simp only [swN]
  by_cases h1 : i = m
  · subst h1
    rw [if_pos rfl, List.getElem?_set_ne (by omega), List.getElem?_set_self (by omega), List.getElem?_eq_getElem h]
  · rw [if_neg h1]
    by_cases h2 : i = m + 1
    · subst h2
      rw [if_pos rfl, List.getElem?_set_self (by simpa using h), List.getElem?_eq_getElem (show m < l.length by omega)]
    · rw [if_neg h2, List.getElem?_set_ne (by omega), List.getElem?_set_ne (by omega)]
def swB (m : Nat) : Bx → Bx
  | .mu cs => .mu (swL m cs)
  | .fz cs => .fz cs
  | .dead => .dead
def swS (m : Nat) (sl : Nat → D) : Nat → D := fun t => swD m (sl t)
def St.sw (m : Nat) (s : St) : St := ⟨s.n, swS m s.sl, swp m (s.bx.map (swB m)), s.rw⟩
def Gh.sw (m : Nat) (g : Gh) : Gh := ⟨g.S, swp m g.β, g.ρ, g.M⟩
theorem Gh.sw_at {m : Nat} {g : Gh} (h : m + 1 < g.β.length) {i b : Nat} (hb : g.β[i]? = some b) : (g.sw m).β[swN m i]? = some b := by
  show (swp m g.β)[swN m i]? = some b
  rw [swp_at h, swN_swN]; exact hb
theorem Rel.sw {w : World} {g : Gh} {v : Value} {d : D} {m : Nat} (h : Rel w g v d) : m + 1 < g.β.length → Rel w (g.sw m) v (swD m d) := by
  have key : ∀ {cs : List D} {q : Nat} {d : D} {T : D → Prop}, (swL m cs)[q]? = some d → (∀ d0, cs[q]? = some d0 → T (swD m d0)) → T d := fun {cs q d T} hd hT => by
    rw [swL_map, List.getElem?_map, Option.map_eq_some_iff] at hd
    obtain ⟨d0, h0, rfl⟩ := hd
    exact hT d0 h0
  have len : ∀ {cs : List D}, (swL m cs).length = cs.length := fun {cs} => by rw [swL_map]; simp
  induction h with
  | undef g v => intro _; simp only [swD]; exact .undef _ _
  | int g k n => intro _; simp only [swD]; exact .int _ _ _
  | bool g b => intro _; simp only [swD]; exact .bool _ _
  | str g s => intro _; simp only [swD]; exact .str _ _
  | val g v => intro _; simp only [swD]; exact .val _ _
  | list g A n c xs sz u hn hsz hcap hm hr ih => intro _; simp only [swD]; exact .list _ A n c xs sz u hn hsz hcap hm hr
  | agg g vs cs hl h1 hr ih => intro hm; simp only [swD]; exact .agg _ vs _ (hl.trans len.symm) (fun q hq => h1 q (by rw [len] at hq; exact hq)) (fun q d hd => key (T := fun d => Rel w _ (vs.getD q Go.undef) d) hd fun d0 h0 => ih q d0 h0 hm)
  | tup g vs cs hl hr ih => intro hm; simp only [swD]; exact .tup _ vs _ (hl.trans len.symm) (fun q d hd => key (T := fun d => Rel w _ (vs.getD q Go.undef) d) hd fun d0 h0 => ih q d0 h0 hm)
  | box g i off b hb => intro hm; simp only [swD]; exact .box _ _ off b (Gh.sw_at hm hb)
  | ro g a cs u hm hr ih => intro _; simp only [swD]; exact .ro _ a cs u hm hr
  | own g r v h => intro _; simp only [swD]; exact .own _ r v h
  | clo g f vs cs hl hr ih => intro hm; simp only [swD]; exact .clo _ f vs _ (hl.trans len.symm) (fun q d hd => key (T := fun d => Rel w _ (vs.getD q Go.undef) d) hd fun d0 h0 => ih q d0 h0 hm)
  | memo g b f h => intro _; simp only [swD]; exact .memo _ b f h
  | skp g => intro _; simp only [swD]; exact .skp _
  | mth g f vs cs hl hr ih => intro hm; simp only [swD]; exact .mth _ f vs _ (hl.trans len.symm) (fun q d hd => key (T := fun d => Rel w _ (vs.getD q Go.undef) d) hd fun d0 h0 => ih q d0 h0 hm)
  | bsl g i off n c b hb => intro hm; simp only [swD]; exact .bsl _ _ off n c b (Gh.sw_at hm hb)
theorem sw_bx {m : Nat} {s : St} (h : m + 1 < s.bx.length) {i : Nat} {x : Bx} (hx : (s.sw m).bx[i]? = some x) : ∃ x0, s.bx[swN m i]? = some x0 ∧ x = swB m x0 := by
  have : (swp m (s.bx.map (swB m)))[i]? = some x := hx
  rw [swp_at (by simpa using h), List.getElem?_map, Option.map_eq_some_iff] at this
  obtain ⟨x0, h0, rfl⟩ := this
  exact ⟨x0, h0, rfl⟩
theorem RG.sw {c : Ctx} {s : St} {a : Act} {w : World} {g : Gh} (h : RG c s a w g) {m : Nat} (hm : m + 1 < s.bx.length) (h0 : c.β0.length ≤ m) : RG c (s.sw m) a w (g.sw m) := by
  have hmβ : m + 1 < g.β.length := by rw [h.lβ]; exact hm
  have βat : ∀ {i b : Nat}, g.β[swN m i]? = some b → (g.sw m).β[i]? = some b := fun {i b} hb => by
    show (swp m g.β)[i]? = some b
    rw [swp_at hmβ]; exact hb
  have βof : ∀ {i b : Nat}, (g.sw m).β[i]? = some b → g.β[swN m i]? = some b := fun {i b} hb => by
    have : (swp m g.β)[i]? = some b := hb
    rw [swp_at hmβ] at this; exact this
  refine ⟨h.df.gh rfl (fun i b hc hb => ?_), h.sz, h.below, h.own0, h.good, h.from0, h.S0, h.good0, ?_, h.lρ, fun n => (h.sl n).sw hmβ, ?_, ?_, ?_, ?_⟩
  · have hi := (List.getElem?_eq_some_iff.1 hc).1
    refine βat ?_
    have : swN m i = i := by unfold swN; rw [if_neg (by omega), if_neg (by omega)]
    rw [this]; exact hb
  · show (swp m g.β).length = (swp m (s.bx.map (swB m))).length
    rw [swp_len, swp_len, h.lβ]; simp
  · intro i cs hi
    obtain ⟨x0, hx0, e⟩ := sw_bx hm hi
    cases x0 <;> simp only [swB, reduceCtorEq, Bx.mu.injEq] at e
    subst e
    obtain ⟨b, vs, t, e1, e2, e3, e4, e5, e6⟩ := (h.bx _ _ hx0).ex
    refine ⟨b, vs, t, βat e1, e2, ⟨?_, fun q d hd => ?_⟩, e4, e5, fun e => by cases e⟩
    · rw [e3.1, swL_map]; simp
    · rw [swL_map, List.getElem?_map, Option.map_eq_some_iff] at hd
      obtain ⟨d0, h0, rfl⟩ := hd
      exact ⟨(e3.2 q d0 h0).1.sw hmβ, (e3.2 q d0 h0).2⟩
  · intro i cs hi
    obtain ⟨x0, hx0, e⟩ := sw_bx hm hi
    cases x0 <;> simp only [swB, reduceCtorEq, Bx.fz.injEq] at e
    subst e
    obtain ⟨b, vs, t, e1, e2, e3, e4, e5, e6⟩ := (h.fz _ _ hx0).ex
    exact ⟨b, vs, t, βat e1, e2, e3, e4, e5, e6⟩
  · intro r row hi
    obtain ⟨v, e1, e2, e3⟩ := (h.rw r row hi).ex
    have := e2.sw hmβ
    simp only [swD] at this
    exact ⟨v, e1, this, e3⟩
  · obtain ⟨κ, k1, k2⟩ := h.ap
    refine ⟨fun b => (match κ b with | .inl i => .inl (swN m i) | .inr r => .inr r), fun i x b hi hx hb => ?_, fun r row v gb hi hl hv ho => ?_⟩
    · obtain ⟨x0, hx0, e⟩ := sw_bx hm hi
      have hl : x0.live = true := by subst e; cases x0 <;> first | exact hx | rfl
      have := k1 _ _ _ hx0 hl (βof hb)
      simp only [this, swN_swN]
    · have := k2 r row v gb hi hl hv ho
      simp only [this]
/-- A state that says no more than another one, of the same boxes and rows. -/
def SlLe (f g : Nat → D) : Prop := ∀ m, g m = .undef ∨ f m = g m
def SLe (s s' : St) : Prop := s.n = s'.n ∧ SlLe s.sl s'.sl ∧ s.bx = s'.bx ∧ s.rw = s'.rw
theorem slle_none {f : Nat → D} : SlLe f none' := fun _ => .inl rfl
theorem slle_put {f g : Nat → D} {n : Nat} {v : D} (h : f n = v) (hg : SlLe f g) : SlLe f (Ab.put g n v) := fun m => by
  simp only [Ab.put]
  by_cases hm : m = n
  · rw [if_pos hm, hm]; exact .inr h
  · rw [if_neg hm]; exact hg m
theorem slle_refl {f : Nat → D} : SlLe f f := fun _ => .inr rfl
theorem sle_of {n n' : Nat} {sl sl' : Nat → D} {bx bx' : List Bx} {rw rw' : List Row} (h1 : n = n') (h2 : SlLe sl sl') (h3 : bx = bx') (h4 : rw = rw') : SLe ⟨n, sl, bx, rw⟩ ⟨n', sl', bx', rw'⟩ := ⟨h1, h2, h3, h4⟩
theorem R.sle {c : Ctx} {s s' : St} {a : Act} {w : World} (h : R c s a w) (hl : SLe s s') : R c s' a w := by
  obtain ⟨g, h⟩ := h
  obtain ⟨n, sl, bx, rw⟩ := s
  obtain ⟨n', sl', bx', rw'⟩ := s'
  obtain ⟨h1, h2, h3, h4⟩ := hl
  simp only at h1 h2 h3 h4
  subst h1; subst h3; subst h4
  refine ⟨g, ⟨h.df, h.sz, h.below, h.own0, h.good, h.from0, h.S0, h.good0, h.lβ, h.lρ, fun m => ?_, h.bx, h.fz, h.rw, h.ap⟩⟩
  rcases h2 m with e | e
  · show Rel w g _ (sl' m)
    rw [e]; exact .undef _ _
  · have := h.sl m
    simp only at this e ⊢
    rw [e] at this; exact this
section
variable {P : Program}
/-- The operations with these numbers. -/
def pick (l : List Oper) : List Nat → List Oper
  | [] => []
  | i :: is => match l[i]? with
    | some o => o :: pick l is
    | none => pick l is
@[go_sem] theorem e_pick_nil {l : List Oper} : pick l [] = [] := rfl
@[go_sem] theorem e_pick {l : List Oper} {i : Nat} {is : List Nat} : pick l (i :: is) = match l[i]? with | some o => o :: pick l is | none => pick l is := rfl
/-- One after the other. -/
def evG (P : Program) (ops : List Oper) : List Oper → St → (St → Prop) → Prop
  | [], s, K => K s
  | o :: l, s, K => gst P ops o s fun s' => evG P ops l s' K
def kindsL (l : List Oper) : Prop := ∀ o ∈ l, kindOf o.op ≠ .X ∧ (kindOf o.op = .L ∨ kindOf o.op = .W → o.guard = none)
theorem evG_mono {ops : List Oper} : ∀ {l : List Oper} {s : St} {K K' : St → Prop}, kindsL l → (∀ s, K s → K' s) → evG P ops l s K → evG P ops l s K'
  | [], s, K, K', _, h, hk => h s hk
  | o :: l, s, K, K', hl, h, hk => gst_mono (hl o (List.mem_cons_self ..)).1 (hl o (List.mem_cons_self ..)).2 (fun s' => evG_mono (fun x hx => hl x (List.mem_cons_of_mem _ hx)) h) hk
theorem evOps_evG {ops : List Oper} : ∀ {l : List Oper} {s : St} {K : St → Prop}, kindsL l → evOps P ops l s K → evG P ops l s K
  | [], s, K, _, h => h
  | o :: l, s, K, hl, h => gst_mono (hl o (List.mem_cons_self ..)).1 (hl o (List.mem_cons_self ..)).2 (fun s' => evOps_evG fun x hx => hl x (List.mem_cons_of_mem _ hx)) (evOps_gst h)
theorem gst_ex {ops : List Oper} {o : Oper} {s : St} {K : St → Prop} (hx : kindOf o.op ≠ .X) (hg : kindOf o.op = .L ∨ kindOf o.op = .W → o.guard = none) (h : gst P ops o s K) :
    ∃ s', K s' ∧ gst P ops o s fun x => x = s' := by
  obtain ⟨hd, h⟩ := (gst_ef hx hg).1 h
  obtain ⟨r, h1, h2⟩ := (cp_ef _ _ _ _ _).ex h
  exact ⟨_, h2, (gst_ef hx hg).2 ⟨hd, (cp_ef _ _ _ _ _).mono (fun r' hr => by rw [hr]) h1⟩⟩
theorem evG_ex {ops : List Oper} : ∀ {l : List Oper} {s : St} {K : St → Prop}, kindsL l → evG P ops l s K → ∃ s', K s' ∧ evG P ops l s fun x => x = s'
  | [], s, K, _, h => ⟨s, h, rfl⟩
  | o :: l, s, K, hl, h => by
    have ho := hl o (List.mem_cons_self ..)
    obtain ⟨s1, h1, h2⟩ := gst_ex ho.1 ho.2 h
    obtain ⟨s', h3, h4⟩ := evG_ex (fun x hx => hl x (List.mem_cons_of_mem _ hx)) h1
    exact ⟨s', h3, gst_mono ho.1 ho.2 (fun x hx => by rw [hx]; exact h4) h2⟩
/-- This one goes first of those that are left. -/
def stepB (ps : List (Tmp × Tmp)) (ops : Array Oper) (listed : Array Bool) (i : Nat) : Bool := (Region.ready .any ops listed).contains i && match ops[i]? with
  | some oi => (List.range ops.size).all fun j => j == i || listed.getD j true || match ops[j]? with
    | some oj => oj.after.any (fun e => Region.binds .any e && e.on == i) || (oi.apart ops oj && dynOk ps oi oj)
    | none => true
  | none => false
def seqB (ps : List (Tmp × Tmp)) (ops : Array Oper) : Array Bool → List Nat → Bool
  | listed, [] => (Region.ready .any ops listed).isEmpty
  | listed, i :: is => stepB ps ops listed i && seqB ps ops (listed.setIfInBounds i true) is
theorem stepB_at {ps : List (Tmp × Tmp)} {ops : Array Oper} {listed : Array Bool} {i : Nat} (h : stepB ps ops listed i = true) : i ∈ Region.ready .any ops listed ∧ ∃ oi, ops[i]? = some oi ∧
    ∀ (j : Nat) (oj : Oper), ops[j]? = some oj → j ≠ i → listed.getD j true = false → (∀ e ∈ oj.after, Region.binds .any e = true → e.on ≠ i) → oi.apart ops oj = true ∧ dynOk ps oi oj = true := by
  simp only [stepB, Bool.and_eq_true, List.contains_iff_mem] at h
  refine ⟨h.1, ?_⟩
  have h2 := h.2
  cases ho : ops[i]? with
  | none => rw [ho] at h2; cases h2
  | some oi =>
    rw [ho] at h2
    refine ⟨oi, rfl, fun j oj hj hji hl hno => ?_⟩
    have := List.all_eq_true.1 h2 j (List.mem_range.2 (Array.getElem?_eq_some_iff.1 hj).1)
    simp only [hj, Bool.or_eq_true, beq_iff_eq, hji, hl, Bool.false_eq_true, false_or, Array.any_eq_true', Bool.and_eq_true] at this
    rcases this with ⟨e, he, h1, h2⟩ | h
    · exact absurd h2 (hno e he h1)
    · exact h
theorem pick_at {ops : Array Oper} {i : Nat} {o : Oper} {is : List Nat} (h : ops[i]? = some o) : pick ops.toList (i :: is) = o :: pick ops.toList is := by
  simp only [pick, Array.getElem?_toList, h]
theorem kindsL_pick {ops : Array Oper} (hk : kindsOk ops.toList = true) : ∀ is : List Nat, kindsL (pick ops.toList is)
  | [] => fun o ho => by cases ho
  | i :: is => fun o ho => by
    simp only [pick] at ho
    split at ho
    · rename_i o' h'
      rcases List.mem_cons.1 ho with e | ho
      · subst e; exact kinds_of hk (by simpa using h')
      · exact kindsL_pick hk is o ho
    · exact kindsL_pick hk is o ho
theorem anyA_seq {ps : List (Tmp × Tmp)} {ops : Array Oper} {K : St → Prop} (hk : kindsOk ops.toList = true) (hw : wrOk ops = true) (hC : ∀ s, K s → ∀ x y, (x, y) ∈ ps → disj (s.sl x) (s.sl y)) :
    ∀ (is : List Nat) (listed : Array Bool) (s : St), seqB ps ops listed is = true → evG P ops.toList (pick ops.toList is) s K → anyA P ops K is.length listed s
  | [], listed, s, hB, h => ⟨by simpa [seqB, List.isEmpty_iff] using hB, h⟩
  | i :: is, listed, s, hB, h => by
    simp only [seqB, Bool.and_eq_true] at hB
    obtain ⟨hr, oi, hoi, hf⟩ := stepB_at hB.1
    rw [pick_at hoi] at h
    have hm := kinds_of hk hoi
    exact anyA_firstD hk hw hC hoi is.length listed s hf hr (gst_mono hm.1 hm.2 (fun s' hs' => anyA_seq hk hw hC is _ s' hB.2 hs') h)
def twoB (ps : List (Tmp × Tmp)) (ops : Array Oper) (a b : Nat) (post : List Nat) : Array Bool → List Nat → Bool
  | listed, [] => (Region.ready .any ops listed).all (fun i => i == a || i == b) && (Region.ready .any ops listed).contains a && (ops[a]?).isSome && (ops[b]?).isSome &&
      seqB ps ops (listed.setIfInBounds a true) (b :: post) && seqB ps ops (listed.setIfInBounds b true) (a :: post)
  | listed, i :: is => stepB ps ops listed i && twoB ps ops a b post (listed.setIfInBounds i true) is
theorem anyA_two {ps : List (Tmp × Tmp)} {ops : Array Oper} {K : St → Prop} (hk : kindsOk ops.toList = true) (hw : wrOk ops = true) (hC : ∀ s, K s → ∀ x y, (x, y) ∈ ps → disj (s.sl x) (s.sl y)) {a b : Nat} {post : List Nat} :
    ∀ (is : List Nat) (listed : Array Bool) (s : St), twoB ps ops a b post listed is = true →
      evG P ops.toList (pick ops.toList is) s (fun s1 => evG P ops.toList (pick ops.toList (a :: b :: post)) s1 K ∧ evG P ops.toList (pick ops.toList (b :: a :: post)) s1 K) → anyA P ops K (is.length + (post.length + 2)) listed s
  | [], listed, s, hB, h => by
    simp only [twoB, Bool.and_eq_true, List.all_eq_true, Bool.or_eq_true, beq_iff_eq, List.contains_iff_mem] at hB
    obtain ⟨⟨⟨⟨⟨h1, h2⟩, h3⟩, h4⟩, h5⟩, h6⟩ := hB
    obtain ⟨oa, ha⟩ := Option.isSome_iff_exists.1 h3
    obtain ⟨ob, hb⟩ := Option.isSome_iff_exists.1 h4
    obtain ⟨g1, g2⟩ := h
    simp only [List.length_nil, Nat.zero_add]
    refine ⟨fun e => (by rw [e] at h2; cases h2), fun i hi o ho => ?_⟩
    rcases h1 i hi with e | e
    · subst e
      have hm := kinds_of hk ho
      rw [pick_at ho] at g1
      exact gst_mono hm.1 hm.2 (fun s' hs' => anyA_seq hk hw hC (b :: post) _ s' h5 hs') g1
    · subst e
      have hm := kinds_of hk ho
      rw [pick_at ho] at g2
      exact gst_mono hm.1 hm.2 (fun s' hs' => anyA_seq hk hw hC (a :: post) _ s' h6 hs') g2
  | i :: is, listed, s, hB, h => by
    simp only [twoB, Bool.and_eq_true] at hB
    obtain ⟨hr, oi, hoi, hf⟩ := stepB_at hB.1
    rw [pick_at hoi] at h
    have hm := kinds_of hk hoi
    have e : (i :: is).length + (post.length + 2) = (is.length + (post.length + 2)) + 1 := by simp; omega
    rw [e]
    exact anyA_firstD hk hw hC hoi _ listed s hf hr (gst_mono hm.1 hm.2 (fun s' hs' => anyA_two hk hw hC is _ s' hB.2 hs') h)
/-- What is asked at the end of the second order. -/
def Same2 (m : Nat) (ps : List (Tmp × Tmp)) (s2 s1 : St) : Prop := Sep s2 ps ∧ m + 1 < s2.bx.length ∧ SLe (s2.sw m) s1
/-- A region that draws its order and makes two boxes (a and b): what comes before them, and what waits for one of them. -/
theorem abs_drawP {c : Ctx} {id : Nat} {l : List Oper} {Q : Exit → St → Prop} {s : St} (ps : List (Tmp × Tmp)) (pre : List Nat) (a b : Nat) (post : List Nat) (hm : c.P.follows .mixedOrders = true)
    (hB : (decide (pre.length + (post.length + 2) = l.length) && kindsOk l && wrOk l.toArray && twoB ps l.toArray a b post (Array.replicate l.length false) pre) = true)
    (h : ∀ K : St → Prop, (∀ s', Q .normal s' ∧ Sep s' ps → K s') → evOps c.P l (pick l pre) s fun s1 => evOps c.P l (pick l (a :: b :: post)) s1 fun s' => K s' ∧ evOps c.P l (pick l (b :: a :: post)) s1 fun s'' => Same2 s.bx.length ps s'' s') :
    Abs c (.region id l.toArray true) Q s := by
  intro act w hr
  simp only [Bool.and_eq_true, decide_eq_true_eq] at hB
  obtain ⟨⟨⟨hlen, hk⟩, hw⟩, ht⟩ := hB
  have h0 : c.β0.length ≤ s.bx.length := by
    obtain ⟨g, hg⟩ := hr
    rw [← hg.lβ]
    rcases Nat.lt_or_ge g.β.length c.β0.length with hlt | hge
    · have := hg.df.anc g.β.length _ (List.getElem?_eq_getElem hlt)
      rw [List.getElem?_eq_none (Nat.le_refl _)] at this; cases this
    · exact hge
  let K : St → Prop := fun s' => (∃ sf, Q .normal sf ∧ (SLe s' sf ∨ (s.bx.length + 1 < s'.bx.length ∧ SLe (s'.sw s.bx.length) sf))) ∧ Sep s' ps
  have hk' : kindsOk l.toArray.toList = true := by simpa using hk
  have k1 := kindsL_pick hk' pre
  have k2 := kindsL_pick hk' (a :: b :: post)
  have k3 := kindsL_pick hk' (b :: a :: post)
  have h1 := h (fun s' => Q .normal s' ∧ Sep s' ps) (fun _ h => h)
  have h2 : evG c.P l.toArray.toList (pick l.toArray.toList pre) s (fun s1 => evG c.P l.toArray.toList (pick l.toArray.toList (a :: b :: post)) s1 K ∧ evG c.P l.toArray.toList (pick l.toArray.toList (b :: a :: post)) s1 K) := by
    refine evG_mono k1 (fun s1 hs1 => ?_) (evOps_evG k1 (by simpa using h1))
    obtain ⟨s', ⟨⟨q1, q2⟩, q3⟩, q4⟩ := evG_ex k2 (evOps_evG k2 (by simpa using hs1))
    refine ⟨evG_mono k2 (fun x hx => ?_) q4, evG_mono k3 (fun x hx => ?_) (evOps_evG k3 (by simpa using q3))⟩
    · rw [hx]; exact ⟨⟨s', q1, .inl ⟨rfl, slle_refl, rfl, rfl⟩⟩, q2⟩
    · exact ⟨⟨s', q1, .inr hx.2⟩, hx.1⟩
  refine wpIn_region_any hm (anyA_sound (K := K) (fun s' a w hr hq => ?_) _ _ s _ _ (RG.drewTick hr) ?_)
  · obtain ⟨⟨sf, hq, hs⟩, _⟩ := hq
    rcases hs with hs | ⟨hl, hs⟩
    · exact ⟨sf, hr.sle hs, hq⟩
    · obtain ⟨g, hg⟩ := hr
      exact ⟨sf, R.sle ⟨_, hg.sw hl h0⟩ hs, hq⟩
  · have := anyA_two (P := c.P) (ops := l.toArray) (ps := ps) (K := K) hk' hw (fun s hs => hs.2.at) (a := a) (b := b) (post := post) pre (Array.replicate l.length false) s ht h2
    rw [hlen] at this
    simpa using this
end
theorem abs_label {c : Ctx} {Q : Exit → St → Prop} {s : St} {l : Nat} (h : Q .normal s) : Abs c (.label l) Q s := fun _ _ hr => wpIn_label ⟨s, hr, h⟩
def noGoQ (Q : Exit → St → Prop) : Exit → St → Prop
  | .goto _, _ => False
  | e, s => Q e s
theorem abs_scope {c : Ctx} {Q : Exit → St → Prop} {s : St} {x : Code} (h : Abs c x (noGoQ Q) s) : Abs c (.scope x) Q s := by
  intro a w hr
  refine wpIn_scope_straight (wpIn_mono (h a w hr) ?_)
  rintro e a' w' ⟨s', r, q⟩
  cases e <;> first | exact ⟨s', r, q⟩ | exact q.elim
attribute [go_sem] swD swL swN swB
@[go_sem] theorem e_same2 {m : Nat} {ps : List (Tmp × Tmp)} {n n' : Nat} {sl sl' : Nat → D} {bx bx' : List Bx} {rw rw' : List Row} :
    Same2 m ps ⟨n, sl, bx, rw⟩ ⟨n', sl', bx', rw'⟩ = (Sep ⟨n, sl, bx, rw⟩ ps ∧ m + 1 < bx.length ∧ SLe ⟨n, swS m sl, swp m (bx.map (swB m)), rw⟩ ⟨n', sl', bx', rw'⟩) := rfl
@[go_sem] theorem e_swS_put {m n : Nat} {f : Nat → D} {v : D} : swS m (Ab.put f n v) = Ab.put (swS m f) n (swD m v) := by
  funext t; simp only [swS, Ab.put]; split <;> rfl
@[go_sem] theorem e_swS_none {m : Nat} : swS m none' = none' := by funext t; simp [swS, none', swD]
@[go_sem] theorem e_swp {α : Type} {m : Nat} {l : List α} : swp m l = match l[m]?, l[m + 1]? with | some x, some y => (l.set m y).set (m + 1) x | _, _ => l := rfl
@[congr] theorem SLe_cg {a a' b b' : St} (h : a = a') (h' : b = b') : SLe a b = SLe a' b' := by rw [h, h']
end Go.Ab
