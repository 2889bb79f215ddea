import Derived.Test.YtdbiiegohemahaaGreatDoorAbY
set_option linter.unusedVariables false
set_option linter.unusedSimpArgs false
namespace Go.Ab
open Go.RowKit
/-!
  A range over a string of ASCII bytes.
-/
def turned (w : World) (B : Nat) (str : ByteArray) (k : Nat) : World := { w with heap := w.heap.setIfInBounds B (.stringIter str k) }
section
variable {c : Ctx} {s : St} {a : Act} {w : World} {g : Gh}
theorem turned_at {B : Nat} {str : ByteArray} {k : Nat} {b : Nat} (h : b ≠ B) : (turned w B str k).heap[b]? = w.heap[b]? := by
  simp [turned, Array.getElem?_setIfInBounds, Ne.symm h]
theorem turned_here {B : Nat} {str : ByteArray} {j k : Nat} (h : w.heap[B]? = some (.stringIter str j)) : (turned w B str k).heap[B]? = some (.stringIter str k) := by
  have := (Array.getElem?_eq_some_iff.1 h).1
  simp [turned, this]
theorem turned_cell {B : Nat} {str : ByteArray} {j k : Nat} (h : w.heap[B]? = some (.stringIter str j)) (x : Addr) : (turned w B str k).cell? x = w.cell? x := by
  by_cases hx : x.block = B
  · unfold World.cell?
    rw [hx, turned_here h, h]
  · unfold World.cell?
    rw [turned_at hx]
theorem RG.iterTurn (h : RG c s a w g) (hb : s.bx = []) (hr : s.rw = []) {B : Nat} {str : ByteArray} {j k : Nat} (hB : w.heap[B]? = some (.stringIter str j)) (h0 : c.w0.heap.size ≤ B) : RG c s a (turned w B str k) g := by
  have hsz : (turned w B str k).heap.size = w.heap.size := by simp [turned]
  have other : ∀ {b : Nat} {o : Obj}, w.heap[b]? = some o → (∀ s j, o ≠ .stringIter s j) → (turned w B str k).heap[b]? = some o := fun {b o} hbo hne => by
    rw [turned_at (fun e => by subst e; rw [hB] at hbo; cases hbo; exact hne _ _ rfl)]; exact hbo
  have ky : Keeps w g (turned w B str k) g := ⟨fun x _ => turned_cell hB x, fun _ h => h, fun _ _ h => h, fun _ _ h => h, fun _ _ h => h⟩
  refine ⟨⟨⟨h.df.dok.1, fun d hd => ?_⟩, fun b f hf => ?_, h.df.m0, h.df.mfrom, h.df.anc, fun x hx => (turned_cell hB x).trans (h.df.kp0 x hx), h.df.tab⟩, h.sz, ⟨h.below.os, h.below.tape, h.below.output, by rw [hsz]; exact h.below.size, fun b hb hn => ?_⟩, h.own0, fun x hx => ?_, h.from0, h.S0, h.good0, h.lβ, h.lρ, fun n => (h.sl n).keep ky, ?_, ?_, ?_, ?_⟩
  · obtain ⟨D, q1, q2, q3⟩ := h.df.dok.2 d hd
    exact ⟨D, q1, q2, other q3 (fun _ _ e => by cases e)⟩
  · obtain ⟨es, cl, q1, q2⟩ := h.df.mok b f hf
    exact ⟨es, cl, other q1 (fun _ _ e => by cases e), q2⟩
  · rw [turned_at (by omega)]; exact h.below.block b hb hn
  · obtain ⟨u, hu⟩ := h.good x hx
    exact ⟨u, (turned_cell hB x).trans hu⟩
  · intro i cs hi; rw [hb] at hi; simp at hi
  · intro i cs hi; rw [hb] at hi; simp at hi
  · intro i row hi; rw [hr] at hi; simp at hi
  · exact ⟨fun _ => .inl 0, fun i x b hi => by rw [hb] at hi; simp at hi, fun r row v gb hi => by rw [hr] at hi; simp at hi⟩

/-- The context from here on, in which this block stays as it is. -/
def Ctx.from_ (c : Ctx) (w : World) (S : Addr → Prop) (M : MM) (B : Nat) : Ctx := ⟨c.P, w, S, M, c.l, fun b => w.heap.size ≤ b ∨ (c.own b ∧ b ≠ B), []⟩
theorem RG.iterEnter (h : RG c s a w g) (hb : s.bx = []) (hr : s.rw = []) {B : Nat} {str : ByteArray} {j : Nat} (hB : w.heap[B]? = some (.stringIter str j)) : RG (c.from_ w g.S g.M B) s a w g := by
  have hβ : g.β = [] := List.eq_nil_of_length_eq_zero (by rw [h.lβ, hb]; rfl)
  refine ⟨⟨⟨h.df.dok.1, fun d hd => ?_⟩, h.df.mok, fun _ _ h => h, fun _ _ h => .inl h, fun i b hi => by simp [Ctx.from_] at hi, fun _ _ => rfl,
    h.df.tab.own h.below h.df.mok fun b hb => ?_⟩, h.sz, ⟨rfl, rfl, rfl, Nat.le_refl _, fun _ _ _ => rfl⟩, fun b hb => .inl hb, h.good, fun x hx => .inl hx, fun x hx => hx, h.good, h.lβ, h.lρ, h.sl, ?_, ?_, ?_, ?_⟩
  · obtain ⟨D, q1, q2, q3⟩ := h.df.dok.2 d hd
    exact ⟨D, .inr ⟨q1, fun e => by subst e; rw [hB] at q3; cases q3⟩, q2, q3⟩
  · rcases hb with hb | hb
    · exact .inl hb
    · exact .inr (.inl hb.1)
  · intro i cs hi; rw [hb] at hi; simp at hi
  · intro i cs hi; rw [hb] at hi; simp at hi
  · intro i row hi; rw [hr] at hi; simp at hi
  · exact ⟨fun _ => .inl 0, fun i x b hi => by rw [hb] at hi; simp at hi, fun r row v gb hi => by rw [hr] at hi; simp at hi⟩
theorem RG.iterLeave {s' : St} {a' : Act} {w' : World} {g' : Gh} (h : RG c s a w g) (hb : s.bx = []) {B : Nat} {str : ByteArray} {j : Nat} (hB : w.heap[B]? = some (.stringIter str j)) (h0 : c.w0.heap.size ≤ B)
    (h' : RG (c.from_ w g.S g.M B) s' a' w' g') (hb' : s'.bx = []) (hr' : s'.rw = []) : RG c s' a' w' g' ∧ w'.heap[B]? = some (.stringIter str j) := by
  have hβ : g.β = [] := List.eq_nil_of_length_eq_zero (by rw [h.lβ, hb]; rfl)
  have hlt := (Array.getElem?_eq_some_iff.1 hB).1
  have hBM : g.M B = none := by
    cases hm : g.M B with
    | none => rfl
    | some f => obtain ⟨es, cl, q1, _⟩ := h.df.mok B f hm; rw [hB] at q1; cases q1
  have own' : ∀ b, (c.from_ w g.S g.M B).own b → c.own b := fun b hb => hb.elim (fun hb => h.own0 b (Nat.le_trans h.below.size hb)) (fun hb => hb.1)
  refine ⟨⟨⟨⟨h'.df.dok.1, fun d hd => ?_⟩, h'.df.mok, fun b f hf => h'.df.m0 b f (h.df.m0 b f hf), fun b f hf => ?_, fun i b hi => ?_, fun x hx => (h'.df.kp0 x (h.S0 x hx)).trans (h.df.kp0 x hx), h.df.tab⟩, h'.sz, ?_, h.own0, h'.good, fun x hx => ?_, fun x hx => h'.S0 x (h.S0 x hx), h.good0, h'.lβ, h'.lρ, h'.sl, ?_, ?_, ?_, ?_⟩, ?_⟩
  · obtain ⟨D, q1, q2, q3⟩ := h'.df.dok.2 d hd
    exact ⟨D, own' D q1, q2, q3⟩
  · rcases h'.df.mfrom b f hf with hf | hf
    · exact h.df.mfrom b f hf
    · exact .inr (Nat.le_trans h.below.size hf)
  · have := h.df.anc i b hi
    rw [hβ] at this; simp at this
  · refine h.below.trans h'.below h.below.size fun i hi hm => ?_
    rcases hm with hm | hm
    · rcases hm with hm | hm
      · exact absurd (Nat.le_trans h.below.size hm) (Nat.not_le_of_lt hi)
      · exact .inl hm.1
    · cases hf : g.M i with
      | none => exact absurd hf hm
      | some f =>
        rcases h.df.mfrom i f hf with hf | hf
        · exact .inr (by rw [hf]; exact fun e => by cases e)
        · exact absurd hf (Nat.not_le_of_lt hi)
  · rcases h'.from0 x hx with hx | hx
    · exact h.from0 x hx
    · exact .inr (own' _ hx)
  · intro i cs hi; rw [hb'] at hi; simp at hi
  · intro i cs hi; rw [hb'] at hi; simp at hi
  · intro i row hi; rw [hr'] at hi; simp at hi
  · exact ⟨fun _ => .inl 0, fun i x b hi => by rw [hb'] at hi; simp at hi, fun r row v gb hi => by rw [hr'] at hi; simp at hi⟩
  · refine (h'.below.block B hlt fun hm => ?_).trans hB
    rcases hm with hm | hm
    · rcases hm with hm | hm
      · exact absurd hlt (Nat.not_lt.2 hm)
      · exact hm.2 rfl
    · exact hm hBM

theorem range_wp {P : Program} {o : Oper} {t : TypeId} {x : Operand} {str : ByteArray} {N : Act → World → Prop} {Q : Exit → Act → World → Prop} (ho : o.op = .range t x) (hx : a.eval x = .string str) (ht : strTy P t = true)
    (h : N (a.put o.dst (.pointer (some ⟨w.heap.size, 0, none⟩))) (w.iter str 0)) : o.wp P a w N Q := by
  have hu : P.underlying t = some .string := by unfold strTy at ht; split at ht <;> simp_all
  have hrun : (execOp a.eval o).run P w = .ok (.value (.pointer (some ⟨w.heap.size, 0, none⟩))) (w.iter str 0) := by
    simp [execOp, ho, hx, run_range_string w t str hu]
  unfold Oper.wp
  rw [hrun]
  exact h
theorem next_wp {P : Program} {o : Oper} {x : Operand} {str : ByteArray} {B k : Nat} {N : Act → World → Prop} {Q : Exit → Act → World → Prop} (ho : o.op = .next x true) (hx : a.eval x = .pointer (some ⟨B, 0, none⟩)) (hB : w.heap[B]? = some (.stringIter str k)) (hk : k < str.size)
    (ha : (str[k]'hk).toNat < 128) (h : N (a.put o.dst (.tuple #[.bool true, .int .i64 k, .int .i32 (str[k]'hk).toNat])) (turned w B str (k + 1))) : o.wp P a w N Q := by
  have hrun : (execOp a.eval o).run P w = .ok (.value (.tuple #[.bool true, .int .i64 k, .int .i32 (str[k]'hk).toNat])) (turned w B str (k + 1)) := by
    simp [execOp, ho, hx, Instr.next, getObj, setObj, Sem.run, hB, hk, decode_ascii str k hk ha, goInt, turned]
  unfold Oper.wp
  rw [hrun]
  exact h
theorem next_end {P : Program} {o : Oper} {x : Operand} {str : ByteArray} {B k : Nat} {N : Act → World → Prop} {Q : Exit → Act → World → Prop} (ho : o.op = .next x true) (hx : a.eval x = .pointer (some ⟨B, 0, none⟩)) (hB : w.heap[B]? = some (.stringIter str k)) (hk : ¬ k < str.size)
    (h : N (a.put o.dst (.tuple #[.bool false])) w) : o.wp P a w N Q := by
  have hrun : (execOp a.eval o).run P w = .ok (.value (.tuple #[.bool false])) w := by
    simp [execOp, ho, hx, Instr.next, getObj, Sem.run, hB, hk]
  unfold Oper.wp
  rw [hrun]
  exact h
end
/-- The iterator. -/
abbrev itD (B : Nat) : D := .val (.pointer (some ⟨B, 0, none⟩))
theorem abs_rangeStr {c : Ctx} {Q : Exit → St → Prop} {s : St} {str : ByteArray} {x : Operand} {t7 t8 t9 t10 : Tmp} {tS ty7 ty8 ty9 ty10 : TypeId} {p7 p8 p9 p10 : String} {f7 f8 f9 f10 : Array Edge} {id0 id1 e0 : Nat} {body : Code}
    (hx : s.ev x = .str str) (hst : strTy c.P tS = true) (hasc : ∀ k (h : k < str.size), (str[k]'h).toNat < 128) (h7 : t7 < s.n) (h8 : t8 < s.n) (h9 : t9 < s.n) (h10 : t10 < s.n) (h98 : t9 ≠ t8) (hβ : c.β0 = []) (hbx : s.bx = []) (hrw : s.rw = [])
    (inv : Nat → List (Nat × D)) (hnm : ∀ k, ((inv k).all fun p => namesB 0 0 p.2) = true)
    (hle : ∀ B, Le ((s.put (some t7) (.str str)).put (some t8) (itD B)) (mkSt s.n ((t8, itD B) :: inv 0) [] []))
    (round : ∀ (B k : Nat) (hk : k < str.size) (w1 : World) (S1 : Addr → Prop) (M1 : MM) (o1 : Nat → Prop), Abs ⟨c.P, w1, S1, M1, c.l, o1, []⟩ body (fun e s' => e = .normal ∧ Le s' (mkSt s.n ((t8, itD B) :: inv (k + 1)) [] []))
      (((⟨s.n, ((t8, itD B) :: inv k).foldr (fun p f => put f p.1 p.2) none', [], []⟩ : St).put (some t9) (.tup [.bool true, .int .i64 k, .int .i32 (str[k]'hk).toNat])).put (some t10) (.bool true)))
    (done : ∀ B, Q .normal (((⟨s.n, ((t8, itD B) :: inv str.size).foldr (fun p f => put f p.1 p.2) none', [], []⟩ : St).put (some t9) (.tup [.bool false])).put (some t10) (.bool false))) :
    Abs c (.seq (.region id0 #[⟨some t7, .move x, ty7, p7, f7, none⟩, ⟨some t8, .range tS (.tmp t7), ty8, p8, f8, none⟩] false)
      (.block e0 (.loop (.seq (.region id1 #[⟨some t9, .next (.tmp t8) true, ty9, p9, f9, none⟩, ⟨some t10, .extract (.tmp t9) 0, ty10, p10, f10, none⟩] false) (.seq (.cond (.tmp t10) .skip (.exit e0)) body))))) Q s := by
  intro a w hr
  have hnm' : ∀ B k, (mkSt s.n ((t8, itD B) :: inv k) [] []).named := fun B k => named_of (by
    simp only [List.all_cons, List.length_nil, hnm k]; rfl) rfl
  refine wpIn_seq (wpIn_region_lit (l := [⟨some t7, .move x, ty7, p7, f7, none⟩, ⟨some t8, .range tS (.tmp t7), ty8, p8, f8, none⟩]) ?_)
  obtain ⟨g, hg⟩ := hr
  unfold wpListIn
  rw [if_pos (by simp [Region.wanted])]
  have hst7 : stepOp c.P ⟨some t7, .move x, ty7, p7, f7, none⟩ s (fun s1 => s1 = s.put (some t7) (.str str)) := ⟨h7, by show St.put s _ (s.ev x) = _; rw [hx]⟩
  refine op_in (step_nodefer hst7) (Oper.wp_mono (fun a1 w1 ⟨s1, hr1, e1⟩ => ?_) (step_sound hg hst7))
  subst e1
  obtain ⟨g1, hg1⟩ := hr1
  unfold wpListIn
  rw [if_pos (by simp [Region.wanted])]
  refine op_in (fun cl e => by cases e) ?_
  have hs7 : a1.eval (.tmp t7) = .string str := by
    have := hg1.sl t7
    have e : (s.put (some t7) (.str str)).sl t7 = .str str := by simp [St.put, put]
    rw [e] at this
    have : Rel w1 g1 (a1.eval (.tmp t7)) (.str str) := this
    generalize a1.eval (.tmp t7) = v at this
    cases this; rfl
  refine range_wp (t := tS) (x := .tmp t7) rfl hs7 hst ?_
  obtain ⟨B, hBe⟩ : ∃ B, B = w1.heap.size := ⟨_, rfl⟩
  have h0B : c.w0.heap.size ≤ B := by rw [hBe]; exact hg1.below.size
  have hbI := below_alloc w1 (.stringIter str 0)
  have hg2 : RG c (s.put (some t7) (.str str)) a1 (w1.iter str 0) ⟨g1.S, g1.β, g1.ρ, g1.M⟩ := hg1.world hbI (fun _ h => h) (fun _ h => .inl h) (hg1.good.below hbI)
  have hg3 : RG c ((s.put (some t7) (.str str)).put (some t8) (itD B)) (a1.put (some t8) (.pointer (some ⟨B, 0, none⟩))) (w1.iter str 0) ⟨g1.S, g1.β, g1.ρ, g1.M⟩ := hg2.put (show t8 < s.n from h8) (.val _ _)
  have hR : R c (mkSt s.n ((t8, itD B) :: inv 0) [] []) (a1.put (some t8) (.pointer (some ⟨B, 0, none⟩))) (w1.iter str 0) := R.le ⟨_, hg3⟩ (hle B) (hnm' B 0) (by rw [hβ]; exact Nat.le_refl _)
  have hheap : (w1.iter str 0).heap[B]? = some (.stringIter str 0) := by rw [hBe]; exact World.iter_heap w1 str 0
  rw [← hBe]
  unfold wpListIn
  refine wpIn_block ?_
  refine wp_loop_ix (fun k a w => k ≤ str.size ∧ R c (mkSt s.n ((t8, itD B) :: inv k) [] []) a w ∧ w.heap[B]? = some (.stringIter str k)) (fun k => str.size - k) (fun k a w ⟨hk, hr, hh⟩ => ?_) 0 ⟨Nat.zero_le _, hR, hheap⟩
  obtain ⟨g, hg⟩ := hr
  have hev8 : a.eval (.tmp t8) = .pointer (some ⟨B, 0, none⟩) := by
    have := hg.sl t8
    have e : (mkSt s.n ((t8, itD B) :: inv k) [] []).sl t8 = itD B := by simp [mkSt, put]
    rw [e] at this
    have : Rel w g (a.eval (.tmp t8)) (itD B) := this
    generalize a.eval (.tmp t8) = v at this
    cases this; rfl
  refine wpIn_seq (wpIn_region_lit (l := [⟨some t9, .next (.tmp t8) true, ty9, p9, f9, none⟩, ⟨some t10, .extract (.tmp t9) 0, ty10, p10, f10, none⟩]) ?_)
  unfold wpListIn
  rw [if_pos (by simp [Region.wanted])]
  refine op_in (fun cl e => by cases e) ?_
  by_cases hlt : k < str.size
  · refine next_wp (x := .tmp t8) rfl hev8 hh hlt (hasc k hlt) ?_
    have hgt := hg.iterTurn rfl rfl (k := k + 1) hh h0B
    have ht := turned_here (k := k + 1) hh
    have hgp := hgt.put (dst := some t9) (show t9 < s.n from h9) (v := .tuple #[.bool true, .int .i64 k, .int .i32 (str[k]'hlt).toNat]) (d := .tup [.bool true, .int .i64 k, .int .i32 (str[k]'hlt).toNat]) (.tup _ _ _ rfl (fun q d hd => by
      match q, hd with
      | 0, hd => cases hd; exact .bool _ _
      | 1, hd => cases hd; exact .int _ _ _
      | 2, hd => cases hd; exact .int _ _ _
      | q + 3, hd => simp at hd))
    unfold wpListIn
    rw [if_pos (by simp [Region.wanted])]
    have hex : stepOp c.P ⟨some t10, .extract (.tmp t9) 0, ty10, p10, f10, none⟩ ((mkSt s.n ((t8, itD B) :: inv k) [] []).put (some t9) (.tup [.bool true, .int .i64 k, .int .i32 (str[k]'hlt).toNat]))
        (fun s1 => s1 = ((mkSt s.n ((t8, itD B) :: inv k) [] []).put (some t9) (.tup [.bool true, .int .i64 k, .int .i32 (str[k]'hlt).toNat])).put (some t10) (.bool true)) := by
      refine ⟨h10, ?_⟩
      have e : ((mkSt s.n ((t8, itD B) :: inv k) [] []).put (some t9) (.tup [.bool true, .int .i64 k, .int .i32 (str[k]'hlt).toNat])).ev (.tmp t9) = .tup [.bool true, .int .i64 k, .int .i32 (str[k]'hlt).toNat] := by simp [St.ev, St.put, put]
      show wTup (St.ev _ (.tmp t9)) _
      rw [e]
      rfl
    have hge := hgp.iterEnter rfl rfl ht
    have hP : (c.from_ (turned w B str (k + 1)) g.S g.M B).P = c.P := rfl
    have hF : (c.from_ (turned w B str (k + 1)) g.S g.M B).F = c.F := rfl
    refine op_in (c := c.from_ (turned w B str (k + 1)) g.S g.M B) (step_nodefer hex) (Oper.wp_mono (fun a3 w3 ⟨s3, hr3, e3⟩ => ?_) (step_sound hge hex))
    subst e3
    unfold wpListIn
    refine wpIn_seq ?_
    obtain ⟨g3, hg3⟩ := hr3
    have hb10 : a3.eval (.tmp t10) = .bool true := by
      have := hg3.sl t10
      have e : (((mkSt s.n ((t8, itD B) :: inv k) [] []).put (some t9) (.tup [.bool true, .int .i64 k, .int .i32 (str[k]'hlt).toNat])).put (some t10) (.bool true)).sl t10 = .bool true := by simp [St.put, put]
      rw [e] at this
      exact Rel.asBool this
    refine wpIn_cond hb10 ?_
    simp only [if_true]
    refine wpIn_skip ?_
    show body.wpIn c.F 0 c.P _ a3 w3
    have hbody := round B k hlt (turned w B str (k + 1)) g.S g.M (c.from_ (turned w B str (k + 1)) g.S g.M B).own a3 w3 ⟨g3, hg3⟩
    refine wpIn_mono hbody ?_
    rintro e a4 w4 ⟨s4, hr4, rfl, hl4⟩
    obtain ⟨g5, hg5⟩ := R.le hr4 hl4 (hnm' B (k + 1)) (Nat.le_refl _)
    have := hgp.iterLeave rfl ht h0B hg5 rfl rfl
    exact ⟨k + 1, ⟨by omega, ⟨_, this.1⟩, this.2⟩, by omega⟩
  · obtain rfl : k = str.size := by omega
    refine next_end (x := .tmp t8) rfl hev8 hh hlt ?_
    have hgp := hg.put (dst := some t9) (show t9 < s.n from h9) (v := .tuple #[.bool false]) (d := .tup [.bool false]) (.tup _ _ _ rfl (fun q d hd => by
      match q, hd with
      | 0, hd => cases hd; exact .bool _ _
      | q + 1, hd => simp at hd))
    unfold wpListIn
    rw [if_pos (by simp [Region.wanted])]
    have hex : stepOp c.P ⟨some t10, .extract (.tmp t9) 0, ty10, p10, f10, none⟩ ((mkSt s.n ((t8, itD B) :: inv str.size) [] []).put (some t9) (.tup [.bool false]))
        (fun s1 => s1 = ((mkSt s.n ((t8, itD B) :: inv str.size) [] []).put (some t9) (.tup [.bool false])).put (some t10) (.bool false)) := by
      refine ⟨h10, ?_⟩
      have e : ((mkSt s.n ((t8, itD B) :: inv str.size) [] []).put (some t9) (.tup [.bool false])).ev (.tmp t9) = .tup [.bool false] := by simp [St.ev, St.put, put]
      show wTup (St.ev _ (.tmp t9)) _
      rw [e]
      rfl
    refine op_in (step_nodefer hex) (Oper.wp_mono (fun a3 w3 ⟨s3, hr3, e3⟩ => ?_) (step_sound hgp hex))
    subst e3
    unfold wpListIn
    refine wpIn_seq ?_
    obtain ⟨g3, hg3⟩ := hr3
    have hb10 : a3.eval (.tmp t10) = .bool false := by
      have := hg3.sl t10
      have e : (((mkSt s.n ((t8, itD B) :: inv str.size) [] []).put (some t9) (.tup [.bool false])).put (some t10) (.bool false)).sl t10 = .bool false := by simp [St.put, put]
      rw [e] at this
      exact Rel.asBool this
    refine wpIn_cond hb10 ?_
    simp only [Bool.false_eq_true, if_false]
    refine wpIn_exit ?_
    simp only [Exit.then, Exit.inBlock, if_true]
    exact ⟨_, ⟨g3, hg3⟩, done B⟩
end Go.Ab
