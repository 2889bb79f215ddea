import Derived.Test.YtdbiiegohemahaaGreatDoorAbJ
import Derived.RecoverIn
set_option linter.unusedVariables false
set_option linter.unusedSimpArgs false
section
namespace Go.Ab
open Go.RowKit

/-- Operations that only compute, or turn memory. -/
def calmOp : Op → Bool
  | .move _ | .assign _ | .alloc _ | .load .. | .store .. | .extract .. | .fieldAddr .. | .makeFunc .. | .unOp .. => true
  | _ => false
theorem calm_v {P : Program} {w w' : World} {s : Sem Value} {n : Next} (h : (do pure (.value (← s)) : Sem Next).run P w = .ok n w') : ∃ v, n = .value v := by
  rw [Sem.run_bind] at h
  cases hr : s.run P w with
  | ok v w2 => rw [hr] at h; simp only [Result.andThen_ok, Sem.run_pure] at h; cases h; exact ⟨v, rfl⟩
  | halt x w2 => rw [hr] at h; cases h
theorem calm_u {P : Program} {w w' : World} {s : Sem Unit} {n : Next} (h : (do s; pure .skip : Sem Next).run P w = .ok n w') : n = .skip := by
  rw [Sem.run_bind] at h
  cases hr : s.run P w with
  | ok v w2 => rw [hr] at h; simp only [Result.andThen_ok, Sem.run_pure] at h; cases h; rfl
  | halt x w2 => rw [hr] at h; cases h
theorem calm_run {P : Program} {ρ : Operand → Value} {o : Oper} {w w' : World} {n : Next} (hc : calmOp o.op = true) (h : (execOp ρ o).run P w = .ok n w') : (∃ v, n = .value v) ∨ n = .skip := by
  obtain ⟨dst, op, ty, pos, aft, gd⟩ := o
  cases op <;> first | (cases hc; done) | skip
  all_goals first
    | (exact .inl (calm_v h))
    | (exact .inr (calm_u h))
    | (simp only [execOp, Sem.run_pure] at h; cases h; exact .inl ⟨_, rfl⟩)

/-- The state of a frame that has deferred what the layer does not speak of. -/
def RX (l1 l2 : List Deferred) (c : Ctx) (s : St) (a : Act) (w : World) : Prop := a.defers = l1 ∧ R c s { a with defers := l2 } w

section
variable {c : Ctx} {l1 l2 : List Deferred} {s : St} {a : Act} {w : World}
theorem rx_step {o : Oper} {K : St → Prop} {Q' : Exit → Act → World → Prop} {N : Act → World → Prop} (hc : calmOp o.op = true) (hr : RX l1 l2 c s a w) (hst : stepOp c.P o s K) (hN : ∀ s' a' w', RX l1 l2 c s' a' w' → K s' → N a' w') : o.wpIn c.F 0 c.P a w N Q' := by
  obtain ⟨hd, g, hg⟩ := hr
  have hs := step_sound (Q := fun _ _ _ => False) hg hst
  refine op_in (fun cl e => by rw [e] at hc; cases hc) ?_
  unfold Oper.wp at hs ⊢
  have he : ({ a with defers := l2 } : Act).eval = a.eval := rfl
  rw [he] at hs
  have hput : ∀ v, (a.put o.dst v).defers = l1 ∧ ({ a.put o.dst v with defers := l2 } : Act) = ({ a with defers := l2 } : Act).put o.dst v := fun v => by
    cases o.dst with
    | none => exact ⟨hd, rfl⟩
    | some n => exact ⟨hd, rfl⟩
  cases hrun : (execOp a.eval o).run c.P w with
  | ok n w' =>
    rw [hrun] at hs
    rcases calm_run hc hrun with ⟨v, rfl⟩ | rfl
    · obtain ⟨s', h1, h2⟩ := hs
      exact hN s' _ _ ⟨(hput v).1, (hput v).2 ▸ h1⟩ h2
    · obtain ⟨s', h1, h2⟩ := hs
      exact hN s' _ _ ⟨(hput undef).1, (hput undef).2 ▸ h1⟩ h2
  | halt x w' =>
    rw [hrun] at hs
    cases x <;> exact hs.elim

theorem rx_list {ops : Array Oper} {K : St → Prop} {Q : Exit → Act → World → Prop} {rest : List Oper} (hK : ∀ s a w, RX l1 l2 c s a w → K s → wpListIn c.F 0 c.P ops Q rest a w) : ∀ (l : List Oper) (s : St) (a : Act) (w : World), (l.all fun o => calmOp o.op && o.guard.isNone) = true → RX l1 l2 c s a w → evOps c.P ops.toList l s K → wpListIn c.F 0 c.P ops Q (l ++ rest) a w
  | [], s, a, w, _, hr, h => hK s a w hr h
  | o :: l, s, a, w, hl, hr, h => by
    simp only [List.all_cons, Bool.and_eq_true, Option.isNone_iff_eq_none] at hl
    obtain ⟨⟨h1, h2⟩, h3⟩ := hl
    unfold evOps at h
    rw [h2] at h
    show wpListIn _ _ _ _ _ (o :: (l ++ rest)) a w
    unfold wpListIn
    rw [if_pos (by simp [Region.wanted, h2])]
    exact rx_step h1 hr h (fun s' a' w' hr' hk' => rx_list hK l s' a' w' (by simpa using h3) hr' hk')

/-- A value that is known, in a slot. -/
theorem RX.put {v : Value} {d : D} {dst : Option Tmp} (hr : RX l1 l2 c s a w) (hd : dstOk s dst) (h : ∀ g, RG c s { a with defers := l2 } w g → ∃ g', RG c s { a with defers := l2 } w g' ∧ Rel w g' v d) : RX l1 l2 c (s.put dst d) (a.put dst v) w := by
  obtain ⟨hdf, g, hg⟩ := hr
  obtain ⟨g', hg', hv⟩ := h g hg
  have h2 := hg'.put hd hv
  refine ⟨?_, g', ?_⟩
  · cases dst <;> exact hdf
  · have : ({ a.put dst v with defers := l2 } : Act) = ({ a with defers := l2 } : Act).put dst v := by cases dst <;> rfl
    rw [this]; exact h2
theorem RX.tick (hr : RX l1 l2 c s a w) : RX l1 l2 c s a { w with drawn := w.drawn + 1 } := ⟨hr.1, RG.drewTick hr.2⟩
theorem RX.le {s' : St} (hr : RX l1 l2 c s a w) (hl : Le s s') (hn : s'.named) (h0 : c.β0.length ≤ s'.bx.length) : RX l1 l2 c s' a w := ⟨hr.1, hr.2.le hl hn h0⟩
end

/-- A frame that shares the boxes of the one ahead. -/
theorem RG.enterN {c : Ctx} {st : St} {a a' : Act} {W : World} {g : Gh} {n : Nat} {sl : Nat → D} (h : RG c st a W g) (hd : a'.defers = []) (hs : a'.tmps.size = n) (hsl : ∀ m, Rel W g (a'.tmps.getD m Go.undef) (sl m)) :
    RG ⟨c.P, W, g.S, g.M, none, fun b => W.heap.size ≤ b ∨ (c.own b ∧ ∃ cs t fz, W.heap[b]? = some (.cells cs t fz)), g.β⟩ ⟨n, sl, st.bx, st.rw⟩ a' W g := by
  refine ⟨⟨⟨by rw [hd]; exact List.nodup_nil, fun d h => by rw [hd] at h; cases h⟩, h.df.mok, fun _ _ h => h, fun _ _ h => .inl h, fun _ _ h => h, fun _ _ => rfl, h.df.tab.own h.below h.df.mok (fun b hb => hb.elim .inl fun h1 => .inr (.inl h1.1))⟩, hs, .of (Below.refl _ _), fun _ h => .inl h, h.good, fun _ h => .inl h, fun _ h => h, h.good, h.lβ, h.lρ, hsl, fun i cs hi => ?_, fun i cs hi => ?_, fun r row hr => ?_, h.ap⟩
  · obtain ⟨b, vs, t, e1, e2, e3, e4, e5⟩ := (h.bx i cs hi).ex
    exact ⟨b, vs, t, e1, e2, e3, .inr ⟨e4, _, _, _, e2⟩, e5⟩
  · obtain ⟨b, vs, t, e1, e2, e3, e4, e5⟩ := (h.fz i cs hi).ex
    exact ⟨b, vs, t, e1, e2, e3, .inr ⟨e4, _, _, _, e2⟩, e5⟩
  · obtain ⟨v, e1, e2, e3⟩ := (h.rw r row hr).ex
    refine ⟨v, e1, e2, fun hl => ?_⟩
    obtain ⟨h1, h2, h3⟩ := e3 hl
    refine ⟨h1, h2, fun gb hgb => ⟨.inr ⟨(h3 gb hgb).1, ?_⟩, (h3 gb hgb).2⟩⟩
    obtain ⟨vals, hown⟩ := h1
    rcases hown.2 with ⟨rfl, _⟩ | ⟨g2, cap, cur, rfl, _, hgg, _⟩
    · simp [Value.ownBlock] at hgb
    · simp [Value.ownBlock] at hgb
      subst hgb
      exact ⟨_, _, _, hgg⟩

/-- Back from such a frame. -/
theorem RG.leaveN {c : Ctx} {st s2 : St} {a a2 : Act} {W W2 : World} {g g2 : Gh} (h : RG c st a W g)
    (h2 : RG ⟨c.P, W, g.S, g.M, none, fun b => W.heap.size ≤ b ∨ (c.own b ∧ ∃ cs t fz, W.heap[b]? = some (.cells cs t fz)), g.β⟩ s2 a2 W2 g2) (hsl : ∀ m, Names st.bx.length 0 (st.sl m)) : RG c ⟨st.n, st.sl, s2.bx, s2.rw⟩ a W2 g2 := by
  have hown : ∀ b, (W.heap.size ≤ b ∨ (c.own b ∧ ∃ cs t fz, W.heap[b]? = some (.cells cs t fz))) → c.own b := fun b hb => hb.elim (fun h1 => h.own0 b (Nat.le_trans h.below.size h1)) (fun h1 => h1.1)
  refine h.back h2 (h2.later rfl rfl rfl (fun _ hb => hb)) hown hown h2.df.anc hsl (fun d hd D hD hb => ?_)
  obtain ⟨D', _, rfl, hD'⟩ := h.df.dok.2 d hd
  cases hD
  have hlt := (Array.getElem?_eq_some_iff.1 hD').1
  rcases hb with hb | ⟨_, cs, t, fz, hb⟩
  · omega
  · rw [hD'] at hb; cases hb
end Go.Ab
end
section
namespace Go.Ab
open Go.RowKit
/-! Calls in a frame that has deferred what the layer does not speak of. -/
def rxOp : Op → Bool
  | .binOp .. => true
  | .call ⟨.value _, _, _⟩ => true
  | o => calmOp o
section
variable {c : Ctx} {l1 l2 : List Deferred} {s : St} {a : Act} {w : World}
theorem rx_call {o : Oper} {fx : Operand} {xs : Array Operand} {at_ : Array TypeId} {K : St → Prop} {Q' : Exit → Act → World → Prop} {N : Act → World → Prop}
    (ho : o.op = .call { callee := .value fx, args := xs, argTypes := at_ }) (hr : RX l1 l2 c s a w) (hd : dstOk s o.dst)
    (hk : wFn (s.ev fx) fun f fs cs => ∃ ds, pureDs s.bx s.rw (fs ++ xs.toList.map s.ev ++ cs) = some ds ∧ CallK c.P f ds fun d => K (s.put o.dst d)) (hN : ∀ s' a' w', RX l1 l2 c s' a' w' → K s' → N a' w') : o.wpIn c.F 0 c.P a w N Q' := by
  obtain ⟨hdf, g, hg⟩ := hr
  have hs := s_call (Q := fun _ _ _ => False) ho hg hd hk
  refine op_in (fun cl e => by rw [e] at ho; cases ho) ?_
  obtain ⟨f, fs, cs, ⟨vf⟩, ⟨vs⟩, ⟨ds, hp, d, ⟨hcall, hcs⟩, hk⟩, hv, hlf, hl, hrf, hr⟩ := wFn_rel (hg.ev fx) hk
  have hrun : (execOp a.eval o).run c.P w = .ok (.enter f (vf ++ xs.toList.map a.eval ++ vs).toArray) w := by
    have hv' : a.eval fx = .func (.func f) vf.toArray vs.toArray := hv
    simp [execOp, ho, resolve, hv', Deferred.ofValue, invoke]
    rw [hcall]
    simp
  have he : ({ a with defers := l2 } : Act).eval = a.eval := rfl
  unfold Oper.wp at hs ⊢
  rw [he, hrun, Oper.upon_enter] at hs
  rw [hrun, Oper.upon_enter]
  refine hs.mono fun e w' h => ?_
  cases e with
  | returned v =>
    obtain ⟨s', h1, h2⟩ := h
    refine hN s' _ _ ⟨?_, ?_⟩ h2
    · cases o.dst <;> exact hdf
    · have : ({ a.put o.dst v with defers := l2 } : Act) = ({ a with defers := l2 } : Act).put o.dst v := by cases o.dst <;> rfl
      rw [this]; exact h1
  | panicked ch => exact h.elim
  | outgrown => obtain ⟨_, _, h⟩ := h; exact h.elim
theorem bin_run {P : Program} {ρ : Operand → Value} {o : Oper} {w w' : World} {n : Next} {op : BinOp} {xt yt : TypeId} {x y : Operand} (ho : o.op = .binOp op xt x y yt) (h : (execOp ρ o).run P w = .ok n w') : ∃ v, n = .value v := by
  simp only [execOp, ho] at h
  first
    | exact calm_v h
    | (rw [Sem.run_bind] at h
       revert h
       generalize (eqGuard _ _ _ _).run P w = r
       cases r with
       | ok v w2 => intro h; simp only [Result.andThen_ok] at h; exact calm_v h
       | halt x w2 => intro h; cases h)
theorem rx_bin {o : Oper} {op : BinOp} {xt yt : TypeId} {x y : Operand} {K : St → Prop} {Q' : Exit → Act → World → Prop} {N : Act → World → Prop} (ho : o.op = .binOp op xt x y yt) (hr : RX l1 l2 c s a w) (hst : stepOp c.P o s K) (hN : ∀ s' a' w', RX l1 l2 c s' a' w' → K s' → N a' w') : o.wpIn c.F 0 c.P a w N Q' := by
  obtain ⟨hd, g, hg⟩ := hr
  have hs := step_sound (Q := fun _ _ _ => False) hg hst
  refine op_in (fun cl e => by rw [e] at ho; cases ho) ?_
  unfold Oper.wp at hs ⊢
  have he : ({ a with defers := l2 } : Act).eval = a.eval := rfl
  rw [he] at hs
  have hput : ∀ v, (a.put o.dst v).defers = l1 ∧ ({ a.put o.dst v with defers := l2 } : Act) = ({ a with defers := l2 } : Act).put o.dst v := fun v => by
    cases o.dst with
    | none => exact ⟨hd, rfl⟩
    | some n => exact ⟨hd, rfl⟩
  cases hrun : (execOp a.eval o).run c.P w with
  | ok n w' =>
    rw [hrun] at hs
    obtain ⟨v, rfl⟩ := bin_run ho hrun
    obtain ⟨s', h1, h2⟩ := hs
    exact hN s' _ _ ⟨(hput v).1, (hput v).2 ▸ h1⟩ h2
  | halt x w' =>
    rw [hrun] at hs
    cases x <;> exact hs.elim
theorem rx_any {o : Oper} {K : St → Prop} {Q' : Exit → Act → World → Prop} {N : Act → World → Prop} (hc : rxOp o.op = true) (hr : RX l1 l2 c s a w) (hst : stepOp c.P o s K) (hN : ∀ s' a' w', RX l1 l2 c s' a' w' → K s' → N a' w') : o.wpIn c.F 0 c.P a w N Q' := by
  unfold rxOp at hc
  split at hc
  · exact rx_bin ‹_› hr hst hN
  · rename_i fx xs at_ ho
    unfold stepOp at hst
    rw [ho] at hst
    obtain ⟨hd, hst⟩ := hst
    unfold opB at hst
    simp only at hst
    refine rx_call ho hr hd ?_ hN
    unfold wFn at hst ⊢
    split at hst <;> first | exact hst.elim | skip
    all_goals
      obtain ⟨ds, h1, h2⟩ := wOpt_some hst
      exact ⟨ds, h1, h2⟩
  · exact rx_step hc hr hst hN
theorem rx_ops {ops : Array Oper} {K : St → Prop} {Q : Exit → Act → World → Prop} {rest : List Oper} (hK : ∀ s a w, RX l1 l2 c s a w → K s → wpListIn c.F 0 c.P ops Q rest a w) : ∀ (l : List Oper) (s : St) (a : Act) (w : World), (l.all fun o => rxOp o.op && o.guard.isNone) = true → RX l1 l2 c s a w → evOps c.P ops.toList l s K → wpListIn c.F 0 c.P ops Q (l ++ rest) a w
  | [], s, a, w, _, hr, h => hK s a w hr h
  | o :: l, s, a, w, hl, hr, h => by
    simp only [List.all_cons, Bool.and_eq_true, Option.isNone_iff_eq_none] at hl
    obtain ⟨⟨h1, h2⟩, h3⟩ := hl
    unfold evOps at h
    rw [h2] at h
    show wpListIn _ _ _ _ _ (o :: (l ++ rest)) a w
    unfold wpListIn
    rw [if_pos (by simp [Region.wanted, h2])]
    exact rx_any h1 hr h (fun s' a' w' hr' hk' => rx_ops hK l s' a' w' (by simpa using h3) hr' hk')
/-- A statement on code in such a frame. -/
def AbsX (l1 l2 : List Deferred) (c : Ctx) (code : Code) (Q : Exit → St → Prop) (s : St) : Prop := ∀ a w, RX l1 l2 c s a w → code.wpIn c.F 0 c.P (fun e a' w' => ∃ s', RX l1 l2 c s' a' w' ∧ Q e s') a w
theorem absx_region {id : Nat} {l : List Oper} {Q : Exit → St → Prop} (hl : (l.all fun o => rxOp o.op && o.guard.isNone) = true) (h : ∀ K : St → Prop, (∀ s', Q .normal s' → K s') → evOps c.P l l s K) : AbsX l1 l2 c (.region id l.toArray false) Q s := by
  intro a w hr
  refine wpIn_region_lit ?_
  have := rx_ops (c := c) (ops := l.toArray) (K := Q .normal) (Q := fun e a' w' => ∃ s', RX l1 l2 c s' a' w' ∧ Q e s') (rest := []) (fun s a w hr hq => ⟨s, hr, hq⟩) l s a w hl hr (by simpa using h _ (fun _ h => h))
  simpa using this
theorem absx_skip {Q : Exit → St → Prop} (h : Q .normal s) : AbsX l1 l2 c .skip Q s := fun _ _ hr => wpIn_skip ⟨s, hr, h⟩
theorem absx_ret {Q : Exit → St → Prop} (h : Q .ret s) : AbsX l1 l2 c .ret Q s := fun _ _ hr => wpIn_ret ⟨s, hr, h⟩
theorem absx_seq {x y : Code} {Q : Exit → St → Prop} (h : AbsX l1 l2 c x (thenQ (AbsX l1 l2 c y Q) Q) s) : AbsX l1 l2 c (.seq x y) Q s := by
  intro a w hr
  refine wpIn_seq (wpIn_mono (h a w hr) ?_)
  rintro e a' w' ⟨s', r, q⟩
  cases e with
  | normal => exact q a' w' r
  | _ => exact ⟨s', r, q⟩
theorem absx_if {x : Operand} {t e : Code} {Q : Exit → St → Prop} (h : wBool (s.ev x) fun b => (b = true → AbsX l1 l2 c t Q s) ∧ (b = false → AbsX l1 l2 c e Q s)) : AbsX l1 l2 c (.cond x t e) Q s := by
  intro a w hr
  obtain ⟨hd, g, hg⟩ := hr
  obtain ⟨b, hv, _, h1, h2⟩ := wBool_rel (hg.ev x) h
  have hv' : a.eval x = .bool b := hv
  cases b with
  | true => exact wpIn_cond_split hv' (fun _ => h1 rfl a w ⟨hd, g, hg⟩) (fun h => by cases h)
  | false => exact wpIn_cond_split hv' (fun h => by cases h) (fun _ => h2 rfl a w ⟨hd, g, hg⟩)
end
end Go.Ab
end
