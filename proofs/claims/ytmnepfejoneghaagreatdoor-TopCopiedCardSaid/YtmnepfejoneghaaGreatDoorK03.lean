import Derived.Test.YtmnepfejoneghaaGreatDoorK02
import Derived.Laws.IdiomCopy
import Derived.Laws.MakeOwn
set_option linter.unusedVariables false
set_option linter.unusedSimpArgs false
section
namespace Go.Ab
open Go.RowKit
section
variable {c : Ctx} {s : St} {a : Act} {w : World} {g : Gh}
theorem setRow_grown (w : World) (b : Nat) (cs : Array Value) : w.grownBy (w.setRow b cs) (some b) :=
  ⟨rfl, rfl, rfl, by simp [World.setRow], fun k _ hk => setRow_other w b k cs (fun e => hk (by rw [e]))⟩
theorem BelowP.grown {p : Nat → Prop} {B : Nat} {a w w' : World} {row : Option Nat} (h : BelowP p B a w) (hg : w.grownBy w' row) (hr : ∀ k, row = some k → p k) (hB : B ≤ a.heap.size := by exact Nat.le_refl _) : BelowP p B a w' :=
  ⟨hg.os.trans h.os, hg.tape.trans h.tape, hg.output.trans h.output, Nat.le_trans h.size hg.size, fun k hk hn => (hg.block k (by have := h.size; omega) (fun e => hn (hr k e.symm))).trans (h.block k hk hn)⟩
/-- A store into a box. -/
theorem RG.store {i off b : Nat} {cs ds : List D} {vs : Array Value} (h : RG c s a w g) (hi : s.bx[i]? = some (.mu cs)) (hb : g.β[i]? = some b) (hd : CellsR w g vs ds) (hle : off + ds.length ≤ cs.length) :
    ∃ cur t, w.heap[b]? = some (.cells cur t (0, 0)) ∧ cur.size = cs.length ∧
      RG c { s with bx := s.bx.set i (.mu (cs.take off ++ ds ++ cs.drop (off + ds.length))) } a (w.setRow b (cur.toList.take off ++ vs.toList ++ cur.toList.drop (off + vs.size)).toArray) g := by
  obtain ⟨b', cur, t, e1, e2, e3, e4, e5, e6⟩ := (h.bx i cs hi).ex
  rw [e1] at hb; cases hb
  refine ⟨cur, t, e2, e3.1, ?_⟩
  generalize hw : w.setRow b (cur.toList.take off ++ vs.toList ++ cur.toList.drop (off + vs.size)).toArray = w'
  have hgr : w.grownBy w' (some b) := by rw [← hw]; exact setRow_grown w b _
  have hne : ∀ x, g.S x → x.block ≠ b := e5 rfl
  have hcell : ∀ x : Addr, x.block < w.heap.size → x.block ≠ b → w'.cell? x = w.cell? x := fun x hx hxb =>
    World.cell?_of_block (hgr.block x.block hx (by simpa using hxb))
  have k : Keeps w g w' g := ⟨fun x hx => hcell x (h.good.lt hx) (hne x hx), fun _ h => h, fun _ _ h => h, fun _ _ h => h, fun _ _ h => h⟩
  have hil : i < s.bx.length := (List.getElem?_eq_some_iff.1 hi).1
  obtain ⟨κ, k1, k2⟩ := h.ap
  have hκ : κ b = .inl i := k1 i _ b hi rfl e1
  have hold : ∀ (j : Nat) (x : Bx), (s.bx.set i (.mu (cs.take off ++ ds ++ cs.drop (off + ds.length))))[j]? = some x → (j = i ∧ x = .mu (cs.take off ++ ds ++ cs.drop (off + ds.length))) ∨ (j ≠ i ∧ s.bx[j]? = some x) := fun j x hj => by
    by_cases hji : j = i
    · subst hji
      rw [List.getElem?_set_self hil] at hj
      exact .inl ⟨rfl, (Option.some.inj hj).symm⟩
    · rw [List.getElem?_set_ne (Ne.symm hji)] at hj
      exact .inr ⟨hji, hj⟩
  have hother : ∀ (j : Nat) (x : Bx) (b' : Nat), j ≠ i → s.bx[j]? = some x → x.live = true → g.β[j]? = some b' → b' ≠ b := fun j x b' hji hj hl hb' e => by
    subst e
    have := k1 j x b' hj hl hb'
    rw [hκ] at this
    injection this with this
    exact hji this.symm
  have hcells : CellsR w g (cur.toList.take off ++ vs.toList ++ cur.toList.drop (off + vs.size)).toArray (cs.take off ++ ds ++ cs.drop (off + ds.length)) := by
    have hvs := hd.1
    have hcu := e3.1
    refine cells_replace e3 hd hle (by simp; omega) (fun m hm => ?_)
    by_cases hc : off ≤ m ∧ m < off + vs.size
    · rw [if_pos hc]
      simp only [Array.getD_eq_getD_getElem?, List.getElem?_toArray]
      rw [List.append_assoc, List.getElem?_append_right (by simp; omega), List.getElem?_append_left (by simp; omega)]
      have : m - (cur.toList.take off).length = m - off := by simp; omega
      rw [this]; simp
    · rw [if_neg hc]
      simp only [Array.getD_eq_getD_getElem?, List.getElem?_toArray]
      rcases Nat.lt_or_ge m off with h2 | h2
      · rw [List.append_assoc, List.getElem?_append_left (by simp; omega), List.getElem?_take, if_pos h2]; simp
      · rw [List.getElem?_append_right (by simp; omega), List.getElem?_drop]
        have : off + vs.size + (m - (cur.toList.take off ++ vs.toList).length) = m := by simp; omega
        rw [this]; simp
  refine ⟨h.df.keep (fun k o hk ho => ?_) (fun x hx => k.cell x (h.S0 x hx)), h.sz, ?_, h.own0, fun x hx => ?_, h.from0, h.S0, h.good0, by simp [h.lβ], h.lρ, fun n => (h.sl n).keep k, ?_, ?_, ?_, ?_⟩
  · refine (hgr.block k (Array.getElem?_eq_some_iff.1 hk).1 (fun e => ?_)).trans hk
    cases e
    rw [e2] at hk; cases hk; cases ho
  · exact h.below.grown hgr (fun q hq => by cases hq; exact .inl e4)
  · obtain ⟨u, hu⟩ := h.good x hx
    exact ⟨u, (k.cell x hx).trans hu⟩
  · intro j ds' hj
    rcases hold j _ hj with ⟨rfl, e⟩ | ⟨hji, hj⟩
    · cases e
      refine ⟨b, _, t, e1, by rw [← hw]; exact setRow_heap w b cur _ t _ e2, hcells.keep k, e4, fun _ => hne, fun h => by cases h⟩
    · obtain ⟨b', vs', t', f1, f2, f3, f4, f5, f6⟩ := (h.bx j ds' hj).ex
      have hlt : b' < w.heap.size := (Array.getElem?_eq_some_iff.1 f2).1
      exact ⟨b', vs', t', f1, (hgr.block b' hlt (by simpa using hother j _ b' hji hj rfl f1)).trans f2, f3.keep k, f4, f5, f6⟩
  · intro j ds' hj
    rcases hold j _ hj with ⟨rfl, e⟩ | ⟨hji, hj⟩
    · cases e
    · obtain ⟨b', vs', t', f1, f2, f3, f4, f5, f6⟩ := (h.fz j ds' hj).ex
      have hlt : b' < w.heap.size := (Array.getElem?_eq_some_iff.1 f2).1
      exact ⟨b', vs', t', f1, (hgr.block b' hlt (by simpa using hother j _ b' hji hj rfl f1)).trans f2, f3.keep k.er, f4, f5, f6⟩
  · intro r row hr
    obtain ⟨v, f1, f2, f3⟩ := (h.rw r row hr).ex
    refine ⟨v, f1, f2.keep k, fun hl => ?_⟩
    obtain ⟨⟨vals, hown⟩, hcl, hS⟩ := f3 hl
    refine ⟨⟨vals, hown.kept hgr ?_⟩, hcl, hS⟩
    right
    intro e
    have := k2 r row v b hr hl f1 e
    rw [hκ] at this
    cases this
  · refine ⟨κ, fun j x b' hj hx hb' => ?_, k2⟩
    rcases hold j _ hj with ⟨rfl, e⟩ | ⟨hji, hj⟩
    · rw [e1] at hb'; cases hb'; exact hκ
    · exact k1 j x b' hj hx hb'
def wStore (P : Program) (s : St) (t : TypeId) (x d : D) (K : St → Prop) : Prop := match x with
  | .box i off => match s.bx[i]? with
    | some (.mu cs) => szOf P t ≠ 0 ∧ d.cells.length = szOf P t ∧ d.cells.all D.one = true ∧ off + d.cells.length ≤ cs.length ∧
        K { s with bx := s.bx.set i (.mu (cs.take off ++ d.cells ++ cs.drop (off + d.cells.length))) }
    | _ => False
  | _ => False
theorem s_store {o : Oper} {t : TypeId} {x y : Operand} {K : St → Prop} {Q : Exit → Act → World → Prop} (h : RG c s a w g) (ho : o.op = .store t x y) (hd : o.dst = none)
    (hk : wStore c.P s t (s.ev x) (s.ev y) K) : o.wp c.P a w (fun a' w' => ∃ s', R c s' a' w' ∧ K s') Q := by
  unfold wStore at hk
  split at hk
  · rename_i i off hx
    split at hk
    · rename_i cs hcs
      obtain ⟨hz, hl, h1, hle, hk⟩ := hk
      have hxr := h.ev x
      rw [hx] at hxr
      generalize hv : a.eval x = vx at hxr
      cases hxr with
      | box _ _ _ b hb =>
        have hc := (h.ev y).cellsR h.hρ h1
        obtain ⟨cur, tb, e1, e2, e3⟩ := h.store hcs hb hc hle
        have hsz : (a.eval y).cells.size = szOf c.P t := by rw [hc.1, hl]
        have hone : ∀ v ∈ (a.eval y).cells.toList, v.oneCell' = true := fun v hv => by
          obtain ⟨q, hq, rfl⟩ := List.getElem_of_mem hv
          have hq' : q < (s.ev y).cells.length := by rw [← hc.1]; simpa using hq
          have := (hc.2 q _ (List.getElem?_eq_getElem hq')).2
          simp at hq
          simpa [hq] using this
        have hrun := run_storeCells_at c.P b off tb (a.eval y).cells.toList 0 cur w e1 (by have := hc.1; simp; omega) hone
        simp only [Nat.add_zero, Array.length_toList] at hrun
        have hex : (execOp a.eval o).run c.P w = .ok .skip (w.setRow b (cur.toList.take off ++ (a.eval y).cells.toList ++ cur.toList.drop (off + (a.eval y).cells.size)).toArray) := by
          simp [execOp, ho, hv, Instr.storeAt, Instr.sureAddr, storeVar, run_sizeOf hz, hsz, hrun]
        unfold Oper.wp
        rw [hex]
        simp only [Oper.upon, hd, Act.put]
        exact ⟨_, ⟨g, e3⟩, hk⟩
    · exact hk.elim
  · exact hk.elim
theorem s_alloc {o : Oper} {t : TypeId} {K : St → Prop} {Q : Exit → Act → World → Prop} (h : RG c s a w g) (ho : o.op = .alloc t) (hd : dstOk s o.dst)
    (hk : wOpt (zeroD c.P t) fun zs => K (St.put { s with bx := s.bx ++ [.mu zs] } o.dst (.box s.bx.length 0))) : o.wp c.P a w (fun a' w' => ∃ s', R c s' a' w' ∧ K s') Q := by
  obtain ⟨zs, hz, hk⟩ := wOpt_some hk
  obtain ⟨z, hzr, hzc, _⟩ := zeroD_run hz w g
  have hr := h.alloc (t := t) hzc
  have hex : (execOp a.eval o).run c.P w = .ok (.value (.pointer (some ⟨w.heap.size, 0, none⟩))) (w.alloc (.cells z.cells t)) := by
    simp [execOp, ho, Instr.alloc, hzr, newVar, newRow]
  unfold Oper.wp
  rw [hex]
  refine ⟨_, ⟨_, hr.put ?_ (.box _ _ _ w.heap.size ?_)⟩, hk⟩
  · exact hd
  · simp [← h.lβ]
theorem s_box {o : Oper} {t : TypeId} {x : Operand} {K : St → Prop} {Q : Exit → Act → World → Prop} (h : RG c s a w g) (ho : o.op = .box t x) (hd : dstOk s o.dst)
    (hk : (s.ev x).cells.all D.one = true ∧ K (St.put { s with bx := s.bx ++ [.mu (s.ev x).cells] } o.dst (.box s.bx.length 0))) : o.wp c.P a w (fun a' w' => ∃ s', R c s' a' w' ∧ K s') Q := by
  obtain ⟨h1, hk⟩ := hk
  have hc := (h.ev x).cellsR h.hρ h1
  have hr := h.alloc (t := t) hc
  have hex : (execOp a.eval o).run c.P w = .ok (.value (.pointer (some ⟨w.heap.size, 0, none⟩))) (w.alloc (.cells (a.eval x).cells t)) := by
    simp [execOp, ho, Instr.box, newVar, newRow]
  unfold Oper.wp
  rw [hex]
  refine ⟨_, ⟨_, hr.put ?_ (.box _ _ _ w.heap.size ?_)⟩, hk⟩
  · exact hd
  · simp [← h.lβ]
def bytes' (P : Program) (t : TypeId) : Nat := ((P.info? t).map (·.bytes)).getD 0
/-- What a copy reads. -/
def wSrc (bx : List Bx) (d : D) (k : List D → Prop) : Prop := match d with
  | .bsl i off n _ => wBx bx i fun cs => off + n ≤ cs.length ∧ k ((cs.drop off).take n)
  | .list xs => k xs
  | _ => False
theorem wSrc_rel {v : Value} {d : D} {k : List D → Prop} (h : RG c s a w g) (hr : Rel w g v d) (hk : wSrc s.bx d k) :
    ∃ (ys : List D) (A : Option Addr) (cp : Nat) (u : Nat → Value), k ys ∧ v = .slice A ys.length cp ∧ (ys.all D.one = true → ∀ q, q < ys.length → ∃ ad, A = some ad ∧ w.cell? (ad.add q) = some (u q) ∧ (u q).oneCell' = true) ∧ (ys.all D.one = true → ∀ q d, ys[q]? = some d → Rel w g (u q) d) := by
  unfold wSrc at hk
  split at hk
  · rename_i i off n cp
    obtain ⟨cs, hcs, hle, hk⟩ := wBx_some hk
    obtain ⟨b, vs, tb, e1, e2, e3⟩ := h.mem.bx i cs hcs
    cases hr with
    | bsl _ _ _ _ _ b' hb' =>
      obtain rfl : b' = b := by rw [e1] at hb'; exact (Option.some.inj hb').symm
      obtain ⟨h1, h2⟩ := box_cells e2 e3 off
      have hlen : ((cs.drop off).take n).length = n := by simp; omega
      refine ⟨_, some ⟨b', off, none⟩, cp, fun q => vs.getD (off + q) Go.undef, hk, by rw [hlen], fun _ q hq => ⟨_, rfl, h1 q (by simp; omega)⟩, fun _ q d hd => h2 q d ?_⟩
      rw [List.getElem?_take] at hd
      split at hd
      · exact hd
      · cases hd
  rotate_left
  · exact hk.elim
  · rename_i xs
    have hxs := hr
    obtain ⟨A, cp, sz, u, hv, _, hm, hrr⟩ := hxs.list_inv
    have hfl : ∀ l : List D, l.all D.one = true → flat l = l := fun l hl => by
      induction l with
      | nil => rfl
      | cons d l ih =>
        simp only [List.all_cons, Bool.and_eq_true] at hl
        have e : d.cells = [d] := by have := hl.1; cases d <;> first | rfl | (cases this)
        show d.cells ++ flat l = _
        rw [e, ih hl.2]; rfl
    refine ⟨xs, A, cp, u, hk, hv, fun ho q hq => ?_, fun ho q d hd => ?_⟩
    · obtain ⟨ad, e1, e2, _, e4⟩ := hm q (by rw [hfl _ ho]; exact hq)
      exact ⟨ad, e1, e2, e4⟩
    · exact (hrr q d (by rw [hfl _ ho]; exact hd)).keep (keeps_er _ _)
def wCopyE (P : Program) (bx : List Bx) (t : TypeId) (dx dy : D) (k : List Bx × D → Prop) : Prop := match dx with
  | .bsl i off n _ => wOpt (elemOf P t) fun e => szOf P e = 1 ∧ wSrc bx dy fun ys => ys.all D.one = true ∧ match bx[i]? with
      | some (.mu cs) => off + n ≤ cs.length ∧ k (bx.set i (.mu (cs.take off ++ ys.take n ++ cs.drop (off + (ys.take n).length))), .int .i64 (ys.take n).length)
      | _ => False
  | _ => False
def wCopy (P : Program) (s : St) (dst : Option Tmp) (t : TypeId) (dx dy : D) (K : St → Prop) : Prop := wCopyE P s.bx t dx dy fun r => K (St.put { s with bx := r.1 } dst r.2)
theorem s_copy {o : Oper} {x y : Operand} {t t' : TypeId} {K : St → Prop} {Q : Exit → Act → World → Prop} (h : RG c s a w g)
    (ho : o.op = .call { callee := .builtin .copy, args := #[x, y], argTypes := #[t, t'] }) (hd : dstOk s o.dst) (hk : wCopy c.P s o.dst t (s.ev x) (s.ev y) K) :
    o.wp c.P a w (fun a' w' => ∃ s', R c s' a' w' ∧ K s') Q := by
  unfold wCopy wCopyE at hk
  split at hk
  case h_2 => exact hk.elim
  rename_i i off n cp hx
  obtain ⟨e, he, hz, hk⟩ := wOpt_some hk
  obtain ⟨ys, A, cp', u, ⟨ho1, hk⟩, hv, hm, hr⟩ := wSrc_rel h (h.ev y) hk
  have hm := hm ho1
  have hr := hr ho1
  split at hk
  case h_2 => exact hk.elim
  rename_i cs hcs
  obtain ⟨hle, hk⟩ := hk
  have hxr := h.ev x
  rw [hx] at hxr
  generalize hvx : a.eval x = vx at hxr
  cases hxr with
  | bsl _ _ _ _ _ b hb =>
  have hu := elemOf_u he
  have hs1 : (c.P.info? e).map (·.size) = some 1 := by
    unfold szOf Program.cellsOf at hz
    cases hi : c.P.info? e with
    | none => rw [hi] at hz; simp at hz
    | some i => rw [hi] at hz; simpa using hz
  have hmin : (ys.take n).length = Nat.min ys.length n := by simp [Nat.min_comm]
  obtain ⟨vals, hvals⟩ : ∃ vals : List Value, vals = (List.range (ys.take n).length).map u := ⟨_, rfl⟩
  have hvl : vals.length = (ys.take n).length := by rw [hvals]; simp
  have hCR : CellsR w g vals.toArray (ys.take n) := by
    refine ⟨by simpa using hvl, fun q d hd => ?_⟩
    have hq := (List.getElem?_eq_some_iff.1 hd).1
    have hq' : q < ys.length := by simp at hq; omega
    have e1 : (vals.toArray).getD q Go.undef = u q := by
      rw [hvals]; simp at hq ⊢; simp [hq]
    rw [e1]
    obtain ⟨ad, _, _, h1⟩ := hm q hq'
    refine ⟨hr q d ?_, h1⟩
    rw [List.getElem?_take] at hd
    split at hd
    · exact hd
    · cases hd
  obtain ⟨cur, tb, e1, e2, e3⟩ := h.store (off := off) (vs := vals.toArray) hcs hb hCR (by rw [hmin]; have h9 : Nat.min ys.length n ≤ n := Nat.min_le_right ys.length n; omega)
  have hone : ∀ v ∈ vals, v.oneCell' = true := fun v hv => by
    rw [hvals] at hv
    obtain ⟨q, hq, rfl⟩ := List.mem_map.1 hv
    obtain ⟨ad, _, _, h1⟩ := hm q (by simp at hq; omega)
    exact h1
  have hrun : (Builtin.copy_ #[t, t'] o.type #[.slice (some ⟨b, off, none⟩) n cp, .slice A ys.length cp']).run c.P w = .ok (goInt (ys.take n).length) (w.setRow b (cur.toList.take off ++ vals ++ cur.toList.drop (off + vals.length)).toArray) := by
    by_cases h0 : (ys.take n).length = 0
    · have hv0 : vals = [] := by rw [← List.length_eq_zero_iff, hvl, h0]
      rw [h0, hv0]
      rw [run_copy_none w t t' o.type e (some ⟨b, off, none⟩) A n cp ys.length cp' hu hs1 (by rw [← hmin, h0])]
      have : (cur.toList.take off ++ ([] : List Value) ++ cur.toList.drop (off + ([] : List Value).length)).toArray = cur := by simp
      rw [this, setRow_self w b cur tb _ e1]
      rfl
    · obtain ⟨ad, rfl, _⟩ := hm 0 (by rcases Nat.eq_zero_or_pos ys.length with h9 | h9; exact absurd (by rw [hmin, h9]; exact Nat.zero_min n) h0; exact h9)
      rw [← hvl]
      refine run_copy_row c.P w t t' o.type e b off n cp ad ys.length cp' cur tb vals hu hs1 e1 (by rw [hvl, hmin]) (fun j v hj => ?_) (by rw [hvl, e2, hmin]; have h9 : Nat.min ys.length n ≤ n := Nat.min_le_right ys.length n; omega) hone
      rw [hvals] at hj
      have hjl := (List.getElem?_eq_some_iff.1 hj).1
      simp at hjl
      simp [hjl] at hj
      obtain ⟨ad', e4, e5, _⟩ := hm j (by omega)
      cases e4
      rw [← hj]; exact e5
  have hex : (execOp a.eval o).run c.P w = .ok (.value (goInt (ys.take n).length)) (w.setRow b (cur.toList.take off ++ vals ++ cur.toList.drop (off + vals.length)).toArray) := by
    simp only [List.length_take] at hrun
    simp [execOp, ho, resolve, invoke, builtin, hvx, hv, hrun]
  unfold Oper.wp
  rw [hex]
  refine ⟨_, ⟨g, RG.put (s := { s with bx := s.bx.set i (.mu (cs.take off ++ ys.take n ++ cs.drop (off + (ys.take n).length))) }) (dst := o.dst) (d := .int .i64 (ys.take n).length) (v := goInt (ys.take n).length) (by simpa using e3) hd (.int _ _ _)⟩, hk⟩
/-- New memory: a slice of so many zeros. -/
def wMake (P : Program) (s : St) (dst : Option Tmp) (t : TypeId) (dl dc : D) (K : St → Prop) : Prop :=
  wOpt (elemOf P t) fun e => wInt2 dl dc fun _ n m => n = m ∧ 0 ≤ n ∧ n ≤ 9223372036854775807 ∧ (bytes' P e : Int) * n ≤ 140737488355328 ∧ wOpt (zeroD P e) fun zs => zs ≠ [] ∧
    K (St.put { s with bx := s.bx ++ [.mu (List.replicate n.toNat zs).flatten] } dst (.bsl s.bx.length 0 n.toNat n.toNat))
theorem s_makeSlice {o : Oper} {t : TypeId} {x y : Operand} {K : St → Prop} {Q : Exit → Act → World → Prop} (h : RG c s a w g) (ho : o.op = .makeSlice t x y) (hd : dstOk s o.dst)
    (hk : wMake c.P s o.dst t (s.ev x) (s.ev y) K) : o.wp c.P a w (fun a' w' => ∃ s', R c s' a' w' ∧ K s') Q := by
  obtain ⟨e, he, hk⟩ := wOpt_some hk
  obtain ⟨q, n, m, h1, h2, rfl, h0, h63, hby, hk⟩ := wInt2_rel (h.ev x) (h.ev y) hk
  obtain ⟨zs, hzs, hne, hk⟩ := wOpt_some hk
  obtain ⟨z, hzr, hzc, i, hi, hisz⟩ := zeroD_run hzs w g
  obtain ⟨z', hz', hzz⟩ : ∃ z', i.zero = some z' ∧ z'.cells = z.cells := by
    unfold zeroD at hzs
    rw [hi] at hzs
    cases hiz : i.zero with
    | none => simp [hiz] at hzs
    | some z' =>
      refine ⟨z', rfl, ?_⟩
      have : (zeroValue e).run c.P w = .ok z' w := by simp [zeroValue, typeInfo, hi, hiz]
      rw [this] at hzr
      injection hzr with hzr
      rw [hzr]
  have hb : bytes' c.P e = i.bytes := by simp [bytes', hi]
  rw [hb] at hby
  have hrun := run_make (P := c.P) (w := w) t e i z' (elemOf_u he) hi hz' q q n n h0 (Int.le_refl _) (by omega) h63
  have hCR : CellsR w g (madeCells z'.cells (n.toNat * i.size)) (List.replicate n.toNat zs).flatten := by
    have hzl : zs.length = i.size := hisz.symm
    have hzc1 : z'.cells.size = zs.length := by rw [hzz]; exact hzc.1
    have hpos : 0 < zs.length := List.length_pos_iff.2 hne
    refine ⟨by rw [size_madeCells]; simp [hzl], fun p d hd => ?_⟩
    have hp : p < n.toNat * zs.length := by have := (List.getElem?_eq_some_iff.1 hd).1; simpa using this
    have hg1 : (madeCells z'.cells (n.toNat * i.size)).getD p Go.undef = z'.cells.getD (p % zs.length) Go.undef := by
      have hm : p % zs.length < z'.cells.size := by rw [hzc1]; exact Nat.mod_lt _ hpos
      have hp2 : p < n.toNat * i.size := by rw [← hzl]; exact hp
      simp only [madeCells, hzc1]
      simp [hp2, hm]
    have hg2 : ∀ (m p : Nat), p < m * zs.length → (List.replicate m zs).flatten[p]? = zs[p % zs.length]? := by
      intro m
      induction m with
      | zero => intro p hp; omega
      | succ m ih =>
        intro p hp
        rw [List.replicate_succ, List.flatten_cons]
        rcases Nat.lt_or_ge p zs.length with h1 | h1
        · rw [List.getElem?_append_left h1, Nat.mod_eq_of_lt h1]
        · rw [List.getElem?_append_right h1, ih _ (by rw [Nat.add_mul] at hp; omega)]
          congr 1
          rw [Nat.mod_eq_sub_mod h1]
    rw [hg1, hzz]
    rw [hg2 _ _ hp] at hd
    exact hzc.2 _ d hd
  have hr := h.alloc (t := e) hCR
  have hex : (execOp a.eval o).run c.P w = .ok (.value (.slice (some ⟨w.heap.size, 0, none⟩) n.toNat n.toNat)) (w.alloc (.cells (madeCells z'.cells (n.toNat * i.size)) e)) := by
    simp [execOp, ho, h1, h2, hrun]
  unfold Oper.wp
  rw [hex]
  refine ⟨_, ⟨_, hr.put ?_ (.bsl _ _ _ _ _ w.heap.size ?_)⟩, hk⟩
  · exact hd
  · simp [← h.lβ]
mutual
def D.men (r : Nat) : D → Bool
  | .own r' => r' == r
  | .agg cs => menL r cs
  | .tup cs => menL r cs
  | .clo _ cs => menL r cs
  | .mth _ cs => menL r cs
  | _ => false
def menL (r : Nat) : List D → Bool
  | [] => false
  | d :: ds => d.men r || menL r ds
end
theorem menL_false {r : Nat} : ∀ {ds : List D}, menL r ds = false → ∀ d ∈ ds, d.men r = false
  | [], _, d, hd => by cases hd
  | x :: ds, h, d, hd => by
    simp only [menL, Bool.or_eq_false_iff] at h
    rcases List.mem_cons.1 hd with rfl | hd
    · exact h.1
    · exact menL_false h.2 d hd
/-- What does not name a row is kept where only this row turns. -/
theorem Rel.keepBut {w' : World} {r : Nat} {v : Value} {d : D} (h : Rel w g v d) : ∀ {g' : Gh}, (∀ x, g.S x → w'.cell? x = w.cell? x) → (∀ x, g.S x → g'.S x) → (∀ (i b : Nat), g.β[i]? = some b → g'.β[i]? = some b) →
    (∀ (i : Nat) (b : Value), i ≠ r → g.ρ[i]? = some b → g'.ρ[i]? = some b) → (∀ (b : Nat) (f : Memo), g.M b = some f → g'.M b = some f) → d.men r = false → Rel w' g' v d := by
  induction h with
  | undef g v => intros; exact .undef _ _
  | int g k n => intros; exact .int _ _ _
  | bool g b => intros; exact .bool _ _
  | str g s => intros; exact .str _ _
  | val g v => intros; exact .val _ _
  | list g A n c xs sz u hn hsz hcap hm hr ih =>
    intro g' h1 h2 h3 h4 hm0 _
    have k : Keeps w g.er w' g'.er := ⟨h1, h2, fun i b h => by simp [Gh.er] at h, fun i b h => by simp [Gh.er] at h, hm0⟩
    refine .list _ A n c xs sz u hn hsz hcap (fun q hq => ?_) (fun q d hd => (hr q d hd).keep k)
    obtain ⟨ad, rfl, hc, hS, h1'⟩ := hm q hq
    exact ⟨ad, rfl, (h1 _ hS).trans hc, h2 _ hS, h1'⟩
  | agg g vs cs hl h1' hr ih =>
    intro g' h1 h2 h3 h4 hm0 hm
    exact .agg _ vs cs hl h1' (fun q d hd => ih q d hd h1 h2 h3 h4 hm0 (menL_false hm d (List.mem_of_getElem? hd)))
  | tup g vs ds hl hr ih =>
    intro g' h1 h2 h3 h4 hm0 hm
    exact .tup _ vs ds hl (fun q d hd => ih q d hd h1 h2 h3 h4 hm0 (menL_false hm d (List.mem_of_getElem? hd)))
  | box g i off b hb => intro g' h1 h2 h3 h4 hm0 _; exact .box _ i off b (h3 _ _ hb)
  | ro g ad cs u hm hr ih =>
    intro g' h1 h2 h3 h4 hm0 _
    have k : Keeps w g.er w' g'.er := ⟨h1, h2, fun i b h => by simp [Gh.er] at h, fun i b h => by simp [Gh.er] at h, hm0⟩
    refine .ro _ ad cs u (fun q hq => ?_) (fun q d hd => (hr q d hd).keep k)
    obtain ⟨hc, hS, h1'⟩ := hm q hq
    exact ⟨(h1 _ hS).trans hc, h2 _ hS, h1'⟩
  | memo g b f h => intro g' h1 h2 h3 h4 hm0 _; exact .memo _ b f (hm0 _ _ h)
  | skp g => intros; exact .skp _
  | mth g f vs cs hl hr ih =>
    intro g' h1 h2 h3 h4 hm0 hm
    exact .mth _ f vs cs hl (fun q d hd => ih q d hd h1 h2 h3 h4 hm0 (menL_false hm d (List.mem_of_getElem? hd)))
  | bsl g i off n c b hb => intro g' h1 h2 h3 h4 hm0 _; exact .bsl _ i off n c b (h3 _ _ hb)
  | own g r' v h =>
    intro g' h1 h2 h3 h4 hm0 hm
    simp only [D.men, beq_eq_false_iff_ne, ne_eq] at hm
    exact .own _ r' v (h4 _ _ hm h)
  | clo g f vs cs hl hr ih =>
    intro g' h1 h2 h3 h4 hm0 hm
    exact .clo _ f vs cs hl (fun q d hd => ih q d hd h1 h2 h3 h4 hm0 (menL_false hm d (List.mem_of_getElem? hd)))
end
end Go.Ab
end
section
namespace Go.Ab
open Go.RowKit
section
variable {c : Ctx} {s : St} {a : Act} {w : World} {g : Gh}
def purge (r : Nat) (d : D) : D := match d.men r with | true => .undef | false => d
def purgeB (r : Nat) : Bx → Bx
  | .mu cs => .mu (cs.map (purge r))
  | x => x
theorem purge_rel {w' : World} {g' : Gh} {r : Nat} {v : Value} {d : D} (h : Rel w g v d) (h1 : ∀ x, g.S x → w'.cell? x = w.cell? x) (h2 : ∀ x, g.S x → g'.S x) (h3 : ∀ (i b : Nat), g.β[i]? = some b → g'.β[i]? = some b)
    (h4 : ∀ (i : Nat) (b : Value), i ≠ r → g.ρ[i]? = some b → g'.ρ[i]? = some b) (h5 : ∀ (b : Nat) (f : Memo), g.M b = some f → g'.M b = some f) : Rel w' g' v (purge r d) := by
  unfold purge
  cases hm : d.men r with
  | true => exact .undef _ _
  | false => exact h.keepBut h1 h2 h3 h4 h5 hm
/-- A nil slice is taken for a row of its own. -/
theorem RG.pushNil (h : RG c s a w g) (e : TypeId) (sz : Nat) : RG c { s with rw := s.rw ++ [⟨true, e, sz, []⟩] } a w ⟨g.S, g.β, g.ρ ++ [.slice none 0 0], g.M⟩ := by
  have k : Keeps w g w ⟨g.S, g.β, g.ρ ++ [.slice none 0 0], g.M⟩ := ⟨fun _ _ => rfl, fun _ h => h, fun _ _ h => h, fun i b hi => by
    rw [List.getElem?_append_left (List.getElem?_eq_some_iff.1 hi).1]; exact hi, fun _ _ h => h⟩
  have hold : ∀ (i : Nat) (x : Row), (s.rw ++ [⟨true, e, sz, []⟩])[i]? = some x → s.rw[i]? = some x ∧ i < s.rw.length ∨ x = ⟨true, e, sz, []⟩ ∧ i = s.rw.length := fun i x hi => by
    rcases Nat.lt_or_ge i s.rw.length with hlt | hge
    · rw [List.getElem?_append_left hlt] at hi; exact .inl ⟨hi, hlt⟩
    · rw [List.getElem?_append_right hge] at hi
      have : i - s.rw.length = 0 := by have := (List.getElem?_eq_some_iff.1 hi).1; simp at this; omega
      rw [this] at hi; simp at hi; exact .inr ⟨hi.symm, by omega⟩
  have hn : (g.ρ ++ [Value.slice none 0 0])[s.rw.length]? = some (.slice none 0 0) := by rw [← h.lρ]; simp
  refine ⟨h.df.gh rfl, h.sz, h.below, h.own0, h.good, h.from0, h.S0, h.good0, h.lβ, by simp [h.lρ], fun n => (h.sl n).keep k, ?_, ?_, ?_, ?_⟩
  · intro i cs hi
    obtain ⟨b, vs, t, e1, e2, e3, e4, e5, e6⟩ := (h.bx i cs hi).ex
    exact ⟨b, vs, t, e1, e2, e3.keep k, e4, e5, e6⟩
  · intro i cs hi
    obtain ⟨b, vs, t, e1, e2, e3, e4, e5, e6⟩ := (h.fz i cs hi).ex
    exact ⟨b, vs, t, e1, e2, e3, e4, e5, e6⟩
  · intro r row hr
    rcases hold r _ hr with ⟨hr, _⟩ | ⟨rfl, rfl⟩
    · obtain ⟨v, e1, e2, e3⟩ := (h.rw r row hr).ex
      exact ⟨v, k.ρ _ _ e1, e2.keep k, e3⟩
    · exact ⟨_, hn, .nil _ _, fun _ => ⟨⟨[], World.ownsRow_nil w _ e sz⟩, by simp, fun gb hgb => by simp [Value.ownBlock] at hgb⟩⟩
  · obtain ⟨κ, k1, k2⟩ := h.ap
    refine ⟨κ, k1, fun r row v gb hr hl hv hgb => ?_⟩
    rcases hold r _ hr with ⟨hr, hlt⟩ | ⟨rfl, rfl⟩
    · rw [List.getElem?_append_left (by rw [h.lρ]; exact hlt)] at hv
      exact k2 r row v gb hr hl hv hgb
    · rw [hn] at hv; cases hv
      simp [Value.ownBlock] at hgb
def St.appended (s : St) (r : Nat) (row : Row) : St :=
  { s with sl := fun n => purge r (s.sl n), bx := s.bx.map (purgeB r), rw := s.rw.set r row }
theorem run_append_nil_src (P : Program) (base : Nat) (t ty e : TypeId) (i : TypeInfo) (size : Nat) (ht : P.underlying t = some (.slice e)) (hi : P.info? e = some i)
    (v : Value) (n : Nat) (xs : List Value) (hown : w.ownsRow base e size v n xs) (q : Nat) : (Builtin.append_ #[t, t] ty #[v, .slice none 0 q]).run P w = .ok v w := by
  rcases hown.2 with ⟨rfl, rfl⟩ | ⟨g, cap, cur, rfl, _, _, hnc, _⟩
  · simp [Builtin.append_, run_underlying ht, sizeOf, typeInfo, hi, Builtin.lenOf, Builtin.firstCells]
  · simp [Builtin.append_, run_underlying ht, sizeOf, typeInfo, hi, Builtin.lenOf, Builtin.firstCells, hnc, storeCells]
/-- The bare fact on the model's append. -/
theorem run_append_any (P : Program) (base : Nat) (t ty e : TypeId) (i : TypeInfo) (z : Value) (size bytes : Nat) (ht : P.underlying t = some (.slice e)) (hi : P.info? e = some i) (hz : i.zero = some z)
    (hsize : i.size = size) (hby : i.bytes = bytes) (hzs : z.cells.size = size) (hsz : 0 < size)
    (v : Value) (n : Nat) (xs : List Value) (hown : w.ownsRow base e size v n xs)
    (A : Option Addr) (m q : Nat) (news : List Value) (hl : news.length = m * size) (hr : 0 < m → ∃ ad, A = some ad ∧ ∀ j u, news[j]? = some u → w.cell? (ad.add j) = some u) (h1 : ∀ u ∈ news, u.oneCell' = true)
    (h63 : n + m ≤ maxLen) (hbytes : (n + m) * bytes ≤ 140737488355328) (hbase : base ≤ w.heap.size) :
    ∃ v' w', (Builtin.append_ #[t, t] ty #[v, .slice A m q]).run P w = .ok v' w' ∧ w'.ownsRow base e size v' (n + m) (xs ++ news) ∧ w.grownBy w' v.ownBlock ∧
      (v'.ownBlock = v.ownBlock ∨ (v'.ownBlock = some w.heap.size ∧ w.grownBy w' none)) := by
  rcases A with _ | ad
  · have hm : m = 0 := by
      rcases Nat.eq_zero_or_pos m with h0 | h0
      · exact h0
      · obtain ⟨ad, h, _⟩ := hr h0
        cases h
    subst hm
    have hn : news = [] := List.eq_nil_of_length_eq_zero (by simpa using hl)
    subst hn
    exact ⟨v, w, run_append_nil_src P base t ty e i size ht hi v n xs hown q, by simpa using hown, ⟨rfl, rfl, rfl, Nat.le_refl _, fun _ _ _ => rfl⟩, .inl rfl⟩
  · have hcells : ∀ j u, news[j]? = some u → w.cell? (ad.add j) = some u := by
      intro j u hu
      rcases Nat.eq_zero_or_pos m with h0 | h0
      · subst h0
        have hn : news = [] := List.eq_nil_of_length_eq_zero (by simpa using hl)
        subst hn
        simp at hu
      · obtain ⟨ad', h, hc⟩ := hr h0
        injection h with h
        subst h
        exact hc j u hu
    obtain ⟨v', w', hrun, h2, h3, _, h5⟩ := run_append_own_at (P := P) w base t ty e i z size bytes ht hi hz hsize hby hzs hsz v n xs hown ad m q news hl hcells h1 h63 hbytes hbase
    refine ⟨v', w', hrun, h2, h3, ?_⟩
    rcases h5 with h5 | h5
    · exact .inl h5
    · refine .inr ⟨h5, ?_⟩
      -- where the block is a new one the old one has not been written
      have hown' := hown
      rcases hown.2 with ⟨rfl, _⟩ | ⟨g, cap, cur, rfl, _, hg, hnc, _, _, _⟩
      · exact h3
      · by_cases hroom : n + m ≤ cap
        · exfalso
          have hfit : n * i.size + news.length ≤ cur.size := by
            have hcs : cur.size = cap * size := by
              rcases hown'.2 with ⟨hx, _⟩ | ⟨g2, cap2, cur2, he2, _, hg2, _, _, hcs2, _⟩
              · cases hx
              · cases he2; rw [hg] at hg2; cases hg2; exact hcs2
            rw [hl, hcs, hsize, ← Nat.add_mul]; exact Nat.mul_le_mul_right _ hroom
          have hr2 := run_append_room (P := P) w t ty e i ht hi g n cap cur hg ad m q news (by rw [hsize]; exact hl) hcells h1 hroom hfit
          rw [hr2] at hrun
          cases hrun
          have : g = w.heap.size := by simpa [Value.ownBlock] using h5
          have := (Array.getElem?_eq_some_iff.1 hg).1
          omega
        · have holds : ∀ j u, xs[j]? = some u → w.cell? ((⟨g, 0, none⟩ : Addr).add j) = some u := hown'.cells (g := g) rfl
          have hr2 := run_append_grow (P := P) w t ty e i z ht hi hz ⟨g, 0, none⟩ n cap xs (by rw [hsize]; exact hown'.1) holds ad m q news (by rw [hsize]; exact hl) hcells (by omega)
            (by simp only [maxLen] at h63; omega) (growslice_fits (by omega) (by rw [hby]; exact hbytes))
          rw [hr2] at hrun
          cases hrun
          exact ⟨rfl, rfl, rfl, by simp, fun k hk _ => Below.heap_alloc w.drew _ k hk⟩
def bytesOf (P : Program) (t : TypeId) : Nat := ((P.info? t).map (·.bytes)).getD 0
theorem flat_append (xs ys : List D) : flat (xs ++ ys) = flat xs ++ flat ys := by simp [flat]
/-- append to a row of the call's own. -/
theorem RG.append {r : Nat} {row : Row} {v vy : Value} {ys : List D} {t ty : TypeId} (h : RG c s a w g) (hr : s.rw[r]? = some row) (hl : row.live = true) (hv : g.ρ[r]? = some v)
    (hy : Rel w g vy (.list ys)) (he : elemOf c.P t = some row.e) (hz0 : szOf c.P row.e = row.sz) (hz : szOf c.P row.e ≠ 0) (hzz : (zeroD c.P row.e).isSome = true)
    (hys : ∀ y ∈ ys, y.cells.length = row.sz) (h63 : row.xs.length + ys.length ≤ 9223372036854775807) (hbytes : (row.xs.length + ys.length) * bytesOf c.P row.e ≤ 140737488355328) :
    ∃ v' w' g', (Builtin.append_ #[t, t] ty #[v, vy]).run c.P w = .ok v' w' ∧ RG c (s.appended r ⟨true, row.e, row.sz, row.xs ++ ys⟩) a w' g' ∧ g'.ρ[r]? = some v' := by
  obtain ⟨v0, e1, e2, e3⟩ := (h.rw r row hr).ex
  rw [e1] at hv; cases hv
  obtain ⟨⟨vals, hown⟩, hxs, hSr⟩ := e3 hl
  obtain ⟨A, cy, szy, uy, rfl, hszy, hmy, hry⟩ := hy.list_inv
  obtain ⟨zs, hzs⟩ := Option.isSome_iff_exists.1 hzz
  -- the element's type
  have ⟨i, z, hi, hiz, hzc, hisz⟩ : ∃ i z, c.P.info? row.e = some i ∧ i.zero = some z ∧ z.cells.size = row.sz ∧ i.size = row.sz := by
    unfold zeroD at hzs
    split at hzs
    · rename_i i hi
      split at hzs
      · rename_i z hz'
        split at hzs
        · rename_i hc
          simp only [Bool.and_eq_true, beq_iff_eq] at hc
          have : i.size = row.sz := by rw [← hz0]; simp [szOf, Program.cellsOf, hi]
          exact ⟨i, z, hi, hz', by rw [hc.2, this], this⟩
        · cases hzs
      · cases hzs
    · cases hzs
  have hszpos : 0 < row.sz := by rw [← hz0]; omega
  have hfy := flat_length row.sz ys hys
  let news := (List.range (flat ys).length).map uy
  have hnl : news.length = ys.length * row.sz := by simp [news, hfy]
  have hnews : 0 < ys.length → ∃ ad, A = some ad ∧ ∀ j u, news[j]? = some u → w.cell? (ad.add j) = some u := fun hpos => by
    have h0 : 0 < (flat ys).length := by rw [hfy]; exact Nat.mul_pos hpos hszpos
    obtain ⟨ad, rfl, _⟩ := hmy 0 h0
    refine ⟨ad, rfl, fun j u hj => ?_⟩
    simp only [news, List.getElem?_map, Option.map_eq_some_iff] at hj
    obtain ⟨j', hj, rfl⟩ := hj
    have hjl := (List.getElem?_eq_some_iff.1 hj).1
    have hjv := (List.getElem?_eq_some_iff.1 hj).2
    simp at hjl hjv
    subst hjv
    obtain ⟨ad', e, hc, _⟩ := hmy j hjl
    cases e; exact hc
  have hn1 : ∀ u ∈ news, u.oneCell' = true := fun u hu => by
    simp only [news, List.mem_map, List.mem_range] at hu
    obtain ⟨j, hj, rfl⟩ := hu
    obtain ⟨_, _, _, _, h1⟩ := hmy j hj
    exact h1
  obtain ⟨v', w', hrun, hown', hgr, hblk⟩ := run_append_any (w := w) c.P 0 t ty row.e i z row.sz (bytesOf c.P row.e) (elemOf_u he) hi hiz hisz (by simp [bytesOf, hi]) hzc hszpos
    v row.xs.length vals hown A ys.length cy news hnl hnews hn1 (by simp only [maxLen]; exact h63) hbytes (Nat.zero_le _)
  have hvl : vals.length = row.xs.length * row.sz := hown.1
  -- cells that count keep
  have hcell : ∀ x, g.S x → w'.cell? x = w.cell? x := fun x hx => by
    obtain ⟨u, hu⟩ := h.good x hx
    have hxl := h.good.lt hx
    by_cases hb : v.ownBlock = some x.block
    · -- in the row's own block: in place, or not turned
      have hoff := (hSr _ hb).2 x hx rfl
      have hsp : x.spot = none := by
        cases hs : x.spot with
        | none => rfl
        | some q => simp [World.cell?, hs] at hu; split at hu <;> simp_all
      rcases hblk with hb' | hb'
      · have hold := hown.cells hb
        have hnew := hown'.cells (hb'.trans hb)
        have hlt : x.off < vals.length := by rw [hvl]; exact hoff
        have ex : (⟨x.block, 0, none⟩ : Addr).add x.off = x := by rw [add_block]; cases x; simp_all
        have o1 := hold x.off _ (List.getElem?_eq_getElem hlt)
        have o2 := hnew x.off vals[x.off] (by rw [List.getElem?_append_left hlt]; exact List.getElem?_eq_getElem hlt)
        rw [ex] at o1 o2
        rw [o1, o2]
      · exact World.cell?_of_block (hb'.2.block x.block hxl (by simp))
    · exact World.cell?_of_block (hgr.block x.block hxl (fun e => hb e.symm))
  obtain ⟨κ, k1, k2⟩ := h.ap
  -- the new names
  let S' : Addr → Prop := fun x => g.S x ∨ ∃ gb q, v'.ownBlock = some gb ∧ x = ⟨gb, q, none⟩ ∧ q < (row.xs.length + ys.length) * row.sz
  let g' : Gh := ⟨S', g.β, g.ρ.set r v', g.M⟩
  have hrl : r < g.ρ.length := by rw [h.lρ]; exact (List.getElem?_eq_some_iff.1 hr).1
  have hρr : g'.ρ[r]? = some v' := by simp [g', hrl]
  have hρo : ∀ (i : Nat) (b : Value), i ≠ r → g.ρ[i]? = some b → g'.ρ[i]? = some b := fun i b hi hb => by
    simp only [g']; rw [List.getElem?_set_ne (Ne.symm hi)]; exact hb
  have hρo' : ∀ (i : Nat) (b : Value), i ≠ r → g'.ρ[i]? = some b → g.ρ[i]? = some b := fun i b hi hb => by
    simp only [g'] at hb; rw [List.getElem?_set_ne (Ne.symm hi)] at hb; exact hb
  have hSS : ∀ x, g.S x → S' x := fun x hx => .inl hx
  have hvals : (vals ++ news).length = (row.xs.length + ys.length) * row.sz := hown'.1
  have hblk' : ∀ gb, v'.ownBlock = some gb → v.ownBlock = some gb ∨ (gb = w.heap.size ∧ w.grownBy w' none) := fun gb hgb => by
    rcases hblk with e | ⟨e, hn⟩
    · exact .inl (e ▸ hgb)
    · rw [e] at hgb; cases hgb; exact .inr ⟨rfl, hn⟩
  have hownb : ∀ gb, v'.ownBlock = some gb → c.own gb := fun gb hgb => by
    rcases hblk' gb hgb with e | ⟨e, _⟩
    · exact (hSr gb e).1
    · rw [e]; exact h.own0 _ h.below.size
  have kg : ∀ {v : Value} {d : D}, Rel w g v d → Rel w' g' v (purge r d) := fun hrel => purge_rel hrel hcell hSS (fun _ _ h => h) hρo (fun _ _ h => h)
  have ker : Keeps w g.er w' g'.er := ⟨hcell, hSS, fun i b h => by simp [Gh.er] at h, fun i b h => by simp [Gh.er] at h, fun _ _ h => h⟩
  have hone : ∀ x, S' x → ∃ u, w'.cell? x = some u := fun x hx => by
    rcases hx with hx | ⟨gb, q, hgb, rfl, hq⟩
    · obtain ⟨u, hu⟩ := h.good x hx
      exact ⟨u, (hcell x hx).trans hu⟩
    · have := hown'.cells hgb q _ (List.getElem?_eq_getElem (by rw [hvals]; exact hq))
      rw [add_block, Nat.zero_add] at this
      exact ⟨_, this⟩
  -- the new row reads as the longer list
  have hnewrel : Rel w' g' v' (.list (row.xs ++ ys)) := by
    have hall : ∀ x ∈ row.xs ++ ys, x.cells.length = row.sz := fun x hx => by
      rcases List.mem_append.1 hx with hx | hx
      · exact hxs x hx
      · exact hys x hx
    have hfl := flat_length row.sz _ hall
    have hfx := flat_length row.sz row.xs hxs
    obtain ⟨A0, c0, sz0, u0, hv0, _, hm0, hr0⟩ := e2.list_inv
    -- its value
    have hform : ∃ A' c', v' = .slice A' (row.xs ++ ys).length c' ∧ (row.xs ++ ys).length ≤ c' ∧ (0 < (flat (row.xs ++ ys)).length → ∃ gb, v'.ownBlock = some gb ∧ A' = some ⟨gb, 0, none⟩) := by
      rcases hown'.2 with ⟨rfl, h0⟩ | ⟨gb, cap, cur, rfl, _, _, hcap, _⟩
      · refine ⟨none, 0, by rw [List.length_append, h0], by rw [List.length_append, h0]; exact Nat.le_refl _, fun hp => ?_⟩
        rw [hfl, List.length_append, h0] at hp; simp at hp
      · exact ⟨some ⟨gb, 0, none⟩, cap, by rw [List.length_append], by rw [List.length_append]; exact hcap, fun _ => ⟨gb, rfl, rfl⟩⟩
    obtain ⟨A', c', hv'e, hcap', hpos⟩ := hform
    rw [hv'e]
    refine .list _ A' _ c' _ row.sz (fun q => (vals ++ news).getD q Go.undef) rfl hall hcap' (fun q hq => ?_) (fun q d hd => ?_)
    · obtain ⟨gb, hgb, rfl⟩ := hpos (by omega)
      have hq' : q < (vals ++ news).length := by rw [hvals, ← List.length_append, ← hfl]; exact hq
      have hc := hown'.cells hgb q _ (List.getElem?_eq_getElem hq')
      refine ⟨_, rfl, by rw [hc, List.getD_eq_getElem?_getD, List.getElem?_eq_getElem hq']; rfl, .inr ⟨gb, q, hgb, by rw [add_block, Nat.zero_add], by rw [hvals] at hq'; exact hq'⟩, ?_⟩
      rw [List.getD_eq_getElem?_getD]
      rcases Nat.lt_or_ge q vals.length with hlt | hge
      · rw [List.getElem?_append_left hlt]
        -- an old cell
        have hq0 : q < (flat row.xs).length := by rw [hfx, ← hvl]; exact hlt
        obtain ⟨ad0, hA0, hc0, _, h1⟩ := hm0 q hq0
        have hb0 : v.ownBlock = some ad0.block := by rw [hv0, hA0]; rfl
        have ho := hown.cells hb0 q _ (List.getElem?_eq_getElem hlt)
        have had : ad0 = ⟨ad0.block, 0, none⟩ := by
          rcases hown.2 with ⟨hx, _⟩ | ⟨g2, _, _, hx, _⟩
          · rw [hv0, hA0] at hx; cases hx
          · rw [hv0, hA0] at hx; cases hx; rfl
        rw [← had] at ho
        rw [ho] at hc0
        rw [← Option.some.inj hc0] at h1
        simpa [List.getElem?_eq_getElem hlt] using h1
      · rw [List.getElem?_append_right hge]
        have hlt2 : q - vals.length < news.length := by rw [List.length_append] at hq'; omega
        simp only [List.getElem?_eq_getElem hlt2, Option.getD_some]
        exact hn1 _ (List.getElem_mem _)
    · rw [flat_append] at hd
      have hvlx : vals.length = (flat row.xs).length := by rw [hfx, hvl]
      show Rel w' g'.er ((vals ++ news).getD q Go.undef) d
      rw [List.getD_eq_getElem?_getD]
      rcases Nat.lt_or_ge q vals.length with hlt | hge
      · rw [List.getElem?_append_left (by rw [← hvlx]; exact hlt)] at hd
        rw [List.getElem?_append_left hlt]
        obtain ⟨ad0, hA0, hc0, _, _⟩ := hm0 q (by rw [← hvlx]; exact hlt)
        have hb0 : v.ownBlock = some ad0.block := by rw [hv0, hA0]; rfl
        have ho := hown.cells hb0 q _ (List.getElem?_eq_getElem hlt)
        have had : ad0 = ⟨ad0.block, 0, none⟩ := by
          rcases hown.2 with ⟨hx, _⟩ | ⟨g2, _, _, hx, _⟩
          · rw [hv0, hA0] at hx; cases hx
          · rw [hv0, hA0] at hx; cases hx; rfl
        rw [← had] at ho
        rw [ho] at hc0
        have := (hr0 q d hd).keep ker
        rw [← Option.some.inj hc0] at this
        simpa [List.getElem?_eq_getElem hlt] using this
      · rw [List.getElem?_append_right (by rw [← hvlx]; exact hge), ← hvlx] at hd
        rw [List.getElem?_append_right hge]
        have hlt2 : q - vals.length < (flat ys).length := (List.getElem?_eq_some_iff.1 hd).1
        have := (hry _ d hd).keep ker
        simpa [news, hlt2] using this
  refine ⟨v', w', g', hrun, ?_, hρr⟩
  have holdb : ∀ (i : Nat) (x : Bx), (s.bx.map (purgeB r))[i]? = some x → ∃ x0, s.bx[i]? = some x0 ∧ x = purgeB r x0 := fun i x hx => by
    simp only [List.getElem?_map, Option.map_eq_some_iff] at hx
    obtain ⟨x0, h0, rfl⟩ := hx
    exact ⟨x0, h0, rfl⟩
  have hlive : ∀ x : Bx, (purgeB r x).live = x.live := fun x => by cases x <;> rfl
  have hboxne : ∀ (i : Nat) (x : Bx) (b : Nat), s.bx[i]? = some x → x.live = true → g.β[i]? = some b → v.ownBlock ≠ some b := fun i x b hi hx hb e => by
    have q1 := k1 i x b hi hx hb
    have q2 := k2 r row v b hr hl e1 e
    rw [q1] at q2; cases q2
  have hblkeep : ∀ b, b < w.heap.size → v.ownBlock ≠ some b → w'.heap[b]? = w.heap[b]? := fun b hb hne => hgr.block b hb (fun e => hne e.symm)
  have hS'b : ∀ x, S' x → ∀ b, b < w.heap.size → v.ownBlock ≠ some b → x.block = b → g.S x := fun x hx b hb hne hxb => by
    rcases hx with hx | ⟨gb, q, hgb, rfl, _⟩
    · exact hx
    · simp at hxb; subst hxb
      rcases hblk' gb hgb with e | ⟨e, _⟩
      · exact absurd e hne
      · omega
  refine ⟨(h.df.keep (fun k o hk ho => (hgr.block k (Array.getElem?_eq_some_iff.1 hk).1 (fun e => by
      rcases hown.2 with ⟨rfl, _⟩ | ⟨g2, _, _, rfl, _, hg2, _⟩
      · simp [Value.ownBlock] at e
      · simp [Value.ownBlock] at e
        subst e; rw [hg2] at hk; cases hk; cases ho)).trans hk) (fun x hx => hcell x (h.S0 x hx))).gh rfl, h.sz, h.below.grown hgr (fun q hq => .inl (h.rowlt hr hl e1 hq).2), h.own0, hone, fun x hx => ?_, fun x hx => .inl (h.S0 x hx), h.good0, by simp [St.appended, g', h.lβ],
    by simp [St.appended, g', h.lρ], fun n => kg (h.sl n), ?_, ?_, ?_, ?_⟩
  · rcases hx with hx | ⟨gb, q, hgb, rfl, _⟩
    · exact h.from0 x hx
    · exact .inr (hownb gb hgb)
  · intro i cs hi
    obtain ⟨x0, hx0, hx⟩ := holdb i _ hi
    cases x0 with
    | mu cs0 =>
      cases hx
      obtain ⟨b, vs, tb, f1, f2, f3, f4, f5, f6⟩ := (h.bx i cs0 hx0).ex
      have hlt : b < w.heap.size := (Array.getElem?_eq_some_iff.1 f2).1
      have hne := hboxne i _ b hx0 rfl f1
      refine ⟨b, vs, tb, f1, (hblkeep b hlt hne).trans f2, ⟨by simpa using f3.1, fun q d hd => ?_⟩, f4, fun _ x hx hxb => ?_, fun h => by cases h⟩
      · simp only [List.getElem?_map, Option.map_eq_some_iff] at hd
        obtain ⟨d0, hd0, rfl⟩ := hd
        exact ⟨kg (f3.2 q d0 hd0).1, (f3.2 q d0 hd0).2⟩
      · exact f5 rfl x (hS'b x hx b hlt hne hxb) hxb
    | fz cs0 => cases hx
    | dead => cases hx
  · intro i cs hi
    obtain ⟨x0, hx0, hx⟩ := holdb i _ hi
    cases x0 with
    | fz cs0 =>
      cases hx
      obtain ⟨b, vs, tb, f1, f2, f3, f4, f5, f6⟩ := (h.fz i cs hx0).ex
      have hlt : b < w.heap.size := (Array.getElem?_eq_some_iff.1 f2).1
      have hne := hboxne i _ b hx0 rfl f1
      exact ⟨b, vs, tb, f1, (hblkeep b hlt hne).trans f2, f3.keep ker, f4, (fun h => by cases h), fun _ q hq => .inl (f6 rfl q hq)⟩
    | mu cs0 => cases hx
    | dead => cases hx
  · intro r2 row2 hr2
    by_cases hrr : r2 = r
    · subst hrr
      simp only [St.appended] at hr2
      rw [List.getElem?_set_self (List.getElem?_eq_some_iff.1 hr).1] at hr2
      cases hr2
      refine ⟨v', hρr, hnewrel, fun _ => ⟨⟨vals ++ news, by simpa using hown'⟩, fun x hx => ?_, fun gb hgb => ⟨?_, fun x hx hxb => ?_⟩⟩⟩
      · rcases List.mem_append.1 hx with hx | hx
        · exact hxs x hx
        · exact hys x hx
      · exact hownb gb hgb
      · simp only [List.length_append]
        rcases hx with hx | ⟨gb', q, hgb', rfl, hq⟩
        · rcases hblk' gb hgb with e | ⟨e, _⟩
          · have := (hSr gb e).2 x hx hxb
            have : row.xs.length * row.sz ≤ (row.xs.length + ys.length) * row.sz := Nat.mul_le_mul_right _ (Nat.le_add_right _ _)
            omega
          · have := h.good.lt hx
            omega
        · exact hq
    · simp only [St.appended] at hr2
      rw [List.getElem?_set_ne (Ne.symm hrr)] at hr2
      obtain ⟨v2, f1, f2, f3⟩ := (h.rw r2 row2 hr2).ex
      refine ⟨v2, hρo _ _ hrr f1, f2.keepBut hcell hSS (fun _ _ h => h) hρo (fun _ _ h => h) rfl, fun hl2 => ?_⟩
      obtain ⟨⟨vals2, hown2⟩, hcl2, hS2⟩ := f3 hl2
      have hne2 : ∀ gb, v2.ownBlock = some gb → v.ownBlock ≠ some gb := fun gb hgb e => by
        have q1 := k2 r2 row2 v2 gb hr2 hl2 f1 hgb
        have q2 := k2 r row v gb hr hl e1 e
        rw [q1] at q2; injection q2 with q2; exact hrr q2
      refine ⟨⟨vals2, hown2.kept hgr ?_⟩, hcl2, fun gb hgb => ⟨(hS2 gb hgb).1, fun x hx hxb => ?_⟩⟩
      · cases hv2 : v2.ownBlock with
        | none => exact .inl rfl
        | some gb => exact .inr (fun e => hne2 gb hv2 e.symm)
      · exact (hS2 gb hgb).2 x (hS'b x hx gb (hown2.lt gb hgb).2 (hne2 gb hgb) hxb) hxb
  · refine ⟨fun b => if v'.ownBlock = some b then .inr r else κ b, fun i x b hi hx hb => ?_, fun r2 row2 v2 gb hr2 hl2 hv2 hgb => ?_⟩
    · obtain ⟨x0, hx0, rfl⟩ := holdb i _ hi
      rw [hlive] at hx
      have hlt := (h.boxlt hx0 hx hb).1
      have hne := hboxne i x0 b hx0 hx hb
      simp only
      rw [if_neg (fun e => by
        rcases hblk' b e with e | ⟨e, _⟩
        · exact hne e
        · omega)]
      exact k1 i x0 b hx0 hx hb
    · by_cases hrr : r2 = r
      · subst hrr
        rw [hρr] at hv2; cases hv2
        simp only
        rw [if_pos hgb]
      · simp only [St.appended] at hr2
        rw [List.getElem?_set_ne (Ne.symm hrr)] at hr2
        have hv2' := hρo' _ _ hrr hv2
        have q1 := k2 r2 row2 v2 gb hr2 hl2 hv2' hgb
        have hlt := (h.rowlt hr2 hl2 hv2' hgb).1
        simp only
        rw [if_neg (fun e => by
          rcases hblk' gb e with e | ⟨e, _⟩
          · have q2 := k2 r row v gb hr hl e1 e
            rw [q1] at q2; injection q2 with q2; exact hrr q2
          · omega)]
        exact q1
end
end Go.Ab
end
section
namespace Go.Ab
open Go.RowKit
def mapOf (P : Program) (t : TypeId) : Option (TypeId × TypeId) := match P.underlying t with | some (.map k e) => some (k, e) | _ => none
/-- The zero value of a type, as one datum. -/
def zeroV (P : Program) (t : TypeId) : Option D := match P.info? t with
  | some i => match i.zero with
    | some (.agg vs) => if vs.all (·.oneCell') then some (.agg (vs.toList.map constD)) else none
    | some v => some (constD v)
    | none => none
  | none => none
def keyInts : Bool → D → Option (List Int)
  | true, .agg cs => intsOf cs
  | false, .int .i64 n => some [n]
  | _, _ => none
/-- What is asked of a type of keys that are so many integers. -/
structure KeyOk (P : Program) (kt : TypeId) (ka : Bool) (n : Nat) : Prop where
  check : ∀ (e : Bool) (xs : List Int) (w : World), xs.length = n → (Instr.checkKey e 10000 kt (mkV ka xs)).run P w = .ok () w
  find : ∀ (xs : List Int) (es : List MapEntry) (w : World), xs.length = n → (∀ e ∈ es, ∃ ys : List Int, ys.length = n ∧ e.key = mkV ka ys) →
    ∃ r, (Instr.findKey kt (mkV ka xs) es).run P w = .ok r w ∧ ((r = none ∧ ∀ e ∈ es, e.key ≠ mkV ka xs) ∨ ∃ i e, es[i]? = some e ∧ e.key = mkV ka xs ∧ r = some (i, e.val))
  inj : ∀ (xs ys : List Int), xs.length = n → ys.length = n → mkV ka xs = mkV ka ys → xs = ys
theorem stays_ok {P : Program} (ka : Bool) (xs : List Int) (w : World) : (Instr.keyThatStays (mkV ka xs) (mkV ka xs)).run P w = .ok (mkV ka xs) w := by
  have : Instr.sameBits 10000 (mkV ka xs) (mkV ka xs) = true := by
    cases ka with
    | false => simp [mkV, Instr.sameBits]
    | true =>
      simp only [mkV, Instr.sameBits, Bool.and_eq_true, beq_self_eq_true, true_and]
      have : ∀ l : List Int, (((l.map (Value.int .i64)).zip (l.map (Value.int .i64))).all fun (x, y) => Instr.sameBits 9999 x y) = true := by
        intro l
        induction l with
        | nil => rfl
        | cons x l ih => simp only [List.map_cons, List.zip_cons_cons, List.all_cons, ih, Bool.and_true]; simp [Instr.sameBits]
      exact this xs
  simp [Instr.keyThatStays, this]
section
variable {c : Ctx} {s : St} {a : Act} {w : World} {g : Gh}
theorem keyInts_rel {ka : Bool} {v : Value} {d : D} {xs : List Int} (h : Rel w g v d) (hk : keyInts ka d = some xs) : v = mkV ka xs := by
  cases ka <;> cases d <;> simp only [keyInts, reduceCtorEq] at hk
  · rename_i k n
    cases k <;> simp only [Option.some.injEq, reduceCtorEq] at hk
    subst hk
    cases h; rfl
  · obtain ⟨vs, rfl, l1, r1⟩ := h.agg_inv
    rw [intsOf_rel _ vs xs hk l1 (fun q d hd => (r1 q d hd).1)]; rfl
theorem mkD_rel (w : World) (g : Gh) (va : Bool) (xs : List Int) : Rel w g (mkV va xs) (mkD va xs) := by
  cases va with
  | false => exact .int _ _ _
  | true =>
    refine .agg _ _ _ (by simp) (fun q hq => ?_) (fun q d hd => ?_)
    · have : q < xs.length := by simpa using hq
      simp [this, Value.oneCell']
    · simp only [List.getElem?_map, Option.map_eq_some_iff] at hd
      obtain ⟨x, hx, rfl⟩ := hd
      have hl := (List.getElem?_eq_some_iff.1 hx).1
      have he := (List.getElem?_eq_some_iff.1 hx).2
      simp [hl, he]
      exact .int _ _ _
theorem rel_mkV {va : Bool} {v : Value} {xs : List Int} (h : Rel w g v (mkD va xs)) : v = mkV va xs := by
  cases va with
  | false => cases h; rfl
  | true =>
    have h' : Rel w g v (.agg (xs.map (D.int .i64))) := h
    obtain ⟨vs, rfl, l1, r1⟩ := h'.agg_inv
    have hi : ∀ l : List Int, intsOf (l.map (D.int .i64)) = some l := by
      intro l; induction l with
      | nil => rfl
      | cons x l ih => simp [intsOf, ih]
    rw [intsOf_rel _ vs xs (hi xs) l1 (fun q d hd => (r1 q d hd).1)]; rfl
theorem mkE_rel (w : World) (g : Gh) (va : VK) (xs : List Int) : Rel w g (mkW va xs) (mkE va xs) := by
  cases va with
  | num => exact mkD_rel w g false xs
  | arr => exact mkD_rel w g true xs
  | yes => exact .bool _ _
theorem rel_mkW {va : VK} {v : Value} {xs : List Int} (h : Rel w g v (mkE va xs)) : v = mkW va xs := by
  cases va with
  | num => exact rel_mkV (va := false) h
  | arr => exact rel_mkV (va := true) h
  | yes => cases h; rfl
theorem zeroV_run {P : Program} {t : TypeId} {d : D} (h : zeroV P t = some d) (w : World) (g : Gh) : ∃ z, (zeroValue t).run P w = .ok z w ∧ Rel w g z d := by
  unfold zeroV at h
  split at h
  · rename_i i hi
    split at h
    · rename_i vs hz
      split at h
      · rename_i hall
        cases h
        refine ⟨.agg vs, by simp [zeroValue, typeInfo, hi, hz], .agg _ _ _ (by simp) (fun q hq => ?_) (fun q d hd => ?_)⟩
        · have hq' : q < vs.size := by simpa using hq
          have := Array.all_eq_true.1 hall q hq'
          simpa [hq'] using this
        · simp only [List.getElem?_map, Array.getElem?_toList, Option.map_eq_some_iff] at hd
          obtain ⟨v, hv, rfl⟩ := hd
          obtain ⟨hl, he⟩ := Array.getElem?_eq_some_iff.1 hv
          simp [hl, he]
          exact rel_const _ _ _
      · cases h
    · rename_i v hz
      cases h
      exact ⟨_, by simp [zeroValue, typeInfo, hi, hz], rel_const _ _ _⟩
    · cases h
  · cases h
/-- The world at which a map has turned. -/
theorem RG.memoSet {b : Nat} {m : Memo} {es : Array MapEntry} {cl : Nat} (h : RG c s a w g) (hb : g.M b = some m) (hes : ∀ e ∈ es.toList, ∃ xs : List Int, xs.length = m.n ∧ e.key = mkV m.ka xs ∧ e.val = mkW m.va (m.f xs)) (hdm : ∀ k ∈ m.dom, ∃ e ∈ es.toList, e.key = mkV m.ka k) :
    RG c s a { w with heap := w.heap.setIfInBounds b (.map es cl) } g := by
  have hh : ∀ k, k ≠ b → (w.heap.setIfInBounds b (.map es cl))[k]? = w.heap[k]? := fun k hk => by
    rw [Array.getElem?_setIfInBounds, if_neg (Ne.symm hk)]
  obtain ⟨es0, cl0, h1, _⟩ := h.df.mok b m hb
  have hlt := (Array.getElem?_eq_some_iff.1 h1).1
  have hgood : Good { w with heap := w.heap.setIfInBounds b (.map es cl) } g.S := fun x hx => by
    obtain ⟨u, hu⟩ := h.good x hx
    obtain ⟨cs, t, fz, hc⟩ := cell_cells hu
    refine ⟨u, (World.cell?_of_block (w := w) (hh x.block (fun e => ?_))).trans hu⟩
    rw [e, h1] at hc; cases hc
  refine h.grow (S' := g.S) (M' := g.M) ⟨⟨rfl, rfl, rfl, by simp, fun k hk hn => hh k (fun e => by subst e; rw [hb] at hn; exact hn (by simp))⟩, fun _ h => h, fun _ h => .inl h, fun _ _ h => h, fun _ _ h => .inl h, fun b' m' hb' => ?_⟩ hgood
  by_cases e : b' = b
  · subst e
    rw [hb] at hb'; cases hb'
    exact ⟨es, cl, by simp [hlt], hes, hdm⟩
  · obtain ⟨es', cl', h1', h2'⟩ := h.df.mok b' m' hb'
    exact ⟨es', cl', (hh b' e).trans h1', h2'⟩
theorem RG.memoNew {m : Memo} (h : RG c s a w g) (hm0 : m.dom = []) : ∃ M', RG c s a (w.alloc (.map #[] 0)) ⟨g.S, g.β, g.ρ, M'⟩ ∧ M' w.heap.size = some m := by
  have hb := below_alloc w (.map #[] 0)
  have hnew : (w.alloc (.map #[] 0)).heap[w.heap.size]? = some (.map #[] 0) := World.alloc_heap_new w _
  refine ⟨fun k => if k = w.heap.size then some m else g.M k, h.grow ⟨.of hb, fun _ h => h, fun _ h => .inl h, fun b f hf => ?_, fun b f hf => ?_, fun b f hf => ?_⟩ (h.good.below hb), by simp⟩
  · have : b ≠ w.heap.size := fun e => by
      subst e
      obtain ⟨_, _, h1, _⟩ := h.df.mok _ f hf
      have := (Array.getElem?_eq_some_iff.1 h1).1
      omega
    simp only [this, if_false]; exact hf
  · by_cases e : b = w.heap.size
    · exact .inr (by omega)
    · simp only [e, if_false] at hf; exact .inl hf
  · by_cases e : b = w.heap.size
    · subst e
      cases (by simpa using hf : m = f)
      exact ⟨#[], 0, hnew, fun e he => by simp at he, fun k hk => by rw [hm0] at hk; cases hk⟩
    · simp only [e, if_false] at hf
      obtain ⟨es, cl, h1, h2⟩ := h.df.mok b f hf
      exact ⟨es, cl, (hb.block b (Array.getElem?_eq_some_iff.1 h1).1).trans h1, h2⟩
def wLookup (P : Program) (t : TypeId) (x dk : D) (K : D → Prop) : Prop := match x with
  | .memo m => wOpt (mapOf P t) fun ke => wOpt (keyInts m.ka dk) fun xs => xs.length = m.n ∧ KeyOk P ke.1 m.ka m.n ∧ wOpt (zeroV P ke.2) fun z => K (.tup [mkE m.va (m.f xs), .bool true]) ∧ (xs ∉ m.dom → K (.tup [z, .bool false]))
  | _ => False
def wLookup1 (P : Program) (t : TypeId) (x dk : D) (K : D → Prop) : Prop := match x with
  | .memo m => wOpt (mapOf P t) fun ke => wOpt (keyInts m.ka dk) fun xs => xs.length = m.n ∧ KeyOk P ke.1 m.ka m.n ∧ wOpt (zeroV P ke.2) fun z => K (mkE m.va (m.f xs)) ∧ (xs ∉ m.dom → K z)
  | _ => False
def wMapUp (P : Program) (t : TypeId) (x dk dv : D) (K : Prop) : Prop := match x with
  | .memo m => wOpt (mapOf P t) fun ke => wOpt (keyInts m.ka dk) fun xs => xs.length = m.n ∧ KeyOk P ke.1 m.ka m.n ∧ dv = mkE m.va (m.f xs) ∧ K
  | _ => False
theorem mapOf_u {P : Program} {t k e : TypeId} (h : mapOf P t = some (k, e)) : P.underlying t = some (.map k e) := by
  unfold mapOf at h; split at h <;> simp_all
theorem s_lookup {o : Oper} {t : TypeId} {x y : Operand} {K : St → Prop} {Q : Exit → Act → World → Prop} (h : RG c s a w g) (ho : o.op = .lookup t x y true) (hd : dstOk s o.dst)
    (hk : wLookup c.P t (s.ev x) (s.ev y) fun d => K (s.put o.dst d)) : o.wp c.P a w (fun a' w' => ∃ s', R c s' a' w' ∧ K s') Q := by
  unfold wLookup at hk
  split at hk
  · rename_i m hx
    obtain ⟨⟨kt, e⟩, hm, hk⟩ := wOpt_some hk
    obtain ⟨xs, hxs, hl, hK, hk⟩ := wOpt_some hk
    obtain ⟨z, hz, h1, h2⟩ := wOpt_some hk
    have hxr := h.ev x
    rw [hx] at hxr
    generalize hv : a.eval x = vx at hxr
    cases hxr with
    | memo _ b _ hb =>
      obtain ⟨es, cl, hes, hall, hdom⟩ := h.df.mok b m hb
      have hky := keyInts_rel (h.ev y) hxs
      obtain ⟨r, hr, hcase⟩ := hK.find xs es.toList w hl (fun e he => by obtain ⟨ys, h1, h2, _⟩ := hall e he; exact ⟨ys, h1, h2⟩)
      obtain ⟨zv, hzr, hzrel⟩ := zeroV_run hz w g
      have hu := mapOf_u hm
      have key : ∀ v d, (Instr.lookup t (.map (some b)) (mkV m.ka xs) true).run c.P w = .ok v w → Rel w g v d → K (s.put o.dst d) → o.wp c.P a w (fun a' w' => ∃ s', R c s' a' w' ∧ K s') Q := fun v d hrun hrel hk => by
        have hex : (execOp a.eval o).run c.P w = .ok (.value v) w := by
          simp [execOp, ho, hv, hky, hrun]
        unfold Oper.wp
        rw [hex]
        exact ⟨_, ⟨g, h.put hd hrel⟩, hk⟩
      have hck := fun e => hK.check e xs w hl
      rcases hcase with ⟨rfl, hnone⟩ | ⟨i, e0, he0, hke, rfl⟩
      · refine key (.tuple #[zv, .bool false]) _ ?_ (.tup _ _ _ rfl (fun q d hd => ?_)) (h2 (fun hh => by obtain ⟨e, he, hk⟩ := hdom xs hh; exact hnone e he hk))
        · simp [Instr.lookup, run_underlying hu, MapKept.run_getObj_map hes, hck, hr, hzr]
        · match q, hd with
          | 0, hd => cases hd; exact hzrel
          | 1, hd => cases hd; exact .bool _ _
      · have hmem : e0 ∈ es.toList := List.mem_of_getElem? he0
        obtain ⟨ys, hy1, hy2, hy3⟩ := hall e0 hmem
        have : ys = xs := hK.inj ys xs hy1 hl (hy2.symm.trans hke)
        subst this
        refine key (.tuple #[e0.val, .bool true]) _ ?_ (.tup _ _ _ rfl (fun q d hd => ?_)) h1
        · simp [Instr.lookup, run_underlying hu, MapKept.run_getObj_map hes, hck, hr]
        · match q, hd with
          | 0, hd => cases hd; rw [show (#[e0.val, Value.bool true] : Array Value).getD 0 Go.undef = e0.val from rfl, hy3]; exact mkE_rel _ _ _ _
          | 1, hd => cases hd; exact .bool _ _
  · exact hk.elim
theorem s_lookup1 {o : Oper} {t : TypeId} {x y : Operand} {K : St → Prop} {Q : Exit → Act → World → Prop} (h : RG c s a w g) (ho : o.op = .lookup t x y false) (hd : dstOk s o.dst)
    (hk : wLookup1 c.P t (s.ev x) (s.ev y) fun d => K (s.put o.dst d)) : o.wp c.P a w (fun a' w' => ∃ s', R c s' a' w' ∧ K s') Q := by
  unfold wLookup1 at hk
  split at hk
  · rename_i m hx
    obtain ⟨⟨kt, e⟩, hm, hk⟩ := wOpt_some hk
    obtain ⟨xs, hxs, hl, hK, hk⟩ := wOpt_some hk
    obtain ⟨z, hz, h1, h2⟩ := wOpt_some hk
    have hxr := h.ev x
    rw [hx] at hxr
    generalize hv : a.eval x = vx at hxr
    cases hxr with
    | memo _ b _ hb =>
      obtain ⟨es, cl, hes, hall, hdom⟩ := h.df.mok b m hb
      have hky := keyInts_rel (h.ev y) hxs
      obtain ⟨r, hr, hcase⟩ := hK.find xs es.toList w hl (fun e he => by obtain ⟨ys, h1, h2, _⟩ := hall e he; exact ⟨ys, h1, h2⟩)
      obtain ⟨zv, hzr, hzrel⟩ := zeroV_run hz w g
      have hu := mapOf_u hm
      have key : ∀ v d, (Instr.lookup t (.map (some b)) (mkV m.ka xs) false).run c.P w = .ok v w → Rel w g v d → K (s.put o.dst d) → o.wp c.P a w (fun a' w' => ∃ s', R c s' a' w' ∧ K s') Q := fun v d hrun hrel hk => by
        have hex : (execOp a.eval o).run c.P w = .ok (.value v) w := by
          simp [execOp, ho, hv, hky, hrun]
        unfold Oper.wp
        rw [hex]
        exact ⟨_, ⟨g, h.put hd hrel⟩, hk⟩
      have hck := fun e => hK.check e xs w hl
      rcases hcase with ⟨rfl, hnone⟩ | ⟨i, e0, he0, hke, rfl⟩
      · refine key zv _ ?_ hzrel (h2 (fun hh => by obtain ⟨e, he, hk⟩ := hdom xs hh; exact hnone e he hk))
        simp [Instr.lookup, run_underlying hu, MapKept.run_getObj_map hes, hck, hr, hzr]
      · have hmem : e0 ∈ es.toList := List.mem_of_getElem? he0
        obtain ⟨ys, hy1, hy2, hy3⟩ := hall e0 hmem
        have : ys = xs := hK.inj ys xs hy1 hl (hy2.symm.trans hke)
        subst this
        refine key e0.val _ ?_ (by rw [hy3]; exact mkE_rel _ _ _ _) h1
        simp [Instr.lookup, run_underlying hu, MapKept.run_getObj_map hes, hck, hr]
  · exact hk.elim
theorem s_mapUpdate {o : Oper} {t : TypeId} {x y z : Operand} {K : St → Prop} {Q : Exit → Act → World → Prop} (h : RG c s a w g) (ho : o.op = .mapUpdate t x y z) (hd : o.dst = none)
    (hk : wMapUp c.P t (s.ev x) (s.ev y) (s.ev z) (K s)) : o.wp c.P a w (fun a' w' => ∃ s', R c s' a' w' ∧ K s') Q := by
  unfold wMapUp at hk
  split at hk
  · rename_i m hx
    obtain ⟨⟨kt, e⟩, hm, hk⟩ := wOpt_some hk
    obtain ⟨xs, hxs, hl, hK, hdv, hk⟩ := wOpt_some hk
    have hxr := h.ev x
    rw [hx] at hxr
    generalize hv : a.eval x = vx at hxr
    cases hxr with
    | memo _ b _ hb =>
      obtain ⟨es, cl, hes, hall, hdom⟩ := h.df.mok b m hb
      have hky := keyInts_rel (h.ev y) hxs
      have hzv : a.eval z = mkW m.va (m.f xs) := rel_mkW (hdv ▸ h.ev z)
      obtain ⟨r, hr, hcase⟩ := hK.find xs es.toList w hl (fun e he => by obtain ⟨ys, h1, h2, _⟩ := hall e he; exact ⟨ys, h1, h2⟩)
      have hu := mapOf_u hm
      have hck := fun e => hK.check e xs w hl
      have key : ∀ es' cl', (Instr.mapUpdate t (.map (some b)) (mkV m.ka xs) (mkW m.va (m.f xs))).run c.P w = .ok () { w with heap := w.heap.setIfInBounds b (.map es' cl') } →
          (∀ e ∈ es'.toList, ∃ xs : List Int, xs.length = m.n ∧ e.key = mkV m.ka xs ∧ e.val = mkW m.va (m.f xs)) → (∀ k ∈ m.dom, ∃ e ∈ es'.toList, e.key = mkV m.ka k) → o.wp c.P a w (fun a' w' => ∃ s', R c s' a' w' ∧ K s') Q := fun es' cl' hrun hes' hdm' => by
        have hex : (execOp a.eval o).run c.P w = .ok .skip { w with heap := w.heap.setIfInBounds b (.map es' cl') } := by
          simp [execOp, ho, hv, hky, hzv, hrun]
        unfold Oper.wp
        rw [hex]
        refine ⟨s, ⟨g, ?_⟩, hk⟩
        have := h.memoSet (cl := cl') hb hes' hdm'
        rw [hd]
        exact this
      rcases hcase with ⟨rfl, hnone⟩ | ⟨i, e0, he0, hke, rfl⟩
      · refine key (es.push { key := mkV m.ka xs, val := mkW m.va (m.f xs), born := cl }) (cl + 1) ?_ (fun e he => ?_) (fun k hk => by obtain ⟨e, he, hk⟩ := hdom k hk; exact ⟨e, by simp only [Array.toList_push, List.mem_append]; exact .inl he, hk⟩)
        · simp [Instr.mapUpdate, run_underlying hu, MapKept.run_getObj_map hes, hck, hr, MapKept.run_setObj_map _ hes]
        · simp only [Array.toList_push, List.mem_append, List.mem_singleton] at he
          rcases he with he | rfl
          · exact hall e he
          · exact ⟨xs, hl, rfl, rfl⟩
      · have hi : es[i]? = some e0 := by simpa using he0
        have hst := stays_ok (P := c.P) m.ka xs w
        refine key (es.modify i fun e => { e with key := mkV m.ka xs, val := mkW m.va (m.f xs) }) cl ?_ (fun e he => ?_) (fun k hk => by
          obtain ⟨e, he, hk⟩ := hdom k hk
          obtain ⟨q, hq, rfl⟩ := List.getElem_of_mem he
          have hq' : q < es.size := by simpa using hq
          refine ⟨(es.modify i fun e => { e with key := mkV m.ka xs, val := mkW m.va (m.f xs) })[q]'(by simpa using hq'), Array.mem_toList_iff.2 (Array.getElem_mem _), ?_⟩
          simp only [Array.getElem_modify]
          split
          · rename_i e; subst e
            have : es.toList[i] = e0 := by have := (List.getElem?_eq_some_iff.1 he0).2; exact this
            rw [← hk, this, hke]
          · simpa using hk)
        · simp [Instr.mapUpdate, run_underlying hu, MapKept.run_getObj_map hes, hck, hr, hi, hke, hst, MapKept.run_setObj_map _ hes]
        · obtain ⟨q, hq, rfl⟩ := List.getElem_of_mem he
          have hq' : q < es.size := by simpa using hq
          simp only [Array.getElem_toList, Array.getElem_modify]
          split
          · exact ⟨xs, hl, rfl, rfl⟩
          · exact hall _ (by simp)
  · exact hk.elim
theorem s_makeMap {o : Oper} {t : TypeId} {K : St → Prop} {Q : Exit → Act → World → Prop} (h : RG c s a w g) (ho : o.op = .makeMap t none) (hd : dstOk s o.dst)
    (hk : ∃ m : Memo, m.dom = [] ∧ K (s.put o.dst (.memo m))) : o.wp c.P a w (fun a' w' => ∃ s', R c s' a' w' ∧ K s') Q := by
  obtain ⟨m, hm0, hk⟩ := hk
  obtain ⟨M', h', hM⟩ := h.memoNew (m := m) hm0
  have hex : (execOp a.eval o).run c.P w = .ok (.value (.map (some w.heap.size))) (w.alloc (.map #[] 0)) := by
    simp [execOp, ho, Instr.makeMap]
  unfold Oper.wp
  rw [hex]
  exact ⟨_, ⟨_, h'.put hd (.memo _ _ _ hM)⟩, hk⟩
end
end Go.Ab
end
