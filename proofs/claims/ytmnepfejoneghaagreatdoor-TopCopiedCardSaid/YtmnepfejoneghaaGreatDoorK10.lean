import Derived.Test.YtmnepfejoneghaaGreatDoorK09
import Derived.Test.YtmnepfejoneghaaGreatDoorK08
set_option linter.unusedVariables false
set_option linter.unusedSimpArgs false
namespace Go.Ab
open Go.RowKit
/-!
  A slice that is built is a row of one's own: regions that draw their order and end in it.
-/
section
variable {c : Ctx} {s : St} {a : Act} {w : World} {g : Gh}
theorem RG.pushRow {v : Value} {row : Row} (h : RG c s a w g) (hv : Rel w g v (.list row.xs)) (how : ∃ vals, w.ownsRow 0 row.e row.sz v row.xs.length vals) (hsz : ∀ x ∈ row.xs, x.cells.length = row.sz)
    (hown : ∀ gb, v.ownBlock = some gb → c.own gb ∧ (∀ x, g.S x → x.block = gb → x.off < row.xs.length * row.sz) ∧ (∀ (i b : Nat), g.β[i]? = some b → (∃ x : Bx, s.bx[i]? = some x ∧ x.live = true) → b ≠ gb) ∧
      ∀ (r : Nat) (row' : Row) (v' : Value), s.rw[r]? = some row' → row'.live = true → g.ρ[r]? = some v' → v'.ownBlock ≠ some gb) :
    RG c { s with rw := s.rw ++ [row] } a w ⟨g.S, g.β, g.ρ ++ [v], g.M⟩ := by
  have k : Keeps w g w ⟨g.S, g.β, g.ρ ++ [v], g.M⟩ := ⟨fun _ _ => rfl, fun _ h => h, fun _ _ h => h, fun i b hi => by
    rw [List.getElem?_append_left (List.getElem?_eq_some_iff.1 hi).1]; exact hi, fun _ _ h => h⟩
  have hold : ∀ (i : Nat) (x : Row), (s.rw ++ [row])[i]? = some x → s.rw[i]? = some x ∧ i < s.rw.length ∨ x = row ∧ i = s.rw.length := fun i x hi => by
    rcases Nat.lt_or_ge i s.rw.length with hlt | hge
    · rw [List.getElem?_append_left hlt] at hi; exact .inl ⟨hi, hlt⟩
    · rw [List.getElem?_append_right hge] at hi
      have : i - s.rw.length = 0 := by have := (List.getElem?_eq_some_iff.1 hi).1; simp at this; omega
      rw [this] at hi; simp at hi; exact .inr ⟨hi.symm, by omega⟩
  have hn : (g.ρ ++ [v])[s.rw.length]? = some v := by rw [← h.lρ]; simp
  refine ⟨h.df.gh rfl, h.sz, h.below, h.own0, h.good, h.from0, h.S0, h.good0, h.lβ, by simp [h.lρ], fun n => (h.sl n).keep k, ?_, ?_, ?_, ?_⟩
  · intro i cs hi
    obtain ⟨b, vs, t, e1, e2, e3, e4, e5, e6⟩ := (h.bx i cs hi).ex
    exact ⟨b, vs, t, e1, e2, e3.keep k, e4, e5, e6⟩
  · intro i cs hi
    obtain ⟨b, vs, t, e1, e2, e3, e4, e5, e6⟩ := (h.fz i cs hi).ex
    exact ⟨b, vs, t, e1, e2, e3, e4, e5, e6⟩
  · intro r row' hr
    rcases hold r _ hr with ⟨hr, _⟩ | ⟨rfl, rfl⟩
    · obtain ⟨v, e1, e2, e3⟩ := (h.rw r row' hr).ex
      exact ⟨v, k.ρ _ _ e1, e2.keep k, e3⟩
    · exact ⟨_, hn, hv.keep k, fun _ => ⟨how, hsz, fun gb hgb => ⟨(hown gb hgb).1, (hown gb hgb).2.1⟩⟩⟩
  · obtain ⟨κ, k1, k2⟩ := h.ap
    refine ⟨fun b => if v.ownBlock = some b then .inr s.rw.length else κ b, fun i x b hi hx hb => ?_, fun r row' v' gb hr hl hv' hgb => ?_⟩
    · have : ¬ v.ownBlock = some b := fun e => (hown b e).2.2.1 i b hb ⟨x, hi, hx⟩ rfl
      simp only [if_neg this]
      exact k1 i x b hi hx hb
    · rcases hold r _ hr with ⟨hr, hlt⟩ | ⟨rfl, rfl⟩
      · rw [List.getElem?_append_left (by rw [h.lρ]; exact hlt)] at hv'
        have : ¬ v.ownBlock = some gb := fun e => (hown gb e).2.2.2 r row' v' hr hl hv' hgb
        simp only [if_neg this]
        exact k2 r row' v' gb hr hl hv' hgb
      · rw [hn] at hv'; cases hv'
        simp only [hgb, if_true]
theorem s_buildRow {t : TypeId} {n : Nat} {ps : Array (Nat × Operand)} {o : Oper} {K : St → Prop} {Q : Exit → Act → World → Prop} (h : RG c s a w g) (ho : o.op = .buildSlice t n ps) (hd : dstOk s o.dst)
    (hk : wOpt (elemOf c.P t) fun e => szOf c.P e ≠ 0 ∧ n * szOf c.P e ≤ 16777216 ∧ (zeroD c.P e).isSome = true ∧ ps.toList.map (·.1) = List.range n ∧
      wOpt (pureDs s.bx s.rw (ps.toList.map fun p => s.ev p.2)) fun ds => (∀ d ∈ ds, d.cells.length = szOf c.P e ∧ d.cells.all D.one = true) ∧ K (St.put { s with rw := s.rw ++ [⟨true, e, szOf c.P e, ds⟩] } o.dst (.own s.rw.length))) :
    o.wp c.P a w (fun a' w' => ∃ s', R c s' a' w' ∧ K s') Q := by
  obtain ⟨e, he, hz, hle, hzo, hps, hk⟩ := wOpt_some hk
  obtain ⟨ds, hp, hds, hk⟩ := wOpt_some hk
  obtain ⟨zs, hzs⟩ := Option.isSome_iff_exists.1 hzo
  obtain ⟨z, hzr, hzc, i, hi, hisz⟩ := zeroD_run hzs w g
  obtain ⟨e1, e2⟩ := pureDs_get hp
  have hn : ps.toList.length = n := by have := congrArg List.length hps; simpa using this
  have hdl : ds.length = n := by rw [e1]; simpa using hn
  have hzl : zs.length = szOf c.P e := by simp [szOf, Program.cellsOf, hi, hisz]
  have hzcs : z.cells.size = szOf c.P e := by rw [hzc.1, hzl]
  -- the parts, each with its datum
  let l : List (Nat × Value × D) := (List.range n).zip ((ps.toList.map fun p => a.eval p.2).zip ds)
  have hl1 : (l.map fun t => (t.1, t.2.1)) = ps.toList.map fun p => (p.1, a.eval p.2) := by
    apply List.ext_getElem
    · simp [l, hn, hdl]
    · intro q h1 h2
      simp [l]
      have h3 : q < ps.toList.length := by simpa using h2
      have := congrArg (fun l => l[q]?) hps
      simp only [List.getElem?_map] at this
      rw [List.getElem?_eq_getElem h3, List.getElem?_range (by rw [← hn]; exact h3)] at this
      simp at this
      exact this.symm
  have hl2 : (l.map fun t => (t.1, t.2.2)) = (List.range' 0 ds.length).zip ds := by
    apply List.ext_getElem
    · simp [l, hn, hdl]
    · intro q h1 h2
      simp [l]
  have hinit : CellsR w g.er ((Array.range (n * szOf c.P e)).map (z.cells[· % z.cells.size]!)) (List.replicate (ds.length * szOf c.P e) D.undef) := by
    refine ⟨by simp [hdl], fun q d hd => ?_⟩
    have hq : q < n * szOf c.P e := by have := (List.getElem?_eq_some_iff.1 hd).1; simpa [hdl] using this
    have hd' : d = .undef := by have := (List.getElem?_eq_some_iff.1 hd).2; simpa using this.symm
    subst hd'
    have hm : q % z.cells.size < z.cells.size := Nat.mod_lt _ (by rw [hzcs]; omega)
    refine ⟨.undef _ _, ?_⟩
    have hm2 : q % z.cells.size < zs.length := by rw [← hzc.1]; exact hm
    have := (hzc.2 (q % z.cells.size) _ (List.getElem?_eq_getElem hm2)).2
    simp [hq, hm]
    simpa [hm] using this
  have hfill := fillD_all (szOf c.P e) ds [] (fun d hd => hds d hd) (by simp)
  obtain ⟨cells', f1, f2⟩ := fill_rel (w := w) (g := g.er) (fun i => some (i * szOf c.P e, szOf c.P e)) l _ _ (flat ds) hinit (fun t ht h1 => by
    obtain ⟨q, hq, rfl⟩ := List.getElem_of_mem ht
    have hq1 : q < ps.toList.length := by simp [l] at hq; simp; omega
    have hq2 : q < ds.length := by rw [hdl, ← hn]; exact hq1
    have hdq : ds[q]? = some (l[q]).2.2 := by simp [l, hq2]
    obtain ⟨y, hy, hpy⟩ := e2 q _ hdq
    simp only [List.getElem?_map, Option.map_eq_some_iff] at hy
    obtain ⟨p, hp', rfl⟩ := hy
    have hv : (l[q]).2.1 = a.eval p.2 := by
      have := (List.getElem?_eq_some_iff.1 hp').2
      simp only [l, List.getElem_zip, List.getElem_map]
      rw [this]
    rw [hv]
    exact (pureD_rel h (h.ev p.2) hpy).cellsR (er_hρ g) h1) (by rw [hl2]; simpa [flat] using hfill)
  obtain ⟨S', r1, r2, r3⟩ := h.newList (e := e) f2 (fun d hd => (hds d hd).1)
  have hrun : (execOp a.eval o).run c.P w = .ok (.value (.slice (some ⟨w.heap.size, 0, none⟩) n n)) (w.alloc (.cells cells' e)) := by
    have hpl : (ps.map fun p => (p.1, a.eval p.2)).toList = ps.toList.map fun p => (p.1, a.eval p.2) := by simp
    rw [hl1] at f1
    simp only [execOp, ho, Instr.buildSlice, Sem.run_bind, run_underlying (elemOf_u he), Result.andThen_ok, run_sizeOf hz, hpl]
    rw [if_neg (by simp; omega)]
    by_cases h0 : n * szOf c.P e = 0
    · rw [if_pos h0]
      have hn0 : n = 0 := by rcases Nat.mul_eq_zero.1 h0 with h | h; exact h; exact absurd h hz
      subst hn0
      have hpnil : ps.toList = [] := List.eq_nil_of_length_eq_zero hn
      simp [hpnil, Instr.fill] at f1 ⊢
      subst f1
      have r0 : Array.range 0 = #[] := rfl
      simp [newRow, r0]
    · rw [if_neg h0]
      simp only [Sem.run_bind, hzr, Result.andThen_ok, Sem.run_pure]
      rw [f1]
      simp [newRow]
  have hn7 : n ≤ maxLen := by
    have : n ≤ n * szOf c.P e := Nat.le_mul_of_pos_right n (Nat.pos_of_ne_zero hz)
    simp only [maxLen]; omega
  have hcs : cells'.size = n * szOf c.P e := by
    rw [f2.1, ← hdl]
    have : ∀ l : List D, (∀ d ∈ l, d.cells.length = szOf c.P e) → (flat l).length = l.length * szOf c.P e := by
      intro l
      induction l with
      | nil => intro _; simp [flat]
      | cons d l ih =>
        intro hl
        have h1 := hl d (List.mem_cons_self ..)
        have h2 := ih fun x hx => hl x (List.mem_cons_of_mem _ hx)
        show (d.cells ++ flat l).length = _
        rw [List.length_append, h1, h2, List.length_cons, Nat.add_mul]; omega
    exact this ds fun d hd => (hds d hd).1
  have hheap : (w.alloc (.cells cells' e)).heap[w.heap.size]? = some (.cells cells' e (0, 0)) := heap_alloc_new w _
  have hr := r1.pushRow (v := .slice (some ⟨w.heap.size, 0, none⟩) n n) (row := ⟨true, e, szOf c.P e, ds⟩) (by rw [hdl] at r3; exact r3)
    ⟨cells'.toList, by show cells'.toList.length = ds.length * szOf c.P e; rw [hdl, ← hcs, Array.length_toList], .inr ⟨w.heap.size, n, cells', by rw [hdl], Nat.zero_le _, hheap, by rw [hdl]; exact Nat.le_refl _, hn7, hcs, by show List.take (ds.length * szOf c.P e) cells'.toList = cells'.toList; rw [hdl, ← hcs]; exact List.take_of_length_le (by simp)⟩⟩ (fun d hd => (hds d hd).1)
    (fun gb hgb => by
      simp only [Value.ownBlock, Option.some.injEq] at hgb
      subst hgb
      refine ⟨h.own0 _ h.below.size, fun x hx hxb => ?_, fun i b hb hx hxb => ?_, fun r row' v' hrr hl hv' ho => ?_⟩
      · obtain ⟨u, hu⟩ := r1.good x hx
        obtain ⟨xb, xo, xe⟩ := x
        simp only at hxb
        subst hxb
        simp only [hdl]
        rw [← hcs]
        unfold World.cell? at hu
        simp only [hheap] at hu
        have hu2 : cells'[xo]? = some u := by
          split at hu
          · cases hu
          · exact hu
        have := (Array.getElem?_eq_some_iff.1 hu2).1
        omega
      · obtain ⟨x, hx1, hx2⟩ := hx
        have hlt : b < w.heap.size := by
          cases x with
          | dead => cases hx2
          | mu cs =>
            obtain ⟨b', vs, t', q1, q2, _⟩ := (h.bx i cs hx1).ex
            rw [hb] at q1; cases q1
            exact (Array.getElem?_eq_some_iff.1 q2).1
          | fz cs =>
            obtain ⟨b', vs, t', q1, q2, _⟩ := (h.fz i cs hx1).ex
            rw [hb] at q1; cases q1
            exact (Array.getElem?_eq_some_iff.1 q2).1
        omega
      · obtain ⟨v2, q1, q2, q3⟩ := (h.rw r row' hrr).ex
        rw [hv'] at q1; cases q1
        obtain ⟨⟨vals, how⟩, _⟩ := q3 hl
        rcases how.2 with ⟨rfl, _⟩ | ⟨gg, cap, cur, rfl, _, hh, _⟩
        · simp [Value.ownBlock] at ho
        · simp only [Value.ownBlock, Option.some.injEq] at ho
          have := (Array.getElem?_eq_some_iff.1 hh).1
          omega)
  have hown : Rel (w.alloc (.cells cells' e)) ⟨S', g.β, g.ρ ++ [.slice (some ⟨w.heap.size, 0, none⟩) n n], g.M⟩ (.slice (some ⟨w.heap.size, 0, none⟩) n n) (.own s.rw.length) := .own _ _ _ (by rw [← h.lρ]; simp)
  unfold Oper.wp
  rw [hrun]
  exact ⟨_, ⟨_, hr.put hd hown⟩, hk⟩
end
section
variable {P : Program}
/-- A slice that is built, as a row. -/
def rowOp (P : Program) (o : Oper) (s : St) (K : St → Prop) : Prop := o.guard = none ∧ dstOk s o.dst ∧ match o.op with
  | .buildSlice t n ps => wOpt (elemOf P t) fun e => szOf P e ≠ 0 ∧ n * szOf P e ≤ 16777216 ∧ (zeroD P e).isSome = true ∧ ps.toList.map (·.1) = List.range n ∧
      wOpt (pureDs s.bx s.rw (ps.toList.map fun p => s.ev p.2)) fun ds => (∀ d ∈ ds, d.cells.length = szOf P e ∧ d.cells.all D.one = true) ∧ K (St.put { s with rw := s.rw ++ [⟨true, e, szOf P e, ds⟩] } o.dst (.own s.rw.length))
  | _ => False
theorem rowOp_sound {c : Ctx} {s : St} {a : Act} {w : World} {g : Gh} {o : Oper} {K : St → Prop} {Q : Exit → Act → World → Prop} (h : RG c s a w g) (hk : rowOp c.P o s K) :
    o.wpIn c.F 0 c.P a w (fun a' w' => ∃ s', R c s' a' w' ∧ K s') Q := by
  obtain ⟨_, hd, hk⟩ := hk
  split at hk
  · rename_i t n ps ho
    exact op_in (fun cl e => by rw [ho] at e; cases e) (s_buildRow h ho hd hk)
  · exact hk.elim
def gsU (P : Program) (ops : Array Oper) (b i : Nat) (o : Oper) (s : St) (K : St → Prop) : Prop := (i = b → rowOp P o s K) ∧ (i ≠ b → gst P ops.toList o s K)
/-- Whatever order is picked, one of the operations making a row. -/
def anyU (P : Program) (ops : Array Oper) (b : Nat) (K : St → Prop) : Nat → Array Bool → St → Prop
  | 0, listed, s => Region.ready .any ops listed = [] ∧ K s
  | n + 1, listed, s => (Region.ready .any ops listed = [] → K s) ∧ ∀ i ∈ Region.ready .any ops listed, ∀ o, ops[i]? = some o → gsU P ops b i o s fun s' => anyU P ops b K n (listed.setIfInBounds i true) s'
theorem closedA_set {ops : Array Oper} {listed : Array Bool} (h : closedA ops listed) {i : Nat} (hi : i ∈ Region.ready .any ops listed) : closedA ops (listed.setIfInBounds i true) := by
  have up : ∀ k, listed.getD k true = true → (listed.setIfInBounds i true).getD k true = true := fun k hk => by
    by_cases hik : i = k
    · subst hik
      by_cases hs : i < listed.size <;> simp [hs]
    · rw [getD_set_ne true hik]; exact hk
  intro j oj hj hl e he hb
  by_cases hij : i = j
  · subst hij
    obtain ⟨_, o', ho', hall⟩ := mem_ready.1 hi
    rw [hj] at ho'; cases ho'
    have h1 := hall e he hb
    refine up _ ?_
    rcases Nat.lt_or_ge e.on listed.size with h' | h'
    · simp [h'] at h1 ⊢; exact h1
    · simp [Array.getElem?_eq_none h'] at h1
  · rw [getD_set_ne true hij] at hl
    exact up _ (h j oj hj hl e he hb)
theorem anc_no {ops : Array Oper} {listed : Array Bool} (h : closedA ops listed) {i j n : Nat} (hj : j ∈ Region.ready .any ops listed) (hi : i ∈ Region.ready .any ops listed) (hne : j ≠ i) : i ∉ anc ops n [j] := fun hm => by
  have := anc_listed h n [j] j (fun k hk => by
    obtain ⟨_, o', ho', hall⟩ := mem_ready.1 hj
    unfold edgeTo at hk
    rw [ho'] at hk
    obtain ⟨e, hea, heb⟩ := Array.any_eq_true'.1 hk
    simp only [Bool.and_eq_true, beq_iff_eq] at heb
    have h1 := hall e hea heb.1
    rw [heb.2] at h1
    rcases Nat.lt_or_ge k listed.size with h' | h'
    · simp [h'] at h1 ⊢; exact h1
    · simp [Array.getElem?_eq_none h'] at h1) (fun x hx => .inl (by simpa using hx)) i hm
  rcases this with e | e
  · exact hne e.symm
  · have h0 := (mem_ready.1 hi).1
    rw [h0] at e; cases e
theorem anyU_first {ops : Array Oper} {b : Nat} {K : St → Prop} (hk : ∀ (k : Nat) (o : Oper), ops[k]? = some o → k ≠ b → kindOf o.op ≠ .X ∧ (kindOf o.op = .L ∨ kindOf o.op = .W → o.guard = none)) {i : Nat} {oi : Oper} (hi : ops[i]? = some oi) (hib : i ≠ b) :
    ∀ (fuel : Nat) (listed : Array Bool) (s : St), closedA ops listed →
      (∀ (j : Nat) (oj : Oper), ops[j]? = some oj → j ≠ i → listed.getD j true = false → (∀ e ∈ oj.after, Region.binds .any e = true → e.on ≠ i) → (oi.apart ops oj = true ∧ j ≠ b ∧ pairOk (kindOf oi.op) (kindOf oj.op) = true) ∨ i ∈ anc ops ops.size [j]) →
      i ∈ Region.ready .any ops listed → gst P ops.toList oi s (fun s' => anyU P ops b K fuel (listed.setIfInBounds i true) s') → anyU P ops b K (fuel + 1) listed s := by
  have hmi := hk i oi hi hib
  intro fuel
  induction fuel with
  | zero =>
    intro listed s hcl hfree hr H
    refine ⟨fun h => (by rw [h] at hr; cases hr), fun j hj oj hoj => ?_⟩
    by_cases hji : j = i
    · subst hji; rw [hi] at hoj; cases hoj; exact ⟨fun e => absurd e hib, fun _ => H⟩
    · have hrj := ready_mono hj hji
      exfalso
      obtain ⟨s', h1, _⟩ := gst_ex hmi.1 hmi.2 H
      rw [h1.1] at hrj
      cases hrj
  | succ fuel ih =>
    intro listed s hcl hfree hr H
    refine ⟨fun h => (by rw [h] at hr; cases hr), fun j hj oj hoj => ?_⟩
    by_cases hji : j = i
    · subst hji; rw [hi] at hoj; cases hoj; exact ⟨fun e => absurd e hib, fun _ => H⟩
    · obtain ⟨hjun, oj', hoj', hall⟩ := mem_ready.1 hj
      rw [hoj] at hoj'; cases hoj'
      have hnot : ∀ e ∈ oj.after, Region.binds .any e = true → e.on ≠ i := fun e he hb heq => by
        have h1 := hall e he hb
        have h0 := (mem_ready.1 hr).1
        rw [heq] at h1
        rcases Nat.lt_or_ge i listed.size with h' | h'
        · simp [h'] at h0 h1; rw [h0] at h1; cases h1
        · simp [Array.getElem?_eq_none h'] at h1
      rcases hfree j oj hoj hji hjun hnot with ⟨hap, hjb, hpk⟩ | hanc
      · refine ⟨fun e => absurd e hjb, fun _ => ?_⟩
        have hmj := hk j oj hoj hjb
        have h1 : gst P ops.toList oi s fun s1 => gst P ops.toList oj s1 fun s2 => anyU P ops b K fuel ((listed.setIfInBounds i true).setIfInBounds j true) s2 :=
          gst_mono hmi.1 hmi.2 (fun s1 hs1 => (hs1.2 j (ready_mono hj hji) oj hoj).2 hjb) H
        have h2 := swap hap hpk hmi.2 hmj.2 h1
        have hfree' : ∀ (k : Nat) (ok : Oper), ops[k]? = some ok → k ≠ i → (listed.setIfInBounds j true).getD k true = false →
            (∀ e ∈ ok.after, Region.binds .any e = true → e.on ≠ i) → (oi.apart ops ok = true ∧ k ≠ b ∧ pairOk (kindOf oi.op) (kindOf ok.op) = true) ∨ i ∈ anc ops ops.size [k] := fun k ok hk hki hun hno => by
          refine hfree k ok hk hki ?_ hno
          by_cases hjk : j = k
          · subst hjk; exact hjun
          · rw [getD_set_ne true hjk] at hun; exact hun
        refine gst_mono hmj.1 hmj.2 (fun s1 h3 => ih (listed.setIfInBounds j true) s1 (closedA_set hcl hj) hfree' (ready_mono hr (Ne.symm hji)) ?_) h2
        rw [Array.setIfInBounds_comm _ _ hji]
        exact h3
      · exact absurd hanc (anc_no hcl hj hr hji)
/-- The row's operation, all others listed but those that wait for it. -/
theorem anyU_row {ops : Array Oper} {b : Nat} {K : St → Prop} {o : Oper} (ho : ops[b]? = some o) (fuel : Nat) (listed : Array Bool) (s : St) (hall : Region.ready .any ops listed = [b])
    (H : rowOp P o s fun s' => anyU P ops b K fuel (listed.setIfInBounds b true) s') : anyU P ops b K (fuel + 1) listed s := by
  refine ⟨fun h => (by rw [hall] at h; cases h), fun i hi oi hoi => ?_⟩
  rw [hall, List.mem_singleton] at hi
  subst hi
  rw [ho] at hoi; cases hoi
  exact ⟨fun _ => H, fun e => absurd rfl e⟩
theorem anyU_sound {c : Ctx} {ops : Array Oper} {b : Nat} {K : St → Prop} {Q : Exit → Act → World → Prop} (hQ : ∀ s a w, R c s a w → K s → Q .normal a w) : ∀ (fuel : Nat) (listed : Array Bool) (s : St) (a : Act) (w : World), R c s a w →
    anyU c.P ops b K fuel listed s → wpAnyIn c.F 0 c.P .any ops Q fuel listed a w
  | 0, _, s, a, w, hr, h => ⟨h.1, hQ s a w hr h.2⟩
  | fuel + 1, listed, s, a, w, hr, h => by
    refine ⟨fun h0 => hQ s a w hr (h.1 h0), fun i hi => ?_⟩
    obtain ⟨g, hg⟩ := hr
    unfold wpOpIn
    cases ho : ops[i]? with
    | none =>
      obtain ⟨_, o, ho', _⟩ := mem_ready.1 hi
      rw [ho] at ho'; cases ho'
    | some o =>
      have h2 := h.2 i hi o ho
      by_cases hib : i = b
      · have h3 := h2.1 hib
        simp only
        rw [if_pos (by simp [Region.wanted, h3.1])]
        exact Oper.wpIn_mono (fun a' w' ⟨s', hr', hk'⟩ => anyU_sound hQ fuel _ s' a' w' hr' hk') (rowOp_sound hg h3)
      · exact gst_sound hg (fun s' a' w' hr' hk' => anyU_sound hQ fuel _ s' a' w' hr' hk') (h2.2 hib)
/-- The text's order serves: booleans. -/
def rowB (ops : Array Oper) (b : Nat) : Nat → Nat → Array Bool → Bool
  | 0, _, listed => (Region.ready .any ops listed).isEmpty
  | n + 1, k, listed => (if k == b then decide (Region.ready .any ops listed = [b]) else
      (Region.ready .any ops listed).contains k && match ops[k]? with
      | some ok => (List.range ops.size).all fun j => j == k || listed.getD j true || (match ops[j]? with
        | some oj => oj.after.any (fun e => Region.binds .any e && e.on == k) || (ok.apart ops oj && j != b && pairOk (kindOf ok.op) (kindOf oj.op)) || (anc ops ops.size [j]).contains k
        | none => true)
      | none => false) && rowB ops b n (k + 1) (listed.setIfInBounds k true)
def rowK (l : List Oper) (b : Nat) : Bool := (List.range l.length).all fun k => k == b || match l[k]? with
  | some o => (match kindOf o.op with | .X => false | .L => o.guard.isNone | .W => o.guard.isNone | _ => true)
  | none => true
/-- .. and what it does. -/
def evU (P : Program) (l : List Oper) (b : Nat) : List Nat → St → (St → Prop) → Prop
  | [], s, K => K s
  | k :: ks, s, K => match l[k]? with
    | some o => if k = b then rowOp P o s fun s' => evU P l b ks s' K else evOps P l [o] s fun s' => evU P l b ks s' K
    | none => False
theorem anyU_lex {ops : Array Oper} {b : Nat} {K : St → Prop} (hk : ∀ (k : Nat) (o : Oper), ops[k]? = some o → k ≠ b → kindOf o.op ≠ .X ∧ (kindOf o.op = .L ∨ kindOf o.op = .W → o.guard = none)) : ∀ (n k : Nat) (listed : Array Bool) (s : St), closedA ops listed →
    rowB ops b n k listed = true → evU P ops.toList b (List.range' k n) s K → anyU P ops b K n listed s
  | 0, k, listed, s, _, hB, h => ⟨by simpa [rowB, List.isEmpty_iff] using hB, h⟩
  | n + 1, k, listed, s, hcl, hB, h => by
    simp only [rowB, Bool.and_eq_true] at hB
    obtain ⟨hB1, hB2⟩ := hB
    simp only [List.range'_succ, evU, Array.getElem?_toList] at h
    cases ho : ops[k]? with
    | none => rw [ho] at h; exact h.elim
    | some o =>
      rw [ho] at h
      simp only at h
      by_cases hkb : k = b
      · subst hkb
        simp only [beq_self_eq_true, if_true, decide_eq_true_eq] at hB1
        rw [if_pos rfl] at h
        refine anyU_row ho n listed s hB1 ⟨h.1, h.2.1, ?_⟩
        have h3 := h.2.2
        have hcl' := closedA_set hcl (i := k) (by rw [hB1]; simp)
        revert h3
        split
        · intro h3
          obtain ⟨e, he, q1, q2, q3, q4, h3⟩ := wOpt_some h3
          obtain ⟨ds, hp, q5, h3⟩ := wOpt_some h3
          rw [he]
          refine ⟨q1, q2, q3, q4, ?_⟩
          rw [hp]
          exact ⟨q5, anyU_lex hk n (k + 1) _ _ hcl' hB2 h3⟩
        · intro h3; exact h3
      · have hkb' : (k == b) = false := by simpa using hkb
        rw [hkb', ho] at hB1
        simp only [Bool.false_eq_true, if_false, Bool.and_eq_true, List.contains_iff_mem] at hB1
        rw [if_neg hkb] at h
        have hm := hk k o ho hkb
        refine anyU_first hk ho hkb n listed s hcl (fun j oj hj hjk hun hno => ?_) hB1.1 (gst_mono hm.1 hm.2 (fun s' hs' => anyU_lex hk n (k + 1) _ s' (closedA_set hcl hB1.1) hB2 hs') (evOps_gst h))
        have := List.all_eq_true.1 hB1.2 j (List.mem_range.2 (Array.getElem?_eq_some_iff.1 hj).1)
        simp only [hj, Bool.or_eq_true, beq_iff_eq, hjk, hun, Bool.false_eq_true, false_or, Array.any_eq_true', Bool.and_eq_true, bne_iff_ne, ne_eq, List.contains_iff_mem] at this
        rcases this with (⟨e, he, h1, h2⟩ | ⟨⟨h1, h2⟩, h3⟩) | h
        · exact absurd h2 (hno e he h1)
        · exact .inl ⟨h1, h2, h3⟩
        · exact .inr h
/-- A region that draws its order, in which the slice that operation b builds is a row. -/
theorem abs_drawRow {c : Ctx} {id : Nat} {l : List Oper} {Q : Exit → St → Prop} {s : St} (b : Nat) (hm : c.P.follows .mixedOrders = true) (hB : (rowK l b && rowB l.toArray b l.length 0 (Array.replicate l.length false)) = true)
    (h : ∀ K : St → Prop, (∀ s', Q .normal s' → K s') → evU c.P l b (List.range' 0 l.length) s K) : Abs c (.region id l.toArray true) Q s := by
  intro a w hr
  simp only [Bool.and_eq_true] at hB
  refine wpIn_region_any hm (anyU_sound (b := b) (K := fun s => Q .normal s) (fun s a w hr hq => ⟨s, hr, hq⟩) _ _ s _ _ (RG.drewTick hr) ?_)
  have := anyU_lex (P := c.P) (ops := l.toArray) (b := b) (K := fun s => Q .normal s) (fun k o ho hkb => ?_) l.length 0 (Array.replicate l.length false) s (fun j oj hj hl => ?_) hB.2 (by simpa using h _ (fun _ h => h))
  · simpa using this
  · have hk := (Array.getElem?_eq_some_iff.1 ho).1
    have h1 := List.all_eq_true.1 hB.1 k (List.mem_range.2 (by simpa using hk))
    have ho' : l[k]? = some o := by simpa using ho
    rw [ho'] at h1
    simp only [Bool.or_eq_true, beq_iff_eq, hkb, false_or] at h1
    cases k : kindOf o.op <;> rw [k] at h1 <;> simp at h1 ⊢ <;> exact h1
  · exfalso
    have := (Array.getElem?_eq_some_iff.1 hj).1
    simp at this
    simp [this] at hl
end
attribute [go_sem] evU rowOp
end Go.Ab
namespace Go.Ab
open Go.RowKit
/-!
  A range over a string of ASCII bytes.
-/
def turned (w : World) (B : Nat) (str : ByteArray) (k : Nat) : World := { w with heap := w.heap.setIfInBounds B (.stringIter str k) }
section
variable {c : Ctx} {s : St} {a : Act} {w : World} {g : Gh}
theorem turned_at {B : Nat} {str : ByteArray} {k : Nat} {b : Nat} (h : b ≠ B) : (turned w B str k).heap[b]? = w.heap[b]? := by
  simp [turned, Array.getElem?_setIfInBounds, Ne.symm h]
theorem turned_here {B : Nat} {str : ByteArray} {j k : Nat} (h : w.heap[B]? = some (.stringIter str j)) : (turned w B str k).heap[B]? = some (.stringIter str k) := by
  have := (Array.getElem?_eq_some_iff.1 h).1
  simp [turned, this]
theorem turned_cell {B : Nat} {str : ByteArray} {j k : Nat} (h : w.heap[B]? = some (.stringIter str j)) (x : Addr) : (turned w B str k).cell? x = w.cell? x := by
  by_cases hx : x.block = B
  · unfold World.cell?
    rw [hx, turned_here h, h]
  · unfold World.cell?
    rw [turned_at hx]
theorem RG.iterTurn (h : RG c s a w g) (hb : s.bx = []) (hr : s.rw = []) {B : Nat} {str : ByteArray} {j k : Nat} (hB : w.heap[B]? = some (.stringIter str j)) (h0 : c.w0.heap.size ≤ B) : RG c s a (turned w B str k) g := by
  have hsz : (turned w B str k).heap.size = w.heap.size := by simp [turned]
  have other : ∀ {b : Nat} {o : Obj}, w.heap[b]? = some o → (∀ s j, o ≠ .stringIter s j) → (turned w B str k).heap[b]? = some o := fun {b o} hbo hne => by
    rw [turned_at (fun e => by subst e; rw [hB] at hbo; cases hbo; exact hne _ _ rfl)]; exact hbo
  have ky : Keeps w g (turned w B str k) g := ⟨fun x _ => turned_cell hB x, fun _ h => h, fun _ _ h => h, fun _ _ h => h, fun _ _ h => h⟩
  refine ⟨⟨⟨h.df.dok.1, fun d hd => ?_⟩, fun b f hf => ?_, h.df.m0, h.df.mfrom, h.df.anc, fun x hx => (turned_cell hB x).trans (h.df.kp0 x hx), h.df.tab⟩, h.sz, ⟨h.below.os, h.below.tape, h.below.output, by rw [hsz]; exact h.below.size, fun b hb hn => ?_⟩, h.own0, fun x hx => ?_, h.from0, h.S0, h.good0, h.lβ, h.lρ, fun n => (h.sl n).keep ky, ?_, ?_, ?_, ?_⟩
  · obtain ⟨D, q1, q2, q3⟩ := h.df.dok.2 d hd
    exact ⟨D, q1, q2, other q3 (fun _ _ e => by cases e)⟩
  · obtain ⟨es, cl, q1, q2⟩ := h.df.mok b f hf
    exact ⟨es, cl, other q1 (fun _ _ e => by cases e), q2⟩
  · rw [turned_at (by omega)]; exact h.below.block b hb hn
  · obtain ⟨u, hu⟩ := h.good x hx
    exact ⟨u, (turned_cell hB x).trans hu⟩
  · intro i cs hi; rw [hb] at hi; simp at hi
  · intro i cs hi; rw [hb] at hi; simp at hi
  · intro i row hi; rw [hr] at hi; simp at hi
  · exact ⟨fun _ => .inl 0, fun i x b hi => by rw [hb] at hi; simp at hi, fun r row v gb hi => by rw [hr] at hi; simp at hi⟩
/-- The context from here on, in which this block stays as it is. -/
def Ctx.from_ (c : Ctx) (w : World) (S : Addr → Prop) (M : MM) (B : Nat) : Ctx := ⟨c.P, w, S, M, c.l, fun b => w.heap.size ≤ b ∨ (c.own b ∧ b ≠ B), []⟩
theorem RG.iterEnter (h : RG c s a w g) (hb : s.bx = []) (hr : s.rw = []) {B : Nat} {str : ByteArray} {j : Nat} (hB : w.heap[B]? = some (.stringIter str j)) : RG (c.from_ w g.S g.M B) s a w g := by
  have hβ : g.β = [] := List.eq_nil_of_length_eq_zero (by rw [h.lβ, hb]; rfl)
  refine ⟨⟨⟨h.df.dok.1, fun d hd => ?_⟩, h.df.mok, fun _ _ h => h, fun _ _ h => .inl h, fun i b hi => by simp [Ctx.from_] at hi, fun _ _ => rfl,
    h.df.tab.own h.below h.df.mok fun b hb => ?_⟩, h.sz, ⟨rfl, rfl, rfl, Nat.le_refl _, fun _ _ _ => rfl⟩, fun b hb => .inl hb, h.good, fun x hx => .inl hx, fun x hx => hx, h.good, h.lβ, h.lρ, h.sl, ?_, ?_, ?_, ?_⟩
  · obtain ⟨D, q1, q2, q3⟩ := h.df.dok.2 d hd
    exact ⟨D, .inr ⟨q1, fun e => by subst e; rw [hB] at q3; cases q3⟩, q2, q3⟩
  · rcases hb with hb | hb
    · exact .inl hb
    · exact .inr (.inl hb.1)
  · intro i cs hi; rw [hb] at hi; simp at hi
  · intro i cs hi; rw [hb] at hi; simp at hi
  · intro i row hi; rw [hr] at hi; simp at hi
  · exact ⟨fun _ => .inl 0, fun i x b hi => by rw [hb] at hi; simp at hi, fun r row v gb hi => by rw [hr] at hi; simp at hi⟩
theorem RG.iterLeave {s' : St} {a' : Act} {w' : World} {g' : Gh} (h : RG c s a w g) (hb : s.bx = []) {B : Nat} {str : ByteArray} {j : Nat} (hB : w.heap[B]? = some (.stringIter str j)) (h0 : c.w0.heap.size ≤ B)
    (h' : RG (c.from_ w g.S g.M B) s' a' w' g') (hb' : s'.bx = []) (hr' : s'.rw = []) : RG c s' a' w' g' ∧ w'.heap[B]? = some (.stringIter str j) := by
  have hβ : g.β = [] := List.eq_nil_of_length_eq_zero (by rw [h.lβ, hb]; rfl)
  have hlt := (Array.getElem?_eq_some_iff.1 hB).1
  have hBM : g.M B = none := by
    cases hm : g.M B with
    | none => rfl
    | some f => obtain ⟨es, cl, q1, _⟩ := h.df.mok B f hm; rw [hB] at q1; cases q1
  have own' : ∀ b, (c.from_ w g.S g.M B).own b → c.own b := fun b hb => hb.elim (fun hb => h.own0 b (Nat.le_trans h.below.size hb)) (fun hb => hb.1)
  refine ⟨⟨⟨⟨h'.df.dok.1, fun d hd => ?_⟩, h'.df.mok, fun b f hf => h'.df.m0 b f (h.df.m0 b f hf), fun b f hf => ?_, fun i b hi => ?_, fun x hx => (h'.df.kp0 x (h.S0 x hx)).trans (h.df.kp0 x hx), h.df.tab⟩, h'.sz, ?_, h.own0, h'.good, fun x hx => ?_, fun x hx => h'.S0 x (h.S0 x hx), h.good0, h'.lβ, h'.lρ, h'.sl, ?_, ?_, ?_, ?_⟩, ?_⟩
  · obtain ⟨D, q1, q2, q3⟩ := h'.df.dok.2 d hd
    exact ⟨D, own' D q1, q2, q3⟩
  · rcases h'.df.mfrom b f hf with hf | hf
    · exact h.df.mfrom b f hf
    · exact .inr (Nat.le_trans h.below.size hf)
  · have := h.df.anc i b hi
    rw [hβ] at this; simp at this
  · refine h.below.trans h'.below h.below.size fun i hi hm => ?_
    rcases hm with hm | hm
    · rcases hm with hm | hm
      · exact absurd (Nat.le_trans h.below.size hm) (Nat.not_le_of_lt hi)
      · exact .inl hm.1
    · cases hf : g.M i with
      | none => exact absurd hf hm
      | some f =>
        rcases h.df.mfrom i f hf with hf | hf
        · exact .inr (by rw [hf]; exact fun e => by cases e)
        · exact absurd hf (Nat.not_le_of_lt hi)
  · rcases h'.from0 x hx with hx | hx
    · exact h.from0 x hx
    · exact .inr (own' _ hx)
  · intro i cs hi; rw [hb'] at hi; simp at hi
  · intro i cs hi; rw [hb'] at hi; simp at hi
  · intro i row hi; rw [hr'] at hi; simp at hi
  · exact ⟨fun _ => .inl 0, fun i x b hi => by rw [hb'] at hi; simp at hi, fun r row v gb hi => by rw [hr'] at hi; simp at hi⟩
  · refine (h'.below.block B hlt fun hm => ?_).trans hB
    rcases hm with hm | hm
    · rcases hm with hm | hm
      · exact absurd hlt (Nat.not_lt.2 hm)
      · exact hm.2 rfl
    · exact hm hBM
theorem range_wp {P : Program} {o : Oper} {t : TypeId} {x : Operand} {str : ByteArray} {N : Act → World → Prop} {Q : Exit → Act → World → Prop} (ho : o.op = .range t x) (hx : a.eval x = .string str) (ht : strTy P t = true)
    (h : N (a.put o.dst (.pointer (some ⟨w.heap.size, 0, none⟩))) (w.iter str 0)) : o.wp P a w N Q := by
  have hu : P.underlying t = some .string := by unfold strTy at ht; split at ht <;> simp_all
  have hrun : (execOp a.eval o).run P w = .ok (.value (.pointer (some ⟨w.heap.size, 0, none⟩))) (w.iter str 0) := by
    simp [execOp, ho, hx, run_range_string w t str hu]
  unfold Oper.wp
  rw [hrun]
  exact h
theorem next_wp {P : Program} {o : Oper} {x : Operand} {str : ByteArray} {B k : Nat} {N : Act → World → Prop} {Q : Exit → Act → World → Prop} (ho : o.op = .next x true) (hx : a.eval x = .pointer (some ⟨B, 0, none⟩)) (hB : w.heap[B]? = some (.stringIter str k)) (hk : k < str.size)
    (ha : (str[k]'hk).toNat < 128) (h : N (a.put o.dst (.tuple #[.bool true, .int .i64 k, .int .i32 (str[k]'hk).toNat])) (turned w B str (k + 1))) : o.wp P a w N Q := by
  have hrun : (execOp a.eval o).run P w = .ok (.value (.tuple #[.bool true, .int .i64 k, .int .i32 (str[k]'hk).toNat])) (turned w B str (k + 1)) := by
    simp [execOp, ho, hx, Instr.next, getObj, setObj, Sem.run, hB, hk, decode_ascii str k hk ha, goInt, turned]
  unfold Oper.wp
  rw [hrun]
  exact h
theorem next_end {P : Program} {o : Oper} {x : Operand} {str : ByteArray} {B k : Nat} {N : Act → World → Prop} {Q : Exit → Act → World → Prop} (ho : o.op = .next x true) (hx : a.eval x = .pointer (some ⟨B, 0, none⟩)) (hB : w.heap[B]? = some (.stringIter str k)) (hk : ¬ k < str.size)
    (h : N (a.put o.dst (.tuple #[.bool false])) w) : o.wp P a w N Q := by
  have hrun : (execOp a.eval o).run P w = .ok (.value (.tuple #[.bool false])) w := by
    simp [execOp, ho, hx, Instr.next, getObj, Sem.run, hB, hk]
  unfold Oper.wp
  rw [hrun]
  exact h
end
/-- The iterator. -/
abbrev itD (B : Nat) : D := .val (.pointer (some ⟨B, 0, none⟩))
theorem abs_rangeStr {c : Ctx} {Q : Exit → St → Prop} {s : St} {str : ByteArray} {x : Operand} {t7 t8 t9 t10 : Tmp} {tS ty7 ty8 ty9 ty10 : TypeId} {p7 p8 p9 p10 : String} {f7 f8 f9 f10 : Array Edge} {id0 id1 e0 : Nat} {body : Code}
    (hx : s.ev x = .str str) (hst : strTy c.P tS = true) (hasc : ∀ k (h : k < str.size), (str[k]'h).toNat < 128) (h7 : t7 < s.n) (h8 : t8 < s.n) (h9 : t9 < s.n) (h10 : t10 < s.n) (h98 : t9 ≠ t8) (hβ : c.β0 = []) (hbx : s.bx = []) (hrw : s.rw = [])
    (inv : Nat → List (Nat × D)) (hnm : ∀ k, ((inv k).all fun p => namesB 0 0 p.2) = true)
    (hle : ∀ B, Le ((s.put (some t7) (.str str)).put (some t8) (itD B)) (mkSt s.n ((t8, itD B) :: inv 0) [] []))
    (round : ∀ (B k : Nat) (hk : k < str.size) (w1 : World) (S1 : Addr → Prop) (M1 : MM) (o1 : Nat → Prop), Abs ⟨c.P, w1, S1, M1, c.l, o1, []⟩ body (fun e s' => e = .normal ∧ Le s' (mkSt s.n ((t8, itD B) :: inv (k + 1)) [] []))
      (((⟨s.n, ((t8, itD B) :: inv k).foldr (fun p f => put f p.1 p.2) none', [], []⟩ : St).put (some t9) (.tup [.bool true, .int .i64 k, .int .i32 (str[k]'hk).toNat])).put (some t10) (.bool true)))
    (done : ∀ B, Q .normal (((⟨s.n, ((t8, itD B) :: inv str.size).foldr (fun p f => put f p.1 p.2) none', [], []⟩ : St).put (some t9) (.tup [.bool false])).put (some t10) (.bool false))) :
    Abs c (.seq (.region id0 #[⟨some t7, .move x, ty7, p7, f7, none⟩, ⟨some t8, .range tS (.tmp t7), ty8, p8, f8, none⟩] false)
      (.block e0 (.loop (.seq (.region id1 #[⟨some t9, .next (.tmp t8) true, ty9, p9, f9, none⟩, ⟨some t10, .extract (.tmp t9) 0, ty10, p10, f10, none⟩] false) (.seq (.cond (.tmp t10) .skip (.exit e0)) body))))) Q s := by
  intro a w hr
  have hnm' : ∀ B k, (mkSt s.n ((t8, itD B) :: inv k) [] []).named := fun B k => named_of (by
    simp only [List.all_cons, List.length_nil, hnm k]; rfl) rfl
  refine wpIn_seq (wpIn_region_lit (l := [⟨some t7, .move x, ty7, p7, f7, none⟩, ⟨some t8, .range tS (.tmp t7), ty8, p8, f8, none⟩]) ?_)
  obtain ⟨g, hg⟩ := hr
  unfold wpListIn
  rw [if_pos (by simp [Region.wanted])]
  have hst7 : stepOp c.P ⟨some t7, .move x, ty7, p7, f7, none⟩ s (fun s1 => s1 = s.put (some t7) (.str str)) := ⟨h7, by show St.put s _ (s.ev x) = _; rw [hx]⟩
  refine op_in (step_nodefer hst7) (Oper.wp_mono (fun a1 w1 ⟨s1, hr1, e1⟩ => ?_) (step_sound hg hst7))
  subst e1
  obtain ⟨g1, hg1⟩ := hr1
  unfold wpListIn
  rw [if_pos (by simp [Region.wanted])]
  refine op_in (fun cl e => by cases e) ?_
  have hs7 : a1.eval (.tmp t7) = .string str := by
    have := hg1.sl t7
    have e : (s.put (some t7) (.str str)).sl t7 = .str str := by simp [St.put, put]
    rw [e] at this
    have : Rel w1 g1 (a1.eval (.tmp t7)) (.str str) := this
    generalize a1.eval (.tmp t7) = v at this
    cases this; rfl
  refine range_wp (t := tS) (x := .tmp t7) rfl hs7 hst ?_
  obtain ⟨B, hBe⟩ : ∃ B, B = w1.heap.size := ⟨_, rfl⟩
  have h0B : c.w0.heap.size ≤ B := by rw [hBe]; exact hg1.below.size
  have hbI := below_alloc w1 (.stringIter str 0)
  have hg2 : RG c (s.put (some t7) (.str str)) a1 (w1.iter str 0) ⟨g1.S, g1.β, g1.ρ, g1.M⟩ := hg1.world hbI (fun _ h => h) (fun _ h => .inl h) (hg1.good.below hbI)
  have hg3 : RG c ((s.put (some t7) (.str str)).put (some t8) (itD B)) (a1.put (some t8) (.pointer (some ⟨B, 0, none⟩))) (w1.iter str 0) ⟨g1.S, g1.β, g1.ρ, g1.M⟩ := hg2.put (show t8 < s.n from h8) (.val _ _)
  have hR : R c (mkSt s.n ((t8, itD B) :: inv 0) [] []) (a1.put (some t8) (.pointer (some ⟨B, 0, none⟩))) (w1.iter str 0) := R.le ⟨_, hg3⟩ (hle B) (hnm' B 0) (by rw [hβ]; exact Nat.le_refl _)
  have hheap : (w1.iter str 0).heap[B]? = some (.stringIter str 0) := by rw [hBe]; exact World.iter_heap w1 str 0
  rw [← hBe]
  unfold wpListIn
  refine wpIn_block ?_
  refine wp_loop_ix (fun k a w => k ≤ str.size ∧ R c (mkSt s.n ((t8, itD B) :: inv k) [] []) a w ∧ w.heap[B]? = some (.stringIter str k)) (fun k => str.size - k) (fun k a w ⟨hk, hr, hh⟩ => ?_) 0 ⟨Nat.zero_le _, hR, hheap⟩
  obtain ⟨g, hg⟩ := hr
  have hev8 : a.eval (.tmp t8) = .pointer (some ⟨B, 0, none⟩) := by
    have := hg.sl t8
    have e : (mkSt s.n ((t8, itD B) :: inv k) [] []).sl t8 = itD B := by simp [mkSt, put]
    rw [e] at this
    have : Rel w g (a.eval (.tmp t8)) (itD B) := this
    generalize a.eval (.tmp t8) = v at this
    cases this; rfl
  refine wpIn_seq (wpIn_region_lit (l := [⟨some t9, .next (.tmp t8) true, ty9, p9, f9, none⟩, ⟨some t10, .extract (.tmp t9) 0, ty10, p10, f10, none⟩]) ?_)
  unfold wpListIn
  rw [if_pos (by simp [Region.wanted])]
  refine op_in (fun cl e => by cases e) ?_
  by_cases hlt : k < str.size
  · refine next_wp (x := .tmp t8) rfl hev8 hh hlt (hasc k hlt) ?_
    have hgt := hg.iterTurn rfl rfl (k := k + 1) hh h0B
    have ht := turned_here (k := k + 1) hh
    have hgp := hgt.put (dst := some t9) (show t9 < s.n from h9) (v := .tuple #[.bool true, .int .i64 k, .int .i32 (str[k]'hlt).toNat]) (d := .tup [.bool true, .int .i64 k, .int .i32 (str[k]'hlt).toNat]) (.tup _ _ _ rfl (fun q d hd => by
      match q, hd with
      | 0, hd => cases hd; exact .bool _ _
      | 1, hd => cases hd; exact .int _ _ _
      | 2, hd => cases hd; exact .int _ _ _
      | q + 3, hd => simp at hd))
    unfold wpListIn
    rw [if_pos (by simp [Region.wanted])]
    have hex : stepOp c.P ⟨some t10, .extract (.tmp t9) 0, ty10, p10, f10, none⟩ ((mkSt s.n ((t8, itD B) :: inv k) [] []).put (some t9) (.tup [.bool true, .int .i64 k, .int .i32 (str[k]'hlt).toNat]))
        (fun s1 => s1 = ((mkSt s.n ((t8, itD B) :: inv k) [] []).put (some t9) (.tup [.bool true, .int .i64 k, .int .i32 (str[k]'hlt).toNat])).put (some t10) (.bool true)) := by
      refine ⟨h10, ?_⟩
      have e : ((mkSt s.n ((t8, itD B) :: inv k) [] []).put (some t9) (.tup [.bool true, .int .i64 k, .int .i32 (str[k]'hlt).toNat])).ev (.tmp t9) = .tup [.bool true, .int .i64 k, .int .i32 (str[k]'hlt).toNat] := by simp [St.ev, St.put, put]
      show wTup (St.ev _ (.tmp t9)) _
      rw [e]
      rfl
    have hge := hgp.iterEnter rfl rfl ht
    have hP : (c.from_ (turned w B str (k + 1)) g.S g.M B).P = c.P := rfl
    have hF : (c.from_ (turned w B str (k + 1)) g.S g.M B).F = c.F := rfl
    refine op_in (c := c.from_ (turned w B str (k + 1)) g.S g.M B) (step_nodefer hex) (Oper.wp_mono (fun a3 w3 ⟨s3, hr3, e3⟩ => ?_) (step_sound hge hex))
    subst e3
    unfold wpListIn
    refine wpIn_seq ?_
    obtain ⟨g3, hg3⟩ := hr3
    have hb10 : a3.eval (.tmp t10) = .bool true := by
      have := hg3.sl t10
      have e : (((mkSt s.n ((t8, itD B) :: inv k) [] []).put (some t9) (.tup [.bool true, .int .i64 k, .int .i32 (str[k]'hlt).toNat])).put (some t10) (.bool true)).sl t10 = .bool true := by simp [St.put, put]
      rw [e] at this
      exact Rel.asBool this
    refine wpIn_cond hb10 ?_
    simp only [if_true]
    refine wpIn_skip ?_
    show body.wpIn c.F 0 c.P _ a3 w3
    have hbody := round B k hlt (turned w B str (k + 1)) g.S g.M (c.from_ (turned w B str (k + 1)) g.S g.M B).own a3 w3 ⟨g3, hg3⟩
    refine wpIn_mono hbody ?_
    rintro e a4 w4 ⟨s4, hr4, rfl, hl4⟩
    obtain ⟨g5, hg5⟩ := R.le hr4 hl4 (hnm' B (k + 1)) (Nat.le_refl _)
    have := hgp.iterLeave rfl ht h0B hg5 rfl rfl
    exact ⟨k + 1, ⟨by omega, ⟨_, this.1⟩, this.2⟩, by omega⟩
  · obtain rfl : k = str.size := by omega
    refine next_end (x := .tmp t8) rfl hev8 hh hlt ?_
    have hgp := hg.put (dst := some t9) (show t9 < s.n from h9) (v := .tuple #[.bool false]) (d := .tup [.bool false]) (.tup _ _ _ rfl (fun q d hd => by
      match q, hd with
      | 0, hd => cases hd; exact .bool _ _
      | q + 1, hd => simp at hd))
    unfold wpListIn
    rw [if_pos (by simp [Region.wanted])]
    have hex : stepOp c.P ⟨some t10, .extract (.tmp t9) 0, ty10, p10, f10, none⟩ ((mkSt s.n ((t8, itD B) :: inv str.size) [] []).put (some t9) (.tup [.bool false]))
        (fun s1 => s1 = ((mkSt s.n ((t8, itD B) :: inv str.size) [] []).put (some t9) (.tup [.bool false])).put (some t10) (.bool false)) := by
      refine ⟨h10, ?_⟩
      have e : ((mkSt s.n ((t8, itD B) :: inv str.size) [] []).put (some t9) (.tup [.bool false])).ev (.tmp t9) = .tup [.bool false] := by simp [St.ev, St.put, put]
      show wTup (St.ev _ (.tmp t9)) _
      rw [e]
      rfl
    refine op_in (step_nodefer hex) (Oper.wp_mono (fun a3 w3 ⟨s3, hr3, e3⟩ => ?_) (step_sound hgp hex))
    subst e3
    unfold wpListIn
    refine wpIn_seq ?_
    obtain ⟨g3, hg3⟩ := hr3
    have hb10 : a3.eval (.tmp t10) = .bool false := by
      have := hg3.sl t10
      have e : (((mkSt s.n ((t8, itD B) :: inv str.size) [] []).put (some t9) (.tup [.bool false])).put (some t10) (.bool false)).sl t10 = .bool false := by simp [St.put, put]
      rw [e] at this
      exact Rel.asBool this
    refine wpIn_cond hb10 ?_
    simp only [Bool.false_eq_true, if_false]
    refine wpIn_exit ?_
    simp only [Exit.then, Exit.inBlock, if_true]
    exact ⟨_, ⟨g3, hg3⟩, done B⟩
end Go.Ab
