import Derived.Test.YtmnepfejoneghaaGreatDoorK11
set_option linter.unusedVariables false
set_option linter.unusedSimpArgs false
section
namespace Go.Ab
open Go.RowKit
/-!
  Calls that are handed the caller's boxes and rows, by their names, and may turn them.
-/
/-- The context of such a call. -/
def inner (c : Ctx) (W : World) (g : Gh) : Ctx := ⟨c.P, W, g.S, g.M, none, fun b => W.heap.size ≤ b ∨ (c.own b ∧ ∃ cs t fz, W.heap[b]? = some (.cells cs t fz)), g.β⟩
/-- A call with these boxes and rows: what K says of what it hands back, and of the boxes and rows that it leaves. -/
def CallsB (P : Program) (f : FuncId) (ds : List D) (bx : List Bx) (rw : List Row) (K : D → List Bx → List Row → Prop) : Prop :=
  (∀ (args : Array Value) (w : World), (callFunc f args).run P w = .ok (.enter f args) w) ∧
  ∀ (c : Ctx) (st : St) (a : Act) (W : World) (g : Gh) (args : List Value), c.P = P → RG c st a W g → st.bx = bx → st.rw = rw → args.length = ds.length → (∀ q x, ds[q]? = some x → Rel W g (args.getD q Go.undef) x) →
    Calls P f args.toArray W fun e W' => ∃ v d s2 a2 g2, e = .returned v ∧ RG (inner c W g) s2 a2 W' g2 ∧ Rel W' g2 v d ∧ K d s2.bx s2.rw
theorem CallsB.mono {P : Program} {f : FuncId} {ds : List D} {bx : List Bx} {rw : List Row} {K K' : D → List Bx → List Row → Prop} (h : CallsB P f ds bx rw K) (hk : ∀ d bx' rw', K d bx' rw' → K' d bx' rw') : CallsB P f ds bx rw K' := by
  refine ⟨h.1, fun c st a W g args hP hg hb hr hl hrel => (h.2 c st a W g args hP hg hb hr hl hrel).mono ?_⟩
  rintro e w' ⟨v, d, s2, a2, g2, h1, h2, h3, h4⟩
  exact ⟨v, d, s2, a2, g2, h1, h2, h3, hk _ _ _ h4⟩
def rawK (P : Program) (s : St) : ResultVar → (D → Prop) → Prop
  | .tmp t, k => k (s.sl t)
  | .cell t ty, k => wLoad P s.bx ty (s.sl t) k
def rawL (P : Program) (s : St) : List ResultVar → (List D → Prop) → Prop
  | [], k => k []
  | r :: rs, k => rawK P s r fun d => rawL P s rs fun ds => k (d :: ds)
/-- How the body of such a function ends. -/
def retB (P : Program) (rs : Array ResultVar) (K : D → List Bx → List Row → Prop) : Exit → St → Prop
  | .normal, s => rawL P s rs.toList fun ds => K (resD ds) s.bx s.rw
  | .ret, s => rawL P s rs.toList fun ds => K (resD ds) s.bx s.rw
  | _, _ => False
section
variable {c : Ctx} {s : St} {a : Act} {w : World} {g : Gh}
theorem rawK_sound (h : RG c s a w g) {r : ResultVar} {k : D → Prop} (hk : rawK c.P s r k) : ∃ v d, (resOne a.tmps r).run c.P w = .ok v w ∧ Rel w g v d ∧ k d := by
  cases r with
  | tmp t => exact ⟨_, _, rfl, h.sl t, hk⟩
  | cell t ty =>
    simp only [rawK] at hk
    have hx := h.sl t
    cases hsl : s.sl t <;> rw [hsl] at hk hx <;> simp only [wLoad] at hk
    · rename_i i off
      obtain ⟨cs, hcs, hk⟩ := wBx_some hk
      obtain ⟨b, vs, tb, e1, e2, e3⟩ := h.mem.bx i cs hcs
      generalize hv : a.tmps.getD t undef = v at hx
      cases hx with
      | box _ _ _ b' hb' =>
        obtain rfl : b' = b := by rw [e1] at hb'; exact (Option.some.inj hb').symm
        obtain ⟨h1, h2⟩ := box_cells e2 e3 off
        obtain ⟨v, d, hrun, hr, hk⟩ := run_loadVar' (P := c.P) (t := ty) (ad := ⟨b', off, none⟩) h1 h2 hk
        exact ⟨v, d, by simp only [resOne, hv]; simp [asAddr, hrun], hr, hk⟩
    · rename_i cs
      obtain ⟨ad, u, hv, hm, hr⟩ := hx.ro_inv
      obtain ⟨v, d, hrun, hr, hk⟩ := run_loadVar' (P := c.P) (w := w) (g := g) (t := ty) (ad := ad) (cs := cs) (u := u) (fun q hq => ⟨(hm q hq).1, (hm q hq).2.2⟩) (fun q d hd => (hr q d hd).keep (keeps_er _ _)) hk
      exact ⟨v, d, by simp only [resOne, hv]; simp [asAddr, hrun], hr, hk⟩
theorem rawL_sound (h : RG c s a w g) : ∀ {rs : List ResultVar} {k : List D → Prop}, rawL c.P s rs k →
    ∃ vs ds, (rs.mapM (resOne a.tmps)).run c.P w = .ok vs w ∧ vs.length = ds.length ∧ (∀ q d, ds[q]? = some d → Rel w g (vs.getD q undef) d) ∧ k ds
  | [], k, hk => ⟨[], [], by simp, rfl, by simp, hk⟩
  | r :: rs, k, hk => by
    obtain ⟨v, d, h1, h2, hk⟩ := rawK_sound h hk
    obtain ⟨vs, ds, h3, h4, h5, hk⟩ := rawL_sound h hk
    refine ⟨v :: vs, d :: ds, ?_, by simp [h4], fun q x hx => ?_, hk⟩
    · rw [List.mapM_cons]
      simp only [Sem.run_bind, h1, Result.andThen_ok, h3, Sem.run_pure]
    · cases q with
      | zero => simp at hx; subst hx; exact h2
      | succ q => exact h5 q x (by simpa using hx)
theorem marks_leaveB {fn : Func} {k : List D → Prop} {R : Ending → World → Prop} : ∀ (l : List Deferred) (a : Act) (w : World), RG c s a w g → a.defers = l → rawL c.P s fn.results.toList k →
    (∀ v w' ds, RG c s { a with defers := [] } w' g → Rel w' g v (resD ds) → k ds → R (.returned v) w') → LeavesInM Fence.wide 0 c.P fn a.tmps R l .returning w
  | [], a, w, h, hl, hq, hR => by
    obtain ⟨vs, ds', h1, h2, h3, hk⟩ := rawL_sound h hq
    refine ⟨(if h : vs.length = 1 then vs[0] else .tuple vs.toArray), ?_, hR _ _ ds' (by rw [show ({ a with defers := [] } : Act) = a by rw [← hl]]; exact h) ?_ hk⟩
    · rw [results_eq, Array.mapM_eq_mapM_toList]
      simp only [Sem.run_bind, Sem.run_map, h1]
      simp
    · match vs, ds', h2 with
      | [v], [d], _ => simpa [resD] using h3 0 d rfl
      | [], [], _ => exact .tup _ _ _ rfl (by simp)
      | v1 :: v2 :: vs, d1 :: d2 :: ds, h2 =>
        simp only [List.length_cons, resD]
        rw [dif_neg (by omega)]
        exact .tup _ _ _ (by simpa using h2) (fun q d hd => by simpa using h3 q d hd)
  | d :: l, a, w, h, hl, hq, hR => by
    obtain ⟨hnd, hall⟩ := h.df.dok
    rw [hl] at hnd hall
    obtain ⟨D, hB, rfl, hD⟩ := hall d (List.mem_cons_self ..)
    refine ⟨by simp, .inl ⟨D, _, rfl, run_takeDeferred hD, ?_⟩⟩
    have hg : RG c s { a with defers := l } (w.putObj D (.deferred none)) g := h.turn hD rfl (by simp) hB rfl ⟨(List.nodup_cons.1 hnd).2, fun d' hd' => by
      obtain ⟨D', hB', rfl, hD'⟩ := hall d' (List.mem_cons_of_mem _ hd')
      refine ⟨D', hB', rfl, ?_⟩
      rw [World.putObj_heap_other (fun e => by subst e; exact (List.nodup_cons.1 hnd).1 hd')]
      exact hD'⟩
    exact marks_leaveB l { a with defers := l } _ hg rfl hq hR
theorem retB_sound {fn : Func} {K : D → List Bx → List Row → Prop} {e : Exit} (h : RG c s a w g) (hq : retB c.P fn.results K e s) {Rr : Ending → World → Prop} (hR : ∀ v w' d, RG c s { a with defers := [] } w' g → Rel w' g v d → K d s.bx s.rw → Rr (.returned v) w') :
    bodyPostM Fence.wide 0 c.P fn Rr e a w := by
  have key : (rawL c.P s fn.results.toList fun ds => K (resD ds) s.bx s.rw) → LeavesInM Fence.wide 0 c.P fn a.tmps Rr a.defers .returning w := fun hq =>
    marks_leaveB (k := fun ds => K (resD ds) s.bx s.rw) a.defers a w h rfl hq (fun v w' ds h1 h2 h3 => hR v w' (resD ds) h1 h2 h3)
  cases e <;> first | exact key hq | exact hq.elim
end
theorem callsB_of_abs {P : Program} {f : FuncId} {fn : Func} {code : Code} {ds : List D} {bx : List Bx} {rw : List Row} {K : D → List Bx → List Row → Prop} (hf : P.funcs[f]? = some fn) (hb : fn.body = some code)
    (hc : ∀ (args : Array Value) (w : World), (callFunc f args).run P w = .ok (.enter f args) w) (hn : ds.length ≤ fn.ntmps)
    (h : ∀ c : Ctx, c.P = P → c.l = none → c.β0.length = bx.length → Abs c code (retB P fn.results K) ⟨fn.ntmps, ofL 0 ds, bx, rw⟩) : CallsB P f ds bx rw K := by
  refine ⟨hc, fun c st a W g args hP hg hbx hrw hl hrel => ?_⟩
  subst hP; subst hbx; subst hrw
  refine (callsIn_wide (n := 0)).1 (callsIn_of_wp_marks hf hb trivial ?_)
  have hen : RG (inner c W g) ⟨fn.ntmps, ofL 0 ds, st.bx, st.rw⟩ { tmps := args.toArray ++ Array.replicate (fn.ntmps - args.toArray.size) undef, defers := [] } W g := hg.enterN rfl (by simp; omega) (fun m => by
    simp only
    rw [ofL_at]
    simp only [Nat.not_lt_zero, if_false, Nat.sub_zero]
    cases hd : ds[m]? with
    | none => exact .undef _ _
    | some x =>
      have hm := (List.getElem?_eq_some_iff.1 hd).1
      have := hrel m x hd
      have e : (args.toArray ++ Array.replicate (fn.ntmps - args.toArray.size) undef).getD m undef = args.getD m undef := by
        have : m < args.length := by omega
        simp [Array.getElem?_append, this]
      rw [e]; exact this)
  have hw := h (inner c W g) rfl rfl hg.lβ _ W ⟨g, hen⟩
  refine wpIn_mono (F := Fence.wide) hw ?_
  rintro e a' w' ⟨s', ⟨g', hg'⟩, hq⟩
  exact retB_sound hg' hq (fun v w2 d h2 hv hk => ⟨v, d, s', _, g', rfl, h2, hv, hk⟩)
theorem callsB_abs {P : Program} {f : FuncId} {fn : Func} {code : Code} {ds : List D} {bx : List Bx} {rw : List Row} {K : D → List Bx → List Row → Prop} {n : Nat} {rs : Array ResultVar} (hf : P.funcs[f]? = some fn) (hn : fn.ntmps = n) (hr : fn.results = rs)
    (hc : ∀ (args : Array Value) (w : World), (callFunc f args).run P w = .ok (.enter f args) w) (hb : fn.body = some code) (hl : ds.length ≤ n)
    (h : ∀ (w0 : World) (S0 : Addr → Prop) (M0 : MM) (own : Nat → Prop) (β : List Nat), β.length = bx.length → Abs ⟨P, w0, S0, M0, none, own, β⟩ code (retB P rs K) ⟨n, ofL 0 ds, bx, rw⟩) : CallsB P f ds bx rw K := by
  subst hn; subst hr
  refine callsB_of_abs hf hb hc hl ?_
  rintro ⟨_, w0, S0, M0, l, own, b0⟩ h1 h2 h3
  simp only at h1 h2 h3
  subst h1; subst h2
  exact h w0 S0 M0 own b0 h3
/-- A datum that names no row. -/
def dropR (nb : Nat) (d : D) : D := bif namesB nb 0 d then d else .undef
def dropS (nb : Nat) (sl : Nat → D) : Nat → D := fun m => dropR nb (sl m)
theorem dropR_names (nb : Nat) (d : D) : Names nb 0 (dropR nb d) := by
  unfold dropR
  cases h : namesB nb 0 d with
  | true => exact names_of d h
  | false => exact .undef
theorem dropR_rel {w : World} {g : Gh} {v : Value} {d : D} {nb : Nat} (h : Rel w g v d) : Rel w g v (dropR nb d) := by
  unfold dropR
  cases namesB nb 0 d with
  | true => exact h
  | false => exact .undef _ _
@[go_sem] theorem dropS_put {nb : Nat} {sl : Nat → D} {n : Nat} {v : D} : dropS nb (put sl n v) = put (dropS nb sl) n (dropR nb v) := by
  funext m; simp only [dropS, put]; split <;> rfl
@[go_sem] theorem dropS_none {nb : Nat} : dropS nb none' = none' := rfl
@[go_sem] theorem dropR_int {nb : Nat} {k : IntKind} {n : Int} : dropR nb (.int k n) = .int k n := rfl
@[go_sem] theorem dropR_bool {nb : Nat} {b : Bool} : dropR nb (.bool b) = .bool b := rfl
@[go_sem] theorem dropR_list {nb : Nat} {l : List D} : dropR nb (.list l) = .list l := rfl
@[go_sem] theorem dropR_val {nb : Nat} {v : Value} : dropR nb (.val v) = .val v := rfl
@[go_sem] theorem dropR_memo {nb : Nat} {f : Memo} : dropR nb (.memo f) = .memo f := rfl
@[go_sem] theorem dropR_box {nb i off : Nat} : dropR nb (.box i off) = if i < nb then .box i off else .undef := by
  unfold dropR; simp only [namesB]; by_cases h : i < nb <;> simp [h]
@[go_sem] theorem dropR_agg {nb : Nat} {l : List D} : dropR nb (.agg l) = bif namesL nb 0 l then .agg l else .undef := rfl
@[go_sem] theorem dropR_clo {nb : Nat} {f : FuncId} {l : List D} : dropR nb (.clo f l) = bif namesL nb 0 l then .clo f l else .undef := rfl
/-- What such a call is handed: the data themselves, or what they read as. -/
def argsB (bx : List Bx) (rw : List Row) : List D → List D → Prop
  | [], [] => True
  | d :: l, d' :: l' => (d' = d ∨ pureDV bx rw d = some d') ∧ argsB bx rw l l'
  | _, _ => False
attribute [go_sem] argsB
theorem argsB_same {bx : List Bx} {rw : List Row} : ∀ {l : List D}, argsB bx rw l l
  | [] => trivial
  | _ :: _ => ⟨.inl rfl, argsB_same⟩
theorem argsB_get {c : Ctx} {s : St} {a : Act} {w : World} {g : Gh} (h : RG c s a w g) : ∀ {l l' : List D} {vs : List Value}, argsB s.bx s.rw l l' → vs.length = l.length → (∀ q x, l[q]? = some x → Rel w g (vs.getD q Go.undef) x) →
    l'.length = l.length ∧ ∀ q x, l'[q]? = some x → Rel w g (vs.getD q Go.undef) x
  | [], [], vs, _, _, _ => ⟨rfl, fun q x hx => by simp at hx⟩
  | d :: l, d' :: l', [], _, hl, _ => by simp at hl
  | d :: l, d' :: l', v :: vs, hk, hl, hr => by
    obtain ⟨h1, h2⟩ := argsB_get h (l := l) (l' := l') (vs := vs) hk.2 (by simpa using hl) (fun q x hx => by simpa using hr (q + 1) x (by simpa using hx))
    refine ⟨by simp [h1], fun q x hx => ?_⟩
    cases q with
    | zero =>
      simp at hx; subst hx
      have h0 := hr 0 d rfl
      rcases hk.1 with rfl | hp
      · simpa using h0
      · exact (pureDV_rel h (by simpa using h0) hp).keep (keeps_er _ _)
    | succ q => simpa using h2 q x (by simpa using hx)
  | [], _ :: _, _, hk, _, _ => hk.elim
  | _ :: _, [], _, hk, _, _ => hk.elim
/-- What stands ahead of such a call. -/
def atB (c : Ctx) (N : St → Prop) (fx : Operand) (xs : List Operand) (dst : Option Tmp) (s1 : St) : Prop :=
  dstOk s1 dst ∧ wFn (s1.ev fx) fun f fs cs => ∃ ds, argsB s1.bx s1.rw (fs ++ xs.map s1.ev ++ cs) ds ∧ CallsB c.P f ds s1.bx s1.rw fun d bx' rw' => N (St.put ⟨s1.n, dropS s1.bx.length s1.sl, bx', rw'⟩ dst d)
theorem atB_intro {c : Ctx} {N : St → Prop} {fx : Operand} {xs : List Operand} {dst : Option Tmp} {s1 : St} (h2 : wFn (s1.ev fx) fun f fs cs => ∃ ds, argsB s1.bx s1.rw (fs ++ xs.map s1.ev ++ cs) ds ∧ CallsB c.P f ds s1.bx s1.rw fun d bx' rw' => N (St.put ⟨s1.n, dropS s1.bx.length s1.sl, bx', rw'⟩ dst d)) (h1 : dstOk s1 dst) : atB c N fx xs dst s1 := ⟨h1, h2⟩
section
variable {c : Ctx} {s : St}
theorem callB_in {N : St → Prop} {y : Oper} {fx : Operand} {xs : Array Operand} {dst : Option Tmp} {at_ : Array TypeId} {ty : TypeId} {pos : String} {aft : Array Edge} {s1 : St} {a1 : Act} {w1 : World} {N' : Act → World → Prop} {Q' : Exit → Act → World → Prop}
    (hy : y = ⟨dst, .call ⟨.value fx, xs, at_⟩, ty, pos, aft, none⟩) (hr : R c s1 a1 w1) (hk : atB c N fx xs.toList dst s1) (hN : ∀ s a w, R c s a w → N s → N' a w) : y.wpIn c.F 0 c.P a1 w1 N' Q' := by
  obtain ⟨hd, hk⟩ := hk
  obtain ⟨g1, hg1⟩ := hr
  obtain ⟨f, fs, cs, ⟨vf⟩, ⟨vs⟩, ⟨ds, hp, hC⟩, hv, hlf, hl, hrf, hr⟩ := wFn_rel (hg1.ev fx) hk
  have hlf' : vf.length = fs.length := by simpa using hlf
  have hl' : vs.length = cs.length := by simpa using hl
  have hrun : (execOp a1.eval y).run c.P w1 = .ok (.enter f (vf ++ xs.toList.map a1.eval ++ vs).toArray) w1 := by
    simp [execOp, hy, resolve, hv, Deferred.ofValue, invoke]
    rw [hC.1]
    simp
  obtain ⟨e1, e2⟩ := argsB_get hg1 (vs := vf ++ xs.toList.map a1.eval ++ vs) hp (by simp [hlf', hl']) (fun q y hy => by
    rw [List.getD_eq_getElem?_getD]
    rw [List.append_assoc] at hy ⊢
    rcases Nat.lt_or_ge q fs.length with hq | hq
    · rw [List.getElem?_append_left hq] at hy
      rw [List.getElem?_append_left (by omega)]
      have := hrf q y hy
      simpa using this
    rw [List.getElem?_append_right hq] at hy
    rw [List.getElem?_append_right (by omega), hlf']
    rcases Nat.lt_or_ge (q - fs.length) (xs.toList.map s1.ev).length with hq | hq
    · rw [List.getElem?_append_left hq] at hy
      simp only [List.getElem?_map, Option.map_eq_some_iff] at hy
      obtain ⟨z, hz, rfl⟩ := hy
      rw [List.getElem?_append_left (by simpa using hq)]
      simp only [List.getElem?_map, hz, Option.map_some, Option.getD_some]
      exact hg1.ev z
    · rw [List.getElem?_append_right hq] at hy
      have := hr _ y hy
      rw [List.getElem?_append_right (by simpa using hq)]
      simpa using this)
  have hg2 : RG c ⟨s1.n, dropS s1.bx.length s1.sl, s1.bx, s1.rw⟩ a1 w1 g1 := ⟨hg1.df, hg1.sz, hg1.below, hg1.own0, hg1.good, hg1.from0, hg1.S0, hg1.good0, hg1.lβ, hg1.lρ, fun m => dropR_rel (hg1.sl m), hg1.bx, hg1.fz, hg1.rw, hg1.ap⟩
  have hcl := hC.2 c _ a1 w1 g1 (vf ++ xs.toList.map a1.eval ++ vs) rfl hg2 rfl rfl (by simp only [List.length_append, List.length_map] at e1 ⊢; omega) e2
  refine op_in (by rw [hy]; intro cl h; cases h) ?_
  unfold Oper.wp
  rw [hrun]
  refine hcl.mono ?_
  rintro e w' ⟨v, d, s2, a2, g2, rfl, h2, hrel, hk2⟩
  have hb := hg2.leaveN h2 (fun m => dropR_names _ _)
  have hyd : y.dst = dst := by rw [hy]
  show N' (a1.put y.dst v) w'
  rw [hyd]
  exact hN _ _ _ ⟨_, hb.put hd hrel⟩ hk2
/-- A region with such a call. -/
theorem abs_regionB {Q : Exit → St → Prop} {id : Nat} {l : List Oper} (n : Nat) {fx : Operand} {xs : Array Operand} {dst : Option Tmp} {at_ : Array TypeId} {ty : TypeId} {pos : String} {aft : Array Edge}
    (hl : l = l.take n ++ ⟨dst, .call ⟨.value fx, xs, at_⟩, ty, pos, aft, none⟩ :: l.drop (n + 1))
    (h : ∀ K1 : St → Prop, (∀ s1, atB c (fun s2 => evOps c.P l (l.drop (n + 1)) s2 (fun s2 => Q .normal s2)) fx xs.toList dst s1 → K1 s1) → evOps c.P l (l.take n) s K1) :
    Abs c (.region id l.toArray false) Q s := by
  intro a w hr
  refine wpIn_region_lit ?_
  rw [hl]
  rw [hl] at h
  have hl1 : (l.take n ++ (⟨dst, .call ⟨.value fx, xs, at_⟩, ty, pos, aft, none⟩ : Oper) :: l.drop (n + 1)).take n = l.take n := by rw [← hl]
  have hl2 : (l.take n ++ (⟨dst, .call ⟨.value fx, xs, at_⟩, ty, pos, aft, none⟩ : Oper) :: l.drop (n + 1)).drop (n + 1) = l.drop (n + 1) := by rw [← hl]
  rw [hl1, hl2] at h
  generalize l.take n = l1 at *
  generalize l.drop (n + 1) = l2 at *
  obtain ⟨y, hy⟩ : ∃ y : Oper, y = ⟨dst, .call ⟨.value fx, xs, at_⟩, ty, pos, aft, none⟩ := ⟨_, rfl⟩
  rw [← hy] at h ⊢
  refine evOps_pre (c := c) (fun s1 a1 w1 hr1 hk1 => ?_) l1 s a w hr (h _ (fun s1 h1 => h1))
  show wpListIn c.F 0 c.P _ _ (y :: l2) a1 w1
  unfold wpListIn
  rw [if_pos (by rw [hy]; simp [Region.wanted])]
  exact callB_in (c := c) hy hr1 hk1 (fun s3 a3 w3 hr3 hk3 => evOps_sound (c := c) (K := fun s2 => Q .normal s2) (fun s4 a4 w4 hr4 hk4 => ⟨s4, hr4, hk4⟩) l2 _ _ _ hr3 hk3)
end
attribute [go_sem] rawK rawL retB
end Go.Ab
end
section
namespace Go.Ab
open Go.RowKit
/-!
  Ranges over a value of a method; yields of more than one datum.
-/
/-- A method that yields these data, one after the other. -/
def IterM (P : Program) (gf : FuncId) (cs : List D) (xs : List (List D)) : Prop :=
  (∀ (args : Array Value) (w : World), (callFunc gf args).run P w = .ok (.enter gf args) w) ∧
  ∀ (S : Addr → Prop) (M : MM) (w : World) (lb : List Value), Tab w → Good w S → MOk w M → lb.length = cs.length → (∀ q x, cs[q]? = some x → Rel w ⟨S, [], [], M⟩ (lb.getD q Go.undef) x) →
    ∀ (l : Nat) (J Jx : Nat → Inv), (∀ k, Abides (J k)) → (∀ k, Abides (Jx k)) →
      (∀ k T S M W (args : List Value) x, xs[k]? = some x → J k T S M W → args.length = x.length → (∀ q d, x[q]? = some d → Rel W ⟨S, [], [], M⟩ (args.getD q Go.undef) d) →
        YieldAt Fence.wide 0 P l args.toArray W fun e W' => ∃ S' M', FGrow T S M W S' M' W' ∧ ((e = .returned (.bool true) ∧ J (k + 1) T S' M' W') ∨ (e = .returned (.bool false) ∧ Jx (k + 1) T S' M' W'))) →
      J 0 (fun _ => False) S M w →
      Calls P gf (lb ++ [Value.func (.yield l) #[] #[]]).toArray w fun e w' => (∃ v, e = .returned v) ∧ ∃ T S' M', J xs.length T S' M' w' ∨ ∃ k, Jx k T S' M' w'
section
variable {P : Program} {w0 : World} {S0 : Addr → Prop} {M0 : MM} {own : Nat → Prop} {β0 : List Nat}
/-- **A range over a value of a method.** -/
theorem abs_rangeMeth {gx : Operand} {ps : Array Tmp} {assign body : Code} {Q : Exit → St → Prop} {s : St} {gf : FuncId} {cs cs' : List D} {xs : List (List D)}
    (hg : s.ev gx = .mth gf cs) (hp : pureDs s.bx s.rw cs = some cs') (hI : IterM P gf cs' xs) (hxs : ∀ x ∈ xs, x.length = ps.size) (hps : ∀ p ∈ ps.toList, p < s.n)
    (sl0 : Nat → D) (bx : Nat → List Bx) (rw : Nat → List Row) (nb : Nat) (hle : Le s ⟨s.n, sl0, bx 0, rw 0⟩) (hsl : ∀ m, Names nb 0 (sl0 m))
    (hnb : ∀ k, k ≤ xs.length → (bx k).length = nb) (hnm : ∀ k, k ≤ xs.length → (⟨s.n, none', bx k, rw k⟩ : St).named) (hβ : β0.length ≤ nb)
    (round : ∀ (k : Nat) (x : List D), xs[k]? = some x → ∀ (w1 : World) (S1 : Addr → Prop) (M1 : MM) (l : Nat) (o1 : Nat → Prop) (b1 : List Nat), b1.length = nb →
      Abs ⟨P, w1, S1, M1, some l, o1, b1⟩ assign (thenQ (fun s' => ∀ (w2 : World) (S2 : Addr → Prop) (M2 : MM) (o2 : Nat → Prop), Abs ⟨P, w2, S2, M2, some l, o2, b1⟩ body (roundQ s.n nb sl0 (bx (k + 1)) (rw (k + 1)) Q) s') (fun _ _ => False))
        ⟨s.n, putL ps.toList x sl0, bx k, rw k⟩)
    (done : Q .normal ⟨s.n, sl0, bx xs.length, rw xs.length⟩) : Abs ⟨P, w0, S0, M0, none, own, β0⟩ (.rangeFunc gx ps assign body) Q s := by
  obtain ⟨c, hc⟩ : ∃ c : Ctx, c = ⟨P, w0, S0, M0, none, own, β0⟩ := ⟨_, rfl⟩
  rw [← hc]
  have hcP : c.P = P := by rw [hc]
  have hcF : c.F = Fence.wide := by rw [hc]; rfl
  intro a w hr
  obtain ⟨g, hgs⟩ := hr
  -- the iterator's value
  have hv := hgs.ev gx
  rw [hg] at hv
  generalize hve : a.eval gx = vx at hv
  have hnamed0 : (⟨s.n, sl0, bx 0, rw 0⟩ : St).named := ⟨fun m => by
    have h1 := hsl m
    have hb0 := hnb 0 (Nat.zero_le _)
    simp only [hb0]
    exact h1.mono0, (hnm 0 (Nat.zero_le _)).2⟩
  have hβ' : c.β0.length ≤ (⟨s.n, sl0, bx 0, rw 0⟩ : St).bx.length := by rw [hc]; simpa [hnb 0 (Nat.zero_le _)] using hβ
  have h0 := hgs.le hle hnamed0 hβ'
  cases hv with
  | mth _ _ vs _ hvl hvr =>
  obtain ⟨vs⟩ := vs
  obtain ⟨e1, e2⟩ := pureDs_get hp
  have hlb : vs.length = cs'.length := by rw [e1]; simpa using hvl
  have hlr : ∀ q x, cs'[q]? = some x → Rel w ⟨g.S, [], [], g.M⟩ (vs.getD q Go.undef) x := fun q x hx => by
    obtain ⟨y, hy, hpy⟩ := e2 q x hx
    exact pureD_rel hgs (by simpa using hvr q y hy) hpy
  refine wpIn_rangeFunc ?_
  intro fn hfn
  have hro : c.F.round = none := by rw [hcF]; rfl
  rw [hro]
  obtain ⟨rec, hrec⟩ : ∃ rec : LoopState → Option Code → Loop, rec = fun st pe => { state := st, pending := pe, fn, tmps := a.tmps, params := ps, assign, body, defers := w.heap.size } := ⟨_, rfl⟩
  obtain ⟨W1, hW1⟩ : ∃ W1, (w.alloc (.deferred (some []))).alloc (.loop (rec .ready none)) = W1 := ⟨_, rfl⟩
  have hL1 : W1.heap[w.heap.size + 1]? = some (.loop (rec .ready none)) := by
    rw [← hW1]; have := World.alloc_heap_new (w.alloc (.deferred (some []))) (.loop (rec .ready none)); rwa [World.size_alloc] at this
  have hK1 : W1.heap[w.heap.size]? = some (.deferred (some [])) := by
    rw [← hW1]; exact (Below.heap_alloc _ _ _ (by simp)).trans (World.alloc_heap_new w _)
  have hb1 : Below w.heap.size w W1 := by rw [← hW1]; exact (((Below.refl _ w).alloc (Nat.le_refl _) _).alloc (by simp) _)
  have hsz : c.w0.heap.size ≤ w.heap.size := hgs.below.size
  have h1 := h0.world hb1 (fun _ h => h) (fun _ h => .inl h) (h0.good.below hb1)
  have hM1 : MOk W1 g.M := h1.df.mok
  have hS1 : Good W1 g.S := h1.good
  refine ⟨w.heap.size + 1, [{ target := .collected w.heap.size, args := #[] }], W1, { target := .fn (.func gf) #[], args := vs.toArray ++ #[.func (.yield (w.heap.size + 1)) #[] #[]] }, W1, gf,
    (vs ++ [Value.func (.yield (w.heap.size + 1)) #[] #[]]).toArray, W1, ?_, ?_, ?_, ?_, fun h => (by rw [hcF] at h; cases h), ?_⟩
  · rw [← hW1, hrec]; exact run_enterLoop_outer _ _ _ _ _
  · simp only [resolve, hve]
    simp [go_sem]
  · intro f' _; rw [hcF]; trivial
  · have := hI.1 (vs ++ [Value.func (.yield (w.heap.size + 1)) #[] #[]]).toArray W1
    rw [hcP]
    simp [invoke, go_sem]
    simpa using this
  rw [hcF, hcP]
  refine callsIn_wide.2 ((hI.2 g.S g.M W1 vs (h1.df.tab.at h1.below) hS1 hM1 hlb (fun q x hx => (hlr q x hx).keep ⟨fun y hy => by
      obtain ⟨u, hu⟩ := hgs.good y hy
      obtain ⟨cc, tt, ff, hcc⟩ := cell_cells hu
      exact World.cell?_of_block (hb1.block _ (Array.getElem?_eq_some_iff.1 hcc).1), fun _ h => h, fun _ _ h => h, fun _ _ h => h, fun _ _ h => h⟩)
    (w.heap.size + 1) (fun k T S M W => k ≤ xs.length ∧ JJ c a (w.heap.size + 1) w.heap.size ⟨s.n, sl0, bx k, rw k⟩ (rec .ready none) T S M W)
    (fun _ T S M W => ∃ e cd bxx rwx, exC e = some cd ∧ Q e ⟨s.n, sl0, bxx, rwx⟩ ∧ JJ c a (w.heap.size + 1) w.heap.size ⟨s.n, sl0, bxx, rwx⟩ (rec .done (some cd)) T S M W)
    (fun k T S M W T' S' M' W' h hi => ⟨h.1, JJ_abides T S M W T' S' M' W' h.2 hi⟩)
    (fun k T S M W T' S' M' W' h hi => by obtain ⟨e, cd, bxx, rwx, h1, h2, h3⟩ := h; exact ⟨e, cd, bxx, rwx, h1, h2, JJ_abides T S M W T' S' M' W' h3 hi⟩) ?_ ?_).mono ?_)
  · -- a round
    rintro k T S M W args x hx ⟨hk, g1, rfl, rfl, hg1, hf, hL, hD, hT⟩ hlen hrel
    have hxl : x.length = ps.size := hxs x (List.mem_of_getElem? hx)
    have hkl : k < xs.length := (List.getElem?_eq_some_iff.1 hx).1
    have hbk : (bx k).length = nb := hnb k hk
    have hy := run_yield (P := P) (args := args.toArray) hL (by rw [hrec]; simp; omega)
    rw [hrec] at hy
    refine ⟨fn, _, assign, body, hy, roundIn_of_wpIn trivial ?_⟩
    have hfold : ((ps.zip args.toArray).foldl (fun t (p, v) => t.setIfInBounds p v) a.tmps) = ((ps.toList.zip args).foldl (fun t (p, v) => t.setIfInBounds p v) a.tmps) := by
      rw [← Array.foldl_toList]; simp
    obtain ⟨q1, q2⟩ := putL_rel (w := W) (g := g1) ps.toList x args sl0 a.tmps hlen (fun q d hd => (hrel q d hd).keep (er_up _ _ _ _ _)) (fun p hp => by rw [hg1.sz]; exact hps p hp) (fun m => hg1.sl m)
    have hen := hg1.enter hf (some (w.heap.size + 1)) (a' := { tmps := (ps.zip args.toArray).foldl (fun t (p, v) => t.setIfInBounds p v) a.tmps, defers := [] }) (sl := putL ps.toList x sl0) rfl (by rw [hfold]; exact q1) (by rw [hfold]; exact q2)
    rw [hcP] at hen
    have hA := round k x hx W g1.S g1.M (w.heap.size + 1) _ g1.β (by rw [hg1.lβ]; exact hbk) _ W ⟨g1, hen⟩
    refine wpIn_mono hA ?_
    rintro e a1 w1 ⟨s1, ⟨g2, h2⟩, hq⟩
    cases e with
    | normal =>
      have hWl := (Array.getElem?_eq_some_iff.1 hL).1
      have hLn : ¬ (W.heap.size ≤ w.heap.size + 1 ∨ (c.own (w.heap.size + 1) ∧ ¬ T (w.heap.size + 1) ∧ ∃ cs t fz, W.heap[w.heap.size + 1]? = some (.cells cs t fz))) := fun h => by
        rcases h with h | ⟨_, _, cs, t, fz, h⟩
        · omega
        · rw [hL] at h; cases h
      have hL2 : w1.heap[w.heap.size + 1]? = some (.loop (rec .ready none)) := (h2.below.block _ hWl (fun h => h.elim hLn (fun h => h (hg1.df.mok.noLoop hL)))).trans hL
      have hbr := run_beginRound (P := P) hL2 (by rw [hrec])
      have hre := h2.rebase (w' := w1.putObj (w.heap.size + 1) (.loop { rec .ready none with state := .busy })) (put_cells hL2) (put_maps hL2) ⟨h2.df.dok.1, fun d hd => by
        obtain ⟨D2, hB, rfl, hd2⟩ := h2.df.dok.2 d hd
        exact ⟨D2, hB, rfl, (World.putObj_heap_other (fun e => by subst e; rw [hL2] at hd2; cases hd2)).trans hd2⟩⟩ (fun b hb => h2.own0 b (by have := h2.below.size; simp only [World.putObj_size] at hb; exact Nat.le_trans this hb))
      have hB := hq (w1.putObj (w.heap.size + 1) (.loop { rec .ready none with state := .busy })) g2.S g2.M _ a1 _ ⟨g2, hre⟩
      refine ⟨_, hbr, wpIn_mono hB ?_⟩
      rintro e a3 W3 ⟨s3, ⟨g3, h3⟩, hq3⟩
      have hL2s : (w1.putObj (w.heap.size + 1) (.loop { rec .ready none with state := .busy })).heap[w.heap.size + 1]? = some (.loop { rec .ready none with state := .busy }) := World.putObj_heap_same (Array.getElem?_eq_some_iff.1 hL2).1
      have hlt2 := (Array.getElem?_eq_some_iff.1 hL2s).1
      have hL3 : W3.heap[w.heap.size + 1]? = some (.loop { rec .ready none with state := .busy }) := (h3.below.block _ hlt2 (fun h => h.elim hLn (fun h => h (hre.df.mok.noLoop hL2s)))).trans hL2s
      have l1 : Later (fun b => W.heap.size ≤ b ∨ b = w.heap.size + 1 ∨ (c.own b ∧ ¬ T b ∧ ∃ cs t fz, W.heap[b]? = some (.cells cs t fz))) W g1 w1 g2 := h2.later rfl rfl rfl (fun b hb => hb.elim .inl (fun h => .inr (.inr h)))
      have l2 := later_put (p := fun b => W.heap.size ≤ b ∨ b = w.heap.size + 1 ∨ (c.own b ∧ ¬ T b ∧ ∃ cs t fz, W.heap[b]? = some (.cells cs t fz))) h2.good hL2 (.inr (.inl rfl)) (.loop { rec .ready none with state := .busy })
      have l3 : Later (fun b => W.heap.size ≤ b ∨ b = w.heap.size + 1 ∨ (c.own b ∧ ¬ T b ∧ ∃ cs t fz, W.heap[b]? = some (.cells cs t fz))) _ g2 W3 g3 := h3.later rfl rfl rfl (fun b hb => hb.elim .inl (fun h => .inr (.inr h)))
      have hl := (l1.trans l2 (fun b hb => .inl hb)).trans l3 (fun b hb => .inl hb)
      have hend := fun (jump : Option Code) => run_endRound (P := P) jump hL3
      have fin : ∀ (bxx : List Bx) (rwx : List Row) (r2 : Loop), Le s3 ⟨s.n, none', bxx, rwx⟩ → bxx.length = nb → (⟨s.n, none', bxx, rwx⟩ : St).named →
          ∃ S' M', FGrow T g1.S g1.M W S' M' (W3.putObj (w.heap.size + 1) (.loop r2)) ∧ JJ c a (w.heap.size + 1) w.heap.size ⟨s.n, sl0, bxx, rwx⟩ r2 T S' M' (W3.putObj (w.heap.size + 1) (.loop r2)) := fun bxx rwx r2 hle hlen hnm =>
        round_end (st := ⟨s.n, sl0, bx k, rw k⟩) (nb := nb) hg1 hf hL hD hT (by omega) hbk h3 rfl (fun b hb => hb) hl hL3 (by rw [show (⟨s.n, sl0, bx k, rw k⟩ : St).bx.length = nb from hbk]; exact hsl) hle hlen hnm
      have leave : ∀ cd, exC e = some cd → roundQ s.n nb sl0 (bx (k + 1)) (rw (k + 1)) Q e s3 → e ≠ .normal → ∃ v w', (Instr.endRound (w.heap.size + 1) (some cd)).run P W3 = .ok v w' ∧ ∃ S' M', FGrow T g1.S g1.M W S' M' w' ∧
          ((Ending.returned v = .returned (.bool true) ∧ k + 1 ≤ xs.length ∧ JJ c a (w.heap.size + 1) w.heap.size ⟨s.n, sl0, bx (k + 1), rw (k + 1)⟩ (rec .ready none) T S' M' w') ∨
           (Ending.returned v = .returned (.bool false) ∧ ∃ e cd bxx rwx, exC e = some cd ∧ Q e ⟨s.n, sl0, bxx, rwx⟩ ∧ JJ c a (w.heap.size + 1) w.heap.size ⟨s.n, sl0, bxx, rwx⟩ (rec .done (some cd)) T S' M' w')) := fun cd hcd hq hne => by
        have hq' : ∃ bxx rwx, bxx.length = nb ∧ (⟨s.n, none', bxx, rwx⟩ : St).named ∧ Le s3 ⟨s.n, none', bxx, rwx⟩ ∧ Q e ⟨s.n, sl0, bxx, rwx⟩ := by
          cases e <;> first | exact (hne rfl).elim | exact hq.2
        obtain ⟨bxx, rwx, h5, h6, h7, h8⟩ := hq'
        have he := hend (some cd)
        obtain ⟨S', M', f1, f2⟩ := fin bxx rwx (rec .done (some cd)) h7 h5 h6
        rw [hrec] at he f1 f2 ⊢
        exact ⟨_, _, he, S', M', f1, .inr ⟨rfl, e, cd, bxx, rwx, hcd, h8, f2⟩⟩
      cases e with
      | normal =>
        have he := hend none
        obtain ⟨S', M', f1, f2⟩ := fin (bx (k + 1)) (rw (k + 1)) (rec .ready none) hq3 (hnb _ hkl) (hnm _ hkl)
        rw [hrec] at he f1 f2 ⊢
        exact ⟨_, _, he, S', M', f1, .inl ⟨rfl, hkl, f2⟩⟩
      | ret => exact leave _ rfl hq3 (by simp)
      | exit id => exact leave _ rfl hq3 (by simp)
      | goto t => exact leave _ rfl hq3 (by simp)
      | panic ch => exact absurd hq3.1 (by simp [exC])
      | outgrown => exact absurd hq3.1 (by simp [exC])
    | exit id => exact hq.elim
    | goto l => exact hq.elim
    | ret => exact hq.elim
    | panic ch => exact hq.elim
    | outgrown => exact hq.elim
  · -- at the start
    refine ⟨Nat.zero_le _, _, ?_, ?_, h1, ⟨fun _ _ _ _ _ _ h => h, fun _ _ _ _ _ _ _ _ h => h, fun _ _ _ _ h => h, fun _ h => h.elim⟩, hL1, hK1, fun _ h => h.elim⟩ <;> rfl
  · -- behind it
    have hfinal : ∀ (st : St) (r : Loop) (T : Nat → Prop) (S : Addr → Prop) (M : MM) (W : World), r.state ≠ .busy → JJ c a (w.heap.size + 1) w.heap.size st r T S M W →
        (Instr.endLoop (w.heap.size + 1)).run P W = .ok r.pending (W.putObj (w.heap.size + 1) (.loop { r with state := .exhausted })) ∧
        R c st { a with defers := { target := .collected w.heap.size, args := #[] } :: a.defers } (W.putObj (w.heap.size + 1) (.loop { r with state := .exhausted })) := fun st r T S M W hb hJ => by
      obtain ⟨g1, rfl, rfl, hg1, hf, hL, hD, hT⟩ := hJ
      refine ⟨run_endLoop (P := P) hL hb, g1, hg1.turn hL rfl (by simp) (hg1.own0 _ (by omega)) rfl ⟨List.nodup_cons.2 ⟨fun hm => ?_, hg1.df.dok.1⟩, fun d hd => ?_⟩⟩
      · obtain ⟨D', _, e, hd'⟩ := hgs.df.dok.2 _ hm
        cases e
        have := (Array.getElem?_eq_some_iff.1 hd').1; omega
      · rcases List.mem_cons.1 hd with rfl | hd
        · exact ⟨w.heap.size, hg1.own0 _ hsz, rfl, (World.putObj_heap_other (by omega)).trans hD⟩
        · obtain ⟨D2, hB, rfl, hd2⟩ := hg1.df.dok.2 d hd
          exact ⟨D2, hB, rfl, (World.putObj_heap_other (fun e => by subst e; rw [hL] at hd2; cases hd2)).trans hd2⟩
    rintro e W2 ⟨⟨v, rfl⟩, T, S', M', ⟨hk, hJ⟩ | ⟨k, e', cd, bxx, rwx, he, hq, hJ⟩⟩
    · obtain ⟨h3, h4⟩ := hfinal _ _ _ _ _ _ (by rw [hrec]; simp) hJ
      rw [hrec] at h3 h4
      exact ⟨none, _, h3, _, h4, done⟩
    · obtain ⟨h3, h4⟩ := hfinal _ _ _ _ _ _ (by rw [hrec]; simp) hJ
      rw [hrec] at h3 h4
      refine ⟨some cd, _, h3, ?_⟩
      have := exC_wp (c := c) (Q := fun e a' w' => ∃ s', R c s' a' w' ∧ Q e s') he ⟨_, h4, hq⟩
      rw [hcF, hcP] at this
      exact this
end
theorem ia_yieldN {c : IC} {Q : Exit → Ix → St → Prop} {s : St} {k id : Nat} {l1 l2 : List Oper} {fx : Operand} {ys : Array Operand} {dst : Option Tmp} {at_ : Array TypeId} {ty : TypeId} {pos : String} {aft : Array Edge} {gd : Option (Nat × Bool)}
    (h : ∀ K1 : St → Prop, (∀ s1 d, s1.ev fx = .val (.func (.yield c.l) #[] #[]) → pureDs s1.bx s1.rw (ys.toList.map s1.ev) = some d → c.xs[k]? = some d → dstOk s1 dst → (∀ (j : Nat) (b : Bool), gd = some (j, b) → ∃ t, gslot (l1 ++ ⟨dst, .call ⟨.value fx, ys, at_⟩, ty, pos, aft, gd⟩ :: l2) j = some t ∧ s1.sl t = .bool b) → 
        (∀ b : Bool, evOps c.P (l1 ++ ⟨dst, .call ⟨.value fx, ys, at_⟩, ty, pos, aft, gd⟩ :: l2) l2 (s1.put dst (.bool b)) (fun s2 => Q .normal (b, k + 1) s2)) → K1 s1) →
      evOps c.P (l1 ++ ⟨dst, .call ⟨.value fx, ys, at_⟩, ty, pos, aft, gd⟩ :: l2) l1 s K1) :
    IA c (.region id (l1 ++ ⟨dst, .call ⟨.value fx, ys, at_⟩, ty, pos, aft, gd⟩ :: l2).toArray false) Q (true, k) s := by
  intro hok a w T S M hJ ⟨lt, g, e1, e2, hg⟩
  obtain ⟨y, hy⟩ : ∃ y : Oper, y = ⟨dst, .call ⟨.value fx, ys, at_⟩, ty, pos, aft, gd⟩ := ⟨_, rfl⟩
  rw [← hy] at h ⊢
  refine wpIn_region_lit ?_
  have hev := h (fun s1 => ∃ d, s1.ev fx = .val (.func (.yield c.l) #[] #[]) ∧ pureDs s1.bx s1.rw (ys.toList.map s1.ev) = some d ∧ c.xs[k]? = some d ∧ dstOk s1 dst ∧ (∀ (j : Nat) (b : Bool), gd = some (j, b) → ∃ t, gslot (l1 ++ y :: l2) j = some t ∧ s1.sl t = .bool b) ∧
      ∀ b : Bool, evOps c.P (l1 ++ y :: l2) l2 (s1.put dst (.bool b)) (fun s2 => Q .normal (b, k + 1) s2)) (fun s1 d h1 h2 h3 h4 hgd h6 => ⟨d, h1, h2, h3, h4, hgd, h6⟩)
  refine evOps_pre (c := ⟨c.P, w, S, M, none, fun b => T b ∨ w.heap.size ≤ b, []⟩) (fun s1 a1 w1 hr1 hk1 => ?_) l1 s a w ⟨g, hg⟩ hev
  obtain ⟨g1, hg1⟩ := hr1
  obtain ⟨d, h1, h2, h3, h4, hgd, h6⟩ := hk1
  obtain ⟨T1, hi, hr⟩ := IR.next lt hg1
  have hJ1 := hok.ab (true, k) _ _ _ _ _ _ _ _ hJ hi
  have hfx := hg1.ev fx
  rw [h1] at hfx
  generalize hv : a1.eval fx = vf at hfx
  cases hfx
  obtain ⟨q1, q2⟩ := pureDs_get h2
  have hY := hok.rd k T1 g1.S g1.M w1 (ys.toList.map a1.eval) d h3 hJ1 (by rw [q1]; simp) (fun q dd hq => by
    obtain ⟨z, hz, hp⟩ := q2 q dd hq
    simp only [List.getElem?_map, Option.map_eq_some_iff] at hz
    obtain ⟨u, hu, rfl⟩ := hz
    rw [List.getD_eq_getElem?_getD]
    simp only [List.getElem?_map, hu, Option.map_some, Option.getD_some]
    exact pureD_rel hg1 (hg1.ev u) hp)
  obtain ⟨fn, tmps, assign, body, hrun, hround⟩ := hY
  show wpListIn Fence.wide 0 c.P _ _ (y :: l2) a1 w1
  unfold wpListIn
  have hwant : Region.wanted y (Go.yielded (l1 ++ y :: l2).toArray a1.tmps) = true := by
    have hgy : y.guard = gd := by rw [hy]
    cases gd with
    | none => simp [Region.wanted, hgy]
    | some q =>
      obtain ⟨j, b⟩ := q
      obtain ⟨t, ht, hb⟩ := hgd j b rfl
      have hyl := R.yielded (ops := (l1 ++ y :: l2).toArray) hg1 (by simpa using ht) hb
      simp [Region.wanted, hgy, hyl]
  rw [if_pos hwant]
  refine ⟨fun _ _ => trivial, ?_⟩
  have hsem : (y.semAt Fence.wide.round a1.eval).run c.P w1 = .ok (.round c.l fn tmps assign body) w1 := by
    rw [Oper.semAt_eq _ _ _ (by rw [hy]; intro cl h; cases h), hy]
    simp [execOp, resolve, hv, Deferred.ofValue, invoke, hrun]
    rw [← Array.toList_map, Array.toArray_toList] at hrun
    simp [hrun]
  rw [hsem, Oper.uponIn_round]
  refine ⟨fun h => (by cases h), hround.mono ?_⟩
  rintro e w2 ⟨S2, M2, hf, hres⟩
  have hr2 := hr.round hf
  have fin : ∀ b : Bool, JX c.J c.Jx (b, k + 1) T1 S2 M2 w2 → wpListIn Fence.wide 0 c.P (l1 ++ y :: l2).toArray (fun e a' w' => ∃ i' s' T' S' M', JX c.J c.Jx i' T' S' M' w' ∧ IR c.P T' S' M' s' a' w' ∧ Q e i' s') l2 (a1.put y.dst (.bool b)) w2 := by
    intro b hJ2
    obtain ⟨lt2, g2, f1, f2, hg2⟩ := hr2
    have hp2 : RG ⟨c.P, w2, S2, M2, none, fun b => T1 b ∨ w2.heap.size ≤ b, []⟩ (s1.put dst (.bool b)) (a1.put dst (.bool b)) w2 g2 := hg2.put h4 (.bool _ _)
    have hyd : y.dst = dst := by rw [hy]
    rw [hyd]
    refine evOps_sound (c := ⟨c.P, w2, S2, M2, none, fun b => T1 b ∨ w2.heap.size ≤ b, []⟩) (K := fun s2 => Q .normal (b, k + 1) s2) (fun s3 a3 w3 hr3 hk3 => ?_) l2 _ _ _ ⟨g2, hp2⟩ (h6 b)
    obtain ⟨g3, hg3⟩ := hr3
    obtain ⟨T3, hi3, hr3'⟩ := IR.next lt2 hg3
    exact ⟨(b, k + 1), s3, T3, _, _, hok.ab (b, k + 1) _ _ _ _ _ _ _ _ hJ2 hi3, hr3', hk3⟩
  rcases hres with ⟨rfl, hJ2⟩ | ⟨rfl, hJ2⟩
  · exact fin true hJ2
  · exact fin false hJ2
theorem ia_yieldNAt {c : IC} {Q : Exit → Ix → St → Prop} {s : St} {k id : Nat} {l : List Oper} (n : Nat) {fx : Operand} {ys : Array Operand} {dst : Option Tmp} {at_ : Array TypeId} {ty : TypeId} {pos : String} {aft : Array Edge} {gd : Option (Nat × Bool)}
    (hl : l = l.take n ++ ⟨dst, .call ⟨.value fx, ys, at_⟩, ty, pos, aft, gd⟩ :: l.drop (n + 1))
    (h : ∀ K1 : St → Prop, (∀ s1 d, s1.ev fx = .val (.func (.yield c.l) #[] #[]) → pureDs s1.bx s1.rw (ys.toList.map s1.ev) = some d → c.xs[k]? = some d → dstOk s1 dst → (∀ (j : Nat) (b : Bool), gd = some (j, b) → ∃ t, gslot l j = some t ∧ s1.sl t = .bool b) → 
        (∀ b : Bool, evOps c.P l (l.drop (n + 1)) (s1.put dst (.bool b)) (fun s2 => Q .normal (b, k + 1) s2)) → K1 s1) →
      evOps c.P l (l.take n) s K1) :
    IA c (.region id l.toArray false) Q (true, k) s := by
  have h2 := ia_yieldN (c := c) (Q := Q) (s := s) (k := k) (id := id) (l1 := l.take n) (l2 := l.drop (n + 1)) (fx := fx) (ys := ys) (dst := dst) (at_ := at_) (ty := ty) (pos := pos) (aft := aft) (gd := gd)
  rw [← hl] at h2
  exact h2 h
theorem iterM_of_ia {P : Program} {f : FuncId} {fn : Func} {code : Code} {cs : List D} {xs : List (List D)} {n : Nat} {rs : Array ResultVar} (hf : P.funcs[f]? = some fn) (hn : fn.ntmps = n) (hr : fn.results = rs)
    (hc : ∀ (args : Array Value) (w : World), (callFunc f args).run P w = .ok (.enter f args) w) (hb : fn.body = some code) (hl : cs.length + 1 ≤ n)
    (h : ∀ (l : Nat) (J Jx : Nat → Inv), IA ⟨P, l, xs, J, Jx⟩ code (retI xs.length rs) (true, 0) ⟨n, ofL 0 (cs ++ [.val (.func (.yield l) #[] #[])]), [], []⟩) : IterM P f cs xs := by
  subst hn; subst hr
  refine ⟨hc, fun S M w lb hTb hS hM hlb hrel l J Jx hJa hJxa hY hJ0 => ?_⟩
  refine (callsIn_wide (n := 0)).1 (callsIn_of_wp_marks hf hb trivial ?_)
  have hok : IC.Ok ⟨P, l, xs, J, Jx⟩ := ⟨fun i => by obtain ⟨b, k⟩ := i; cases b; exact hJxa k; exact hJa k, hY⟩
  let args : Array Value := (lb ++ [Value.func (.yield l) #[] #[]]).toArray
  have hw := h l J Jx hok { tmps := args ++ Array.replicate (fn.ntmps - args.size) undef, defers := [] } w (fun _ => False) S M hJ0
    ⟨fun b h => h.elim, ⟨S, [], [], M⟩, rfl, rfl, ⟨⟨⟨List.nodup_nil, fun d hd => by cases hd⟩, hM, fun _ _ h => h, fun _ _ h => .inl h, fun i b h => by simp at h, fun _ _ => rfl, ⟨hTb, fun b vs hv hm => hm.elim (fun hm => hm.elim (fun h => h.elim) (fun hl => absurd (hTb.lt b vs hv) (Nat.not_lt.2 hl))) (fun hm => hm (hTb.noM hM b vs hv))⟩⟩, by simp [args]; omega, .of (Below.refl _ _), fun _ h => .inr h, hS, fun _ h => .inl h, fun _ h => h, hS, rfl, rfl, fun m => ?_, fun i cs hi => by simp at hi, fun i cs hi => by simp at hi, fun i cs hi => by simp at hi, ⟨fun _ => .inl 0, fun i x b hi => by simp at hi, fun r row v gb hr => by simp at hr⟩⟩⟩
  · refine wpIn_mono (F := Fence.wide) hw ?_
    rintro e a' w' ⟨i', s', T', S', M', hJ', ⟨lt, g, rfl, rfl, hg⟩, hq⟩
    have fin : (i'.1 = true → i'.2 = xs.length) → fn.results = #[] → LeavesInM Fence.wide 0 P fn a'.tmps (fun e w' => (∃ v, e = .returned v) ∧ ∃ T S' M', J xs.length T S' M' w' ∨ ∃ k, Jx k T S' M' w') a'.defers .returning w' := fun hi hres => by
      refine marks_leave (c := ⟨P, w', g.S, g.M, none, fun b => T' b ∨ w'.heap.size ≤ b, []⟩) (s := s') (g := g) (ds := []) a'.defers a' w' hg rfl (by rw [hres]; rfl) (fun v w'' hr _ => ?_)
      obtain ⟨T'', hgr, _⟩ := IR.next lt hr
      have hJ2 := hok.ab i' _ _ _ _ _ _ _ _ hJ' hgr
      refine ⟨⟨v, rfl⟩, T'', g.S, g.M, ?_⟩
      obtain ⟨b, k⟩ := i'
      cases b with
      | true =>
        have hk : k = xs.length := hi rfl
        subst hk
        exact .inl hJ2
      | false => exact .inr ⟨k, hJ2⟩
    cases e <;> first | exact fin hq.1 hq.2 | exact hq.elim
  · simp only
    rw [ofL_at]
    simp only [Nat.not_lt_zero, if_false, Nat.sub_zero]
    have e : (args ++ Array.replicate (fn.ntmps - args.size) undef).getD m undef = (lb ++ [Value.func (.yield l) #[] #[]]).getD m undef := by
      simp only [args, Array.getD_eq_getD_getElem?, List.getD_eq_getElem?_getD]
      rw [Array.getElem?_append]
      split
      · simp
      · rename_i hm
        rw [List.getElem?_eq_none (by simpa using hm)]
        simp [Array.getElem?_replicate]
        split <;> rfl
    rw [e]
    rcases Nat.lt_trichotomy m cs.length with hm | hm | hm
    · rw [List.getElem?_append_left hm, List.getD_eq_getElem?_getD, List.getElem?_append_left (by omega), ← List.getD_eq_getElem?_getD]
      rw [List.getElem?_eq_getElem hm]
      exact hrel m _ (List.getElem?_eq_getElem hm)
    · subst hm
      rw [List.getElem?_append_right (Nat.le_refl _), List.getD_eq_getElem?_getD, List.getElem?_append_right (by omega), hlb]
      simp only [Nat.sub_self, List.getElem?_cons_zero, Option.getD_some]
      exact .val _ _
    · rw [List.getElem?_eq_none (by simp; omega)]
      exact .undef _ _
end Go.Ab
end
section
namespace Go.Ab
open Go.RowKit
/-!
  Keys of maps that are structs of integers.
-/
theorem checkFields_ints {P : Program} {em : Bool} (d : Nat) (xs : List Int) (w : World) : ∀ (fs : List Field) (k : Nat), flatFields P k fs = true → k + fs.length ≤ xs.length →
    (forIn fs PUnit.unit (fun f _ => do
        if f.name ≠ "_" then
          let __do_lift ← part f.type (xs.map (Value.int .i64)).toArray f.offset
          Instr.checkKey em (d + 1) f.type __do_lift
          pure (ForInStep.yield PUnit.unit)
        else pure (ForInStep.yield PUnit.unit)) : Sem PUnit).run P w = .ok PUnit.unit w
  | [], k, _, _ => by simp
  | f :: fs, k, hf, h1 => by
    simp only [flatFields, Bool.and_eq_true, bne_iff_ne, beq_iff_eq, decide_eq_true_eq] at hf
    obtain ⟨⟨⟨hn, ho⟩, hu⟩, hr⟩ := hf
    have hu := intOf_u hu
    have hag : aggO P f.type = some false := by unfold aggO; rw [hu]
    simp only [List.length_cons] at h1
    have ih := checkFields_ints (em := em) d xs w fs (k + 1) hr (by omega)
    have p1 := run_part_int hag xs k (by omega) w
    have p2 : (Instr.checkKey em (d + 1) f.type (.int .i64 (xs[k]'(by omega)))).run P w = .ok () w := by
      simp [Instr.checkKey, run_underlying hu]
    simp only [List.forIn_cons, hn, ne_eq, not_false_eq_true, if_true, Sem.run_bind, ho, p1, p2, Result.andThen_ok, Sem.run_pure]
    exact ih
theorem key_struct {P : Program} {t : TypeId} {n : Nat} (ht : P.underlying t = some (.struct (P.fieldsOf t))) (hf : (flatFields P 0 (P.fieldsOf t).toList && decide ((P.fieldsOf t).toList.length = n)) = true) (hp : P.stoodInHeld t = false) : KeyOk P t true n where
  check em xs w hl := by
    simp only [Bool.and_eq_true, decide_eq_true_eq] at hf
    suffices hh : ∀ d, (Instr.checkKey em (d + 1 + 1) t (mkV true xs)).run P w = .ok () w from hh 9998
    intro d
    rw [Instr.checkKey]
    simp only [mkV, Sem.run_bind, run_underlying ht, Result.andThen_ok]
    have := checkFields_ints (P := P) (em := em) d xs w (P.fieldsOf t).toList 0 hf.1 (by omega)
    rw [← Array.forIn_toList]
    rw [this]; rfl
  find xs es w hl hes := by
    simp only [Bool.and_eq_true, decide_eq_true_eq] at hf
    cases es with
    | nil => exact ⟨none, by simp [Instr.findKey, run_underlying ht, Instr.findNow], .inl ⟨rfl, fun e he => by cases he⟩⟩
    | cons e1 es =>
      obtain ⟨ys, _, hy⟩ := hes e1 (List.mem_cons_self ..)
      obtain ⟨r, h1, h2⟩ := findAsking_arr (P := P) (kt := t) (n := n) xs w (fun ys hy => by
        have h := eqFields_ints (P := P) 9998 xs ys w (P.fieldsOf t).toList 0 hf.1 (by omega) (by omega)
        unfold Op.equal Op.maxDepth
        rw [show (10000 : Nat) = 9998 + 1 + 1 from rfl, run_equalIn_struct w _ t _ _ ht hp, h]
        simp) (e1 :: es) 0 hes
      refine ⟨r, ?_, ?_⟩
      · have hn : Instr.findNow (.struct (P.fieldsOf t)) (mkV true xs) (e1 :: es) 0 = none := by simp [Instr.findNow, Instr.sameNow]
        simp only [Instr.findKey, Sem.run_bind, run_underlying ht, Result.andThen_ok, hn]
        exact h1
      · rcases h2 with h2 | ⟨j, e', h3, h4, h5⟩
        · exact .inl h2
        · exact .inr ⟨j, e', h3, h4, by simpa using h5⟩
  inj xs ys _ _ h := by
    have h' : (xs.map (Value.int .i64)).toArray = (ys.map (Value.int .i64)).toArray := by simpa [mkV] using h
    have := congrArg Array.toList h'
    simp only at this
    exact (List.map_inj_right (fun a b h => by cases h; rfl)).1 this
end Go.Ab
end
section
namespace Go.Ab
open Go.RowKit
/-!
  Loops whose boxes and rows stay those that they begin with.
-/
theorem Rel.names {w : World} {g : Gh} {v : Value} {d : D} (h : Rel w g v d) : Names g.β.length g.ρ.length d := by
  induction h with
  | undef g v => exact .undef
  | int g k n => exact .int _ _
  | bool g b => exact .bool _
  | str g s => exact .str _
  | val g v => exact .val _
  | list g A n c xs sz u hn hsz hcap hm hr ih => exact .list _
  | agg g vs cs hl h1 hr ih => exact .agg _ fun d hd => by obtain ⟨q, hq⟩ := List.mem_iff_getElem?.1 hd; exact ih q d hq
  | tup g vs cs hl hr ih => exact .tup _ fun d hd => by obtain ⟨q, hq⟩ := List.mem_iff_getElem?.1 hd; exact ih q d hq
  | box g i off b hb => exact .box _ _ (List.getElem?_eq_some_iff.1 hb).1
  | ro g a cs u hm hr ih => exact .ro _
  | own g r v h => exact .own _ (List.getElem?_eq_some_iff.1 h).1
  | clo g f vs cs hl hr ih => exact .clo _ _ fun d hd => by obtain ⟨q, hq⟩ := List.mem_iff_getElem?.1 hd; exact ih q d hq
  | memo g b f h => exact .memo _
  | bsl g i off n c b hb => exact .bsl _ _ _ _ (List.getElem?_eq_some_iff.1 hb).1
  | skp g => exact .skp
  | mth g f vs cs hl hr ih => exact .mth _ _ fun d hd => by obtain ⟨q, hq⟩ := List.mem_iff_getElem?.1 hd; exact ih q d hq
theorem RG.namesBx {c : Ctx} {s : St} {a : Act} {w : World} {g : Gh} (h : RG c s a w g) : ∀ (i : Nat) (cs : List D), s.bx[i]? = some (.mu cs) → ∀ d ∈ cs, Names s.bx.length s.rw.length d := by
  intro i cs hi d hd
  obtain ⟨b, vs, t, e1, e2, e3, e4, e5, e6⟩ := (h.bx i cs hi).ex
  obtain ⟨q, hq⟩ := List.mem_iff_getElem?.1 hd
  have := (e3.2 q d hq).1.names
  rw [← h.lβ, ← h.lρ]; exact this
theorem slots_nm {nb nr : Nat} : ∀ {l : List (Nat × D)}, (l.all fun p => namesB nb nr p.2) = true → ∀ m, Names nb nr ((l.foldr (fun p f => put f p.1 p.2) none') m)
  | [], _, _ => .undef
  | p :: l, h, m => by
    simp only [List.all_cons, Bool.and_eq_true] at h
    simp only [List.foldr_cons, put]
    split
    · exact names_of _ h.1
    · exact slots_nm h.2 m
theorem abs_loopC {c : Ctx} {body : Code} {Q : Exit → St → Prop} {s : St} {ι : Type} (l : ι → List (Nat × D)) (p : ι → Prop) (μ : ι → Nat)
    (hn : ∀ i, p i → ((l i).all fun q => namesB s.bx.length s.rw.length q.2) = true) (i0 : ι) (h0 : p i0) (hle : Le s (mkSt s.n (l i0) s.bx s.rw)) (hβ : c.β0.length ≤ s.bx.length)
    (round : ∀ i, p i → Abs c body (thenQ (fun s' => ∃ j, p j ∧ μ j < μ i ∧ Le s' (mkSt s.n (l j) s.bx s.rw)) Q) ⟨s.n, (l i).foldr (fun p f => put f p.1 p.2) none', s.bx, s.rw⟩) : Abs c (.loop body) Q s := by
  intro a w hr
  obtain ⟨g, hg⟩ := hr
  exact abs_loop (fun i => mkSt s.n (l i) s.bx s.rw) p μ (fun i hp => ⟨slots_nm (hn i hp), hg.namesBx⟩) (fun _ _ => hβ) i0 h0 hle round a w ⟨g, hg⟩
end Go.Ab
end
section
namespace Go.Ab
open Go.RowKit
section
variable {c : Ctx} {s : St} {Q : Exit → St → Prop} {code : Code}
/-- A nil slice in a box is taken for a row of the call's own. -/
theorem abs_adoptB (i q : Nat) (e : TypeId) (sz : Nat) (cs : List D) (hi : s.bx[i]? = some (.mu cs)) (hq : cs[q]? = some (.val (.slice none 0 0)))
    (h : Abs c code Q { s with bx := s.bx.set i (.mu (cs.set q (.own s.rw.length))), rw := s.rw ++ [⟨true, e, sz, []⟩] }) : Abs c code Q s := by
  rintro a w ⟨g, hg⟩
  refine h a w ⟨⟨g.S, g.β, g.ρ ++ [.slice none 0 0], g.M⟩, ?_⟩
  have hp := hg.pushNil e sz
  have hil : i < s.bx.length := (List.getElem?_eq_some_iff.1 hi).1
  have hql : q < cs.length := (List.getElem?_eq_some_iff.1 hq).1
  have hold : ∀ (j : Nat) (x : Bx), (s.bx.set i (.mu (cs.set q (.own s.rw.length))))[j]? = some x → (j = i ∧ x = .mu (cs.set q (.own s.rw.length))) ∨ (j ≠ i ∧ s.bx[j]? = some x) := fun j x hj => by
    by_cases hji : j = i
    · subst hji
      rw [List.getElem?_set_self hil] at hj
      exact .inl ⟨rfl, (Option.some.inj hj).symm⟩
    · rw [List.getElem?_set_ne (Ne.symm hji)] at hj
      exact .inr ⟨hji, hj⟩
  obtain ⟨κ, k1, k2⟩ := hp.ap
  refine ⟨hp.df, hp.sz, hp.below, hp.own0, hp.good, hp.from0, hp.S0, hp.good0, by simpa using hp.lβ, hp.lρ, hp.sl, fun j ds hj => ?_, fun j ds hj => ?_, hp.rw, κ, fun j x b hj hx hb => ?_, k2⟩
  · rcases hold j _ hj with ⟨rfl, e1⟩ | ⟨_, hj'⟩
    · cases e1
      obtain ⟨b, vs, t, f1, f2, f3, f4, f5, f6⟩ := (hp.bx j cs hi).ex
      refine ⟨b, vs, t, f1, f2, ⟨by rw [List.length_set]; exact f3.1, fun p d hd => ?_⟩, f4, f5, fun hh => by cases hh⟩
      by_cases hpq : p = q
      · subst hpq
        rw [List.getElem?_set_self hql] at hd
        cases hd
        obtain ⟨g1, g2⟩ := f3.2 p _ hq
        refine ⟨?_, g2⟩
        generalize vs.getD p undef = v at g1
        simp only [if_true] at g1 ⊢
        cases g1
        exact .own _ _ _ (by rw [← hg.lρ]; simp)
      · rw [List.getElem?_set_ne (Ne.symm hpq)] at hd
        exact f3.2 p d hd
    · exact hp.bx j ds hj'
  · rcases hold j _ hj with ⟨_, e1⟩ | ⟨_, hj'⟩
    · cases e1
    · exact hp.fz j ds hj'
  · rcases hold j _ hj with ⟨rfl, _⟩ | ⟨_, hj'⟩
    · exact k1 j _ b hi rfl hb
    · exact k1 j x b hj' hx hb
end
end Go.Ab
end
