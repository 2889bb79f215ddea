import Derived.Test.YtmnepfejoneghaaGreatDoorK03
set_option linter.unusedVariables false
set_option linter.unusedSimpArgs false
section
namespace Go.Ab
open Go.RowKit
theorem men_of_rel {w : World} {g : Gh} {v : Value} {d : D} {r : Nat} (h : Rel w g v d) : g.ρ.length ≤ r → d.men r = false := by
  have key : ∀ (vs : Nat → Value) (cs : List D), (∀ (q : Nat) (d : D), cs[q]? = some d → d.men r = false) → menL r cs = false := by
    intro vs cs
    induction cs with
    | nil => intro _; rfl
    | cons d cs ih =>
      intro h
      simp only [menL, Bool.or_eq_false_iff]
      exact ⟨h 0 d rfl, ih (fun q d hd => h (q + 1) d (by simpa using hd))⟩
  induction h with
  | own g r' v h =>
    intro hr
    have := (List.getElem?_eq_some_iff.1 h).1
    simp only [D.men, beq_eq_false_iff_ne, ne_eq]; omega
  | agg g vs cs hl h1 hr ih => intro h; exact key (fun _ => Go.undef) cs (fun q d hd => ih q d hd h)
  | tup g vs cs hl hr ih => intro h; exact key (fun _ => Go.undef) cs (fun q d hd => ih q d hd h)
  | clo g f vs cs hl hr ih => intro h; exact key (fun _ => Go.undef) cs (fun q d hd => ih q d hd h)
  | mth g f vs cs hl hr ih => intro h; exact key (fun _ => Go.undef) cs (fun q d hd => ih q d hd h)
  | _ => intro _; rfl
def wApp (P : Program) (s : St) (dst : Option Tmp) (t : TypeId) (dx dy : D) (K : St → Prop) : Prop :=
  wOpt (elemOf P t) fun e => szOf P e ≠ 0 ∧ (zeroD P e).isSome = true ∧ wSl s.rw dy fun ys => (∀ y ∈ ys, y.cells.length = szOf P e) ∧
    match dx with
    | .own r => wOpt s.rw[r]? fun row => row.live = true ∧ row.e = e ∧ row.sz = szOf P e ∧ row.xs.length + ys.length ≤ 9223372036854775807 ∧
        (row.xs.length + ys.length) * bytesOf P e ≤ 140737488355328 ∧ K ((s.appended r ⟨true, e, szOf P e, row.xs ++ ys⟩).put dst (.own r))
    | .val (.slice none 0 0) => ys.length ≤ 9223372036854775807 ∧ ys.length * bytesOf P e ≤ 140737488355328 ∧
        K (St.put { s with rw := s.rw ++ [⟨true, e, szOf P e, ys⟩] } dst (.own s.rw.length))
    | _ => False
def wIdxAny (P : Program) (t : TypeId) (x ix : D) (k : D → Prop) : Prop := match x with
  | .str s => strTy P t = true ∧ wInt ix fun _ n => 0 ≤ n ∧ ∃ hl : n.toNat < s.size, k (.int .u8 (s[n.toNat]'hl).toNat)
  | _ => wIdx P t x ix k
/-- The value of an operation that reads no box. -/
def opA (P : Program) (o : Op) (ρ : Operand → D) (rw : List Row) (k : D → Prop) : Prop := match o with
  | .move x => k (ρ x)
  | .assign x => k (ρ x)
  | .pick c a b => wBool (ρ c) fun t => k (pickD t (ρ a) (ρ b))
  | .binOp op xt x y _ => wBin P xt op (ρ x) (ρ y) k
  | .unOp op _ x => wUn op (ρ x) k
  | .convert s t x => wConv P s t (ρ x) k
  | .extract x i => wTup (ρ x) fun ds => wOpt ds[i]? k
  | .fieldAddr s x f => wOpt (fieldOff P s f) fun ot => wShift (ρ x) ot.1 k
  | .field s x f => wField P s (ρ x) f k
  | .indexAddr t x ix => wIdxA P rw t (ρ x) (ρ ix) k
  | .index t x ix => wIdxAny P t (ρ x) (ρ ix) k
  | .makeFunc (.func f) ⟨[]⟩ cap => k (.clo f (cap.toList.map ρ))
  | .makeFunc (.func f) ⟨x :: fs⟩ ⟨[]⟩ => k (.mth f ((x :: fs).map ρ))
  | .slice t x lo hi none => wSlice P t (ρ x) (lo.map ρ) (hi.map ρ) k
  | .build t ps => wOpt (zeroD P t) fun zs => wOpt (placeD P t) fun place => wOpt (fillD' place zs (ps.toList.map fun p => (p.1, ρ p.2))) fun cs => k (.agg cs)
  | .call ⟨.builtin .len, ⟨[x]⟩, ⟨[t]⟩⟩ => wLen P t rw (ρ x) k
  | .call ⟨.builtin .max, ⟨[x, y]⟩, _⟩ => wInt2 (ρ x) (ρ y) fun q n m => k (.int q (max n m))
  | .call ⟨.builtin .min, ⟨[x, y]⟩, _⟩ => wInt2 (ρ x) (ρ y) fun q n m => k (.int q (min n m))
  | _ => False
/-- .. of one that does. -/
def opB (P : Program) (o : Op) (ρ : Operand → D) (bx : List Bx) (rw : List Row) (k : D → Prop) : Prop := match o with
  | .load t x => wLoad P bx t (ρ x) k
  | .buildSlice t n ps => wOpt (elemOf P t) fun e => szOf P e ≠ 0 ∧ n * szOf P e ≤ 16777216 ∧ (zeroD P e).isSome = true ∧ ps.toList.map (·.1) = List.range n ∧
      wOpt (pureDs bx rw (ps.toList.map fun p => ρ p.2)) fun ds => (∀ d ∈ ds, d.cells.length = szOf P e ∧ d.cells.all D.one = true) ∧ k (.list ds)
  | .call ⟨.value fx, xs, _⟩ => wFn (ρ fx) fun f fs cs => wOpt (pureDs bx rw (fs ++ xs.toList.map ρ ++ cs)) fun ds => CallK P f ds k
  | o => opA P o ρ rw k
/-- One operation. -/
def stepOp (P : Program) (o : Oper) (s : St) (K : St → Prop) : Prop := match o.op with
  | .alloc t => dstOk s o.dst ∧ wOpt (zeroD P t) fun zs => K (St.put { s with bx := s.bx ++ [.mu zs] } o.dst (.box s.bx.length 0))
  | .box _ x => dstOk s o.dst ∧ (s.ev x).cells.all D.one = true ∧ K (St.put { s with bx := s.bx ++ [.mu (s.ev x).cells] } o.dst (.box s.bx.length 0))
  | .store t x y => o.dst = none ∧ wStore P s t (s.ev x) (s.ev y) K
  | .call ⟨.builtin .append, ⟨[x, y]⟩, ⟨[t, t']⟩⟩ => dstOk s o.dst ∧ t' = t ∧ wApp P s o.dst t (s.ev x) (s.ev y) K
  | .call ⟨.builtin .copy, ⟨[x, y]⟩, ⟨[t, _]⟩⟩ => dstOk s o.dst ∧ wCopy P s o.dst t (s.ev x) (s.ev y) K
  | .makeSlice t x y => dstOk s o.dst ∧ wMake P s o.dst t (s.ev x) (s.ev y) K
  | .lookup t x y true => dstOk s o.dst ∧ wLookup P t (s.ev x) (s.ev y) fun d => K (s.put o.dst d)
  | .lookup t x y false => dstOk s o.dst ∧ wLookup1 P t (s.ev x) (s.ev y) fun d => K (s.put o.dst d)
  | .mapUpdate t x y z => o.dst = none ∧ wMapUp P t (s.ev x) (s.ev y) (s.ev z) (K s)
  | .makeMap _ none => dstOk s o.dst ∧ ∃ m : Memo, m.dom = [] ∧ K (s.put o.dst (.memo m))
  | op => dstOk s o.dst ∧ opB P op s.ev s.bx s.rw fun d => K (s.put o.dst d)
section
variable {c : Ctx} {s : St} {a : Act} {w : World} {g : Gh}
theorem purge_id {r : Nat} {d : D} (h : d.men r = false) : purge r d = d := by unfold purge; rw [h]
theorem s_append {o : Oper} {x y : Operand} {t : TypeId} {K : St → Prop} {Q : Exit → Act → World → Prop} (h : RG c s a w g)
    (ho : o.op = .call { callee := .builtin .append, args := #[x, y], argTypes := #[t, t] }) (hd : dstOk s o.dst) (hk : wApp c.P s o.dst t (s.ev x) (s.ev y) K) :
    o.wp c.P a w (fun a' w' => ∃ s', R c s' a' w' ∧ K s') Q := by
  obtain ⟨e, he, hz, hzz, hk⟩ := wOpt_some hk
  have ⟨ys, hy, hys, hk⟩ := wSl_rel h.mem (h.ev y) hk
  split at hk
  · rename_i r hx
    obtain ⟨row, hrow, hl, he', hsz, h63, hb, hk⟩ := wOpt_some hk
    subst he'
    have hxr := h.ev x
    rw [hx] at hxr
    generalize hve : a.eval x = vx at hxr
    cases hxr with
    | own _ _ _ hv =>
      obtain ⟨v', w', g', hrun, hr, hρ⟩ := h.append (t := t) (ty := o.type) hrow hl hv hy he hsz.symm hz hzz (by rw [hsz]; exact hys) h63 hb
      have hex : (execOp a.eval o).run c.P w = .ok (.value v') w' := by
        simp [execOp, ho, resolve, invoke, builtin, hve, hrun]
      unfold Oper.wp
      rw [hex]
      rw [hsz] at hr
      exact ⟨_, ⟨g', hr.put hd (.own _ _ _ hρ)⟩, hk⟩
  · rename_i hx
    obtain ⟨h63, hb, hk⟩ := hk
    have hxr := h.ev x
    rw [hx] at hxr
    generalize hv : a.eval x = vx at hxr
    cases hxr
    have hp := h.pushNil e (szOf c.P e)
    have hrl : (s.rw ++ [⟨true, e, szOf c.P e, []⟩])[s.rw.length]? = some ⟨true, e, szOf c.P e, []⟩ := by simp
    have hρl : (g.ρ ++ [Value.slice none 0 0])[s.rw.length]? = some (.slice none 0 0) := by rw [← h.lρ]; simp
    have ky : Keeps w g w ⟨g.S, g.β, g.ρ ++ [.slice none 0 0], g.M⟩ := ⟨fun _ _ => rfl, fun _ h => h, fun _ _ h => h, fun i b hi => by
      rw [List.getElem?_append_left (List.getElem?_eq_some_iff.1 hi).1]; exact hi, fun _ _ h => h⟩
    obtain ⟨v', w', g', hrun, hr, hρ⟩ := hp.append (t := t) (ty := o.type) hrl rfl hρl (hy.keep ky) he rfl hz hzz hys (by simpa using h63) (by simpa using hb)
    have hex : (execOp a.eval o).run c.P w = .ok (.value v') w' := by
      simp [execOp, ho, resolve, invoke, builtin, hv, hrun]
    -- nothing names the new row
    have e1 : (fun n => purge s.rw.length (s.sl n)) = s.sl := funext fun n => purge_id (men_of_rel (h.sl n) (by rw [h.lρ]; exact Nat.le_refl _))
    have e2 : s.bx.map (purgeB s.rw.length) = s.bx := by
      apply List.ext_getElem
      · simp
      · intro i h1 h2
        simp only [List.getElem_map]
        cases hbx : s.bx[i] with
        | mu cs =>
          obtain ⟨b, vs, tb, f1, f2, f3, _⟩ := (h.bx i cs (by rw [List.getElem?_eq_getElem h2, hbx])).ex
          have f3 : CellsR w g vs cs := f3
          simp only [purgeB]
          congr 1
          apply List.ext_getElem
          · simp
          · intro q h1 h2
            simp only [List.getElem_map]
            exact purge_id (men_of_rel (f3.2 q _ (List.getElem?_eq_getElem h2)).1 (by rw [h.lρ]; exact Nat.le_refl _))
        | fz cs => rfl
        | dead => rfl
    have e3 : St.appended { s with rw := s.rw ++ [⟨true, e, szOf c.P e, []⟩] } s.rw.length ⟨true, e, szOf c.P e, [] ++ ys⟩ = { s with rw := s.rw ++ [⟨true, e, szOf c.P e, ys⟩] } := by
      simp only [St.appended, e1, e2, List.nil_append]
      simp
    rw [e3] at hr
    unfold Oper.wp
    rw [hex]
    exact ⟨_, ⟨g', hr.put hd (.own _ _ _ hρ)⟩, hk⟩
  · exact hk.elim
theorem opA_sound {o : Oper} {k : D → Prop} (h : RG c s a w g) (hk : opA c.P o.op s.ev s.rw k) : Yields c.P o a w g k := by
  unfold opA at hk
  split at hk
  · exact y_move (.inl ‹_›) (h.ev _) hk
  · exact y_move (.inr ‹_›) (h.ev _) hk
  · exact y_pick ‹_› (h.ev _) (h.ev _) (h.ev _) hk
  · exact y_bin ‹_› (h.ev _) (h.ev _) hk
  · exact y_un ‹_› (h.ev _) hk
  · exact y_convert ‹_› (h.ev _) hk
  · exact y_extract ‹_› (h.ev _) hk
  · exact y_fieldAddr ‹_› (h.ev _) hk
  · exact y_field ‹_› (h.ev _) hk
  · exact y_indexAddr ‹_› (h.ev _) (h.ev _) h.mem hk
  · rename_i t x ix ho
    have hx := h.ev x
    unfold wIdxAny at hk
    split at hk
    · rename_i sb hs
      obtain ⟨hst, hk⟩ := hk
      obtain ⟨q, n, hn, hd, h0, hl, hk⟩ := wInt_rel (h.ev ix) hk
      rw [hs] at hx
      have hi := h.ev ix
      rw [hd] at hi
      exact y_indexStr ho hx hi hst h0 hl hk
    · exact y_index ho hx (h.ev ix) hk
  · exact y_makeFunc ‹_› h.ev hk
  · exact y_makeMth ‹_› h.ev hk
  · exact y_slice ‹_› h.ev hk
  · exact y_build h ‹_› hk
  · exact y_len ‹_› (h.ev _) h.mem hk
  · exact y_max ‹_› (h.ev _) (h.ev _) hk
  · exact y_min ‹_› (h.ev _) (h.ev _) hk
  · exact hk.elim
theorem opB_sound {o : Oper} {K : St → Prop} {Q : Exit → Act → World → Prop} (h : RG c s a w g) (hd : dstOk s o.dst) (hk : opB c.P o.op s.ev s.bx s.rw fun d => K (s.put o.dst d)) :
    o.wp c.P a w (fun a' w' => ∃ s', R c s' a' w' ∧ K s') Q := by
  unfold opB at hk
  split at hk
  · exact s_pure h hd (y_load ‹_› (h.ev _) h.mem hk)
  · exact s_buildSlice h ‹_› hd hk
  · rename_i fx xs at_ ho
    refine s_call ho h hd ?_
    revert hk
    unfold wFn
    split
    · intro hk
      obtain ⟨ds, hp, hk⟩ := wOpt_some hk
      exact ⟨ds, hp, hk⟩
    · intro hk
      obtain ⟨ds, hp, hk⟩ := wOpt_some hk
      exact ⟨ds, hp, hk⟩
    · exact fun h => h.elim
  · exact s_pure h hd (opA_sound h hk)
theorem step_sound {o : Oper} {K : St → Prop} {Q : Exit → Act → World → Prop} (h : RG c s a w g) (hk : stepOp c.P o s K) : o.wp c.P a w (fun a' w' => ∃ s', R c s' a' w' ∧ K s') Q := by
  unfold stepOp at hk
  split at hk
  · exact s_alloc h ‹_› hk.1 hk.2
  · exact s_box h ‹_› hk.1 hk.2
  · exact s_store h ‹_› hk.1 hk.2
  · obtain ⟨h1, h2, h3⟩ := hk
    subst h2
    exact s_append h ‹_› h1 h3
  · exact s_copy h ‹_› hk.1 hk.2
  · exact s_makeSlice h ‹_› hk.1 hk.2
  · exact s_lookup h ‹_› hk.1 hk.2
  · exact s_lookup1 h ‹_› hk.1 hk.2
  · exact s_mapUpdate h ‹_› hk.1 hk.2
  · exact s_makeMap h ‹_› hk.1 hk.2
  · exact opB_sound h hk.1 hk.2
/-- What a guard reads: a boolean, or nothing, as its operation was left out itself. -/
def wG (d : D) (no : Prop) (k : Bool → Prop) : Prop := match d with | .bool b => k b | .skp => no | _ => False
def gslot (ops : List Oper) (j : Nat) : Option Tmp := (ops[j]?).bind (·.dst)
/-- A region's operations, in the order of the text. -/
def evOps (P : Program) (ops : List Oper) : List Oper → St → (St → Prop) → Prop
  | [], s, K => K s
  | o :: rest, s, K => match o.guard with
    | none => stepOp P o s fun s' => evOps P ops rest s' K
    | some (j, want) => wOpt (gslot ops j) fun t => wG (s.sl t) (dstOk s o.dst ∧ evOps P ops rest (s.put o.dst .skp) K) fun b =>
        (b = want → stepOp P o (s.put (some t) (.bool want)) fun s' => evOps P ops rest s' K) ∧
        (b = !want → dstOk s o.dst ∧ evOps P ops rest ((s.put (some t) (.bool (!want))).put o.dst .skp) K)
theorem reput {t : Nat} {d : D} (hs : s.sl t = d) : s.put (some t) d = s := by
  have : Ab.put s.sl t d = s.sl := funext fun m => by
    simp only [Ab.put]; split
    · rename_i hm; rw [hm, hs]
    · rfl
  simp [St.put, this]
theorem R.yielded {ops : Array Oper} {j t : Nat} {b : Bool} (h : RG c s a w g) (hg : gslot ops.toList j = some t) (hb : s.sl t = .bool b) : yielded ops a.tmps j = some b := by
  have hg' : (ops[j]?).bind (·.dst) = some t := by simpa [gslot] using hg
  have hr := h.sl t
  rw [hb] at hr
  have hv := hr.asBool
  unfold Go.yielded
  rw [hg']
  have : a.tmps[t]? = some (.bool b) := by
    rw [Array.getD_eq_getD_getElem?] at hv
    cases hx : a.tmps[t]? with
    | none => rw [hx] at hv; simp [Go.undef] at hv
    | some v => rw [hx] at hv; simp at hv; rw [hv]
  simp [this]
theorem R.noYield {ops : Array Oper} {j t : Nat} (h : RG c s a w g) (hg : gslot ops.toList j = some t) (hb : s.sl t = .skp) : Go.yielded ops a.tmps j = none := by
  have hg' : (ops[j]?).bind (·.dst) = some t := by simpa [gslot] using hg
  have hr := h.sl t
  rw [hb] at hr
  unfold Go.yielded
  rw [hg']
  generalize hv : a.tmps.getD t Go.undef = v at hr
  cases hr
  rw [Array.getD_eq_getD_getElem?] at hv
  cases hx : a.tmps[t]? with
  | none => simp [hx]
  | some v => rw [hx] at hv; simp at hv; rw [Option.bind_some, hx, hv]; rfl
theorem step_nodefer {o : Oper} {K : St → Prop} {P : Program} (h : stepOp P o s K) : ∀ cl, o.op ≠ .defer cl := by
  obtain ⟨dst, op, ty, pos, aft, gd⟩ := o
  rintro cl rfl
  exact h.2.elim
/-- One operation in a round's frame, or in none. -/
theorem op_in {o : Oper} {N : Act → World → Prop} {Q : Exit → Act → World → Prop} (hd : ∀ cl, o.op ≠ .defer cl) (h : o.wp c.P a w N Q) : o.wpIn c.F 0 c.P a w N Q := by
  refine ⟨fun _ _ => trivial, ?_⟩
  rw [Oper.semAt_eq _ _ _ hd]
  unfold Oper.wp at h
  generalize (execOp a.eval o).run c.P w = r at h ⊢
  have hn : c.F.depth.isSome = true → 1 ≤ 0 := fun h => by cases h
  cases r with
  | ok x w' =>
    cases x with
    | value v => exact h
    | skip => exact h
    | defer d => exact h
    | enter f args => exact ⟨hn, callsIn_wide.2 h⟩
    | row r args =>
      refine ⟨hn, fun c' cs _ => ?_⟩
      obtain ⟨v, w2, h1, h2⟩ := h c' cs
      exact ⟨v, w2, h1, stepsIn_wide.2 h2⟩
    | _ => exact h.elim
  | halt x w' => cases x <;> first | exact h | exact h.elim
theorem evOps_sound {ops : Array Oper} {K : St → Prop} {Q : Exit → Act → World → Prop} (hK : ∀ s a w, R c s a w → K s → Q .normal a w) : ∀ (l : List Oper) (s : St) (a : Act) (w : World), R c s a w → evOps c.P ops.toList l s K → wpListIn c.F 0 c.P ops Q l a w
  | [], s, a, w, hr, h => hK s a w hr h
  | o :: l, s, a, w, hr, h => by
    obtain ⟨g, hg⟩ := hr
    have next : ∀ {s1 : St}, stepOp c.P o s1 (fun s' => evOps c.P ops.toList l s' K) → s1 = s → o.wpIn c.F 0 c.P a w (wpListIn c.F 0 c.P ops Q l) Q := fun hst e => by
      subst e
      refine op_in (step_nodefer hst) ?_
      exact Oper.wp_mono (fun a' w' ⟨s', hr', hk'⟩ => evOps_sound hK l s' a' w' hr' hk') (step_sound hg hst)
    unfold evOps at h
    unfold wpListIn
    split at h
    · rename_i hgd
      rw [if_pos (by simp [Region.wanted, hgd])]
      exact next h rfl
    · rename_i j want hgd
      obtain ⟨t, ht, h⟩ := wOpt_some h
      cases hb : s.sl t <;> rw [hb] at h <;> simp only [wG] at h
      case skp =>
        have hy := R.noYield hg ht hb
        rw [if_neg (by simp [Region.wanted, hgd, hy])]
        exact ⟨fun _ _ => trivial, evOps_sound hK l _ _ _ ⟨g, hg.put h.1 (.skp _)⟩ h.2⟩
      rename_i b
      have hy := R.yielded hg ht hb
      by_cases hbw : b = want
      · subst hbw
        rw [if_pos (by simp [Region.wanted, hgd, hy])]
        exact next (h.1 rfl) (reput hb)
      · have hbw' : b = !want := by cases b <;> cases want <;> simp_all
        rw [if_neg (by simp [Region.wanted, hgd, hy, hbw])]
        obtain ⟨hd, h2⟩ := h.2 hbw'
        rw [← hbw', reput hb] at h2
        exact ⟨fun _ _ => trivial, evOps_sound hK l _ _ _ ⟨g, hg.put hd (.skp _)⟩ h2⟩
theorem abs_region {id : Nat} {l : List Oper} {Q : Exit → St → Prop} (h : ∀ K : St → Prop, (∀ s', Q .normal s' → K s') → evOps c.P l l s K) : Abs c (.region id l.toArray false) Q s := by
  intro a w hr
  refine wpIn_region_lit (evOps_sound (K := Q .normal) (fun s a w hr hq => ⟨s, hr, hq⟩) l s a w hr ?_)
  exact h _ (fun _ h => h)
end
end Go.Ab
end
section
namespace Go.Ab
open Go.RowKit
def ofL : Nat → List D → (Nat → D)
  | _, [] => none'
  | k, d :: ds => put (ofL (k + 1) ds) k d
theorem ofL_at : ∀ (ds : List D) (k m : Nat), ofL k ds m = if m < k then .undef else (ds[m - k]?).getD .undef
  | [], k, m => by simp [ofL, none']
  | d :: ds, k, m => by
    simp only [ofL, put]
    by_cases h : m = k
    · subst h; simp
    · rw [if_neg h, ofL_at ds (k + 1) m]
      by_cases h2 : m < k
      · rw [if_pos (by omega), if_pos h2]
      · rw [if_neg (by omega), if_neg h2, show m - k = (m - (k + 1)) + 1 by omega]
        simp
def resK (P : Program) (s : St) : ResultVar → (D → Prop) → Prop
  | .tmp t, k => wOpt (pureD s.bx s.rw (s.sl t)) k
  | .cell t ty, k => wLoad P s.bx ty (s.sl t) fun d => wOpt (pureD s.bx s.rw d) k
def resL (P : Program) (s : St) : List ResultVar → (List D → Prop) → Prop
  | [], k => k []
  | r :: rs, k => resK P s r fun d => resL P s rs fun ds => k (d :: ds)
def resD : List D → D
  | [d] => d
  | ds => .tup ds
/-- The function has come to its end, and its results read so. -/
def retQ (P : Program) (rs : Array ResultVar) (d : D) : Exit → St → Prop
  | .normal, s => resL P s rs.toList fun ds => resD ds = d
  | .ret, s => resL P s rs.toList fun ds => resD ds = d
  | _, _ => False
def resOne (tmps : Array Value) : ResultVar → Sem Value
  | .tmp t => pure (tmps.getD t undef)
  | .cell ad t => do loadVar t (← asAddr (tmps.getD ad undef))
theorem results_eq (fn : Func) (tmps : Array Value) : results fn tmps = (do
    let vs ← fn.results.mapM (resOne tmps)
    pure (if h : vs.size = 1 then vs[0] else .tuple vs)) := rfl
section
variable {c : Ctx} {s : St} {a : Act} {w : World} {g : Gh}
theorem resK_sound (h : RG c s a w g) {r : ResultVar} {k : D → Prop} (hk : resK c.P s r k) :
    ∃ v d, (resOne a.tmps r).run c.P w = .ok v w ∧ Rel w g.er v d ∧ k d := by
  cases r with
  | tmp t =>
    obtain ⟨d, hd, hk⟩ := wOpt_some hk
    exact ⟨_, d, rfl, pureD_rel h (h.sl t) hd, hk⟩
  | cell t ty =>
    simp only [resK] at hk
    have hx := h.sl t
    cases hsl : s.sl t <;> rw [hsl] at hk hx <;> simp only [wLoad] at hk
    · rename_i i off
      obtain ⟨cs, hcs, hk⟩ := wBx_some hk
      obtain ⟨b, vs, tb, e1, e2, e3⟩ := h.mem.bx i cs hcs
      generalize hv : a.tmps.getD t undef = v at hx
      cases hx with
      | box _ _ _ b' hb' =>
        obtain rfl : b' = b := by rw [e1] at hb'; exact (Option.some.inj hb').symm
        obtain ⟨h1, h2⟩ := box_cells e2 e3 off
        obtain ⟨v, d, hrun, hr, hk⟩ := run_loadVar' (P := c.P) (t := ty) (ad := ⟨b', off, none⟩) h1 h2 hk
        obtain ⟨d', hd', hk⟩ := wOpt_some hk
        exact ⟨v, d', by simp only [resOne, hv]; simp [asAddr, hrun], pureD_rel h hr hd', hk⟩
    · rename_i cs
      obtain ⟨ad, u, hv, hm, hr⟩ := hx.ro_inv
      obtain ⟨v, d, hrun, hr, hk⟩ := run_loadVar' (P := c.P) (w := w) (g := g) (t := ty) (ad := ad) (cs := cs) (u := u) (fun q hq => ⟨(hm q hq).1, (hm q hq).2.2⟩) (fun q d hd => (hr q d hd).keep (keeps_er _ _)) hk
      obtain ⟨d', hd', hk⟩ := wOpt_some hk
      exact ⟨v, d', by simp only [resOne, hv]; simp [asAddr, hrun], pureD_rel h hr hd', hk⟩
theorem resL_sound (h : RG c s a w g) : ∀ {rs : List ResultVar} {k : List D → Prop}, resL c.P s rs k →
    ∃ vs ds, (rs.mapM (resOne a.tmps)).run c.P w = .ok vs w ∧
      vs.length = ds.length ∧ (∀ q d, ds[q]? = some d → Rel w g.er (vs.getD q undef) d) ∧ k ds
  | [], k, hk => ⟨[], [], by simp, rfl, by simp, hk⟩
  | r :: rs, k, hk => by
    obtain ⟨v, d, h1, h2, hk⟩ := resK_sound h hk
    obtain ⟨vs, ds, h3, h4, h5, hk⟩ := resL_sound h hk
    refine ⟨v :: vs, d :: ds, ?_, by simp [h4], fun q x hx => ?_, hk⟩
    · rw [List.mapM_cons]
      simp only [Sem.run_bind, h1, Result.andThen_ok, h3, Sem.run_pure]
    · cases q with
      | zero => simp at hx; subst hx; exact h2
      | succ q => exact h5 q x (by simpa using hx)
theorem marks_leave {fn : Func} {ds : List D} {R : Ending → World → Prop} : ∀ (l : List Deferred) (a : Act) (w : World), RG c s a w g → a.defers = l → (resL c.P s fn.results.toList fun ds' => ds' = ds) →
    (∀ v w', RG c s { a with defers := [] } w' g → Rel w' g.er v (resD ds) → R (.returned v) w') → LeavesInM Fence.wide 0 c.P fn a.tmps R l .returning w
  | [], a, w, h, hl, hq, hR => by
    obtain ⟨vs, ds', h1, h2, h3, rfl⟩ := resL_sound h hq
    refine ⟨(if h : vs.length = 1 then vs[0] else .tuple vs.toArray), ?_, hR _ _ (by rw [show ({ a with defers := [] } : Act) = a by rw [← hl]]; exact h) ?_⟩
    · rw [results_eq, Array.mapM_eq_mapM_toList]
      simp only [Sem.run_bind, Sem.run_map, h1]
      simp
    · match vs, ds', h2 with
      | [v], [d], _ => simpa [resD] using h3 0 d rfl
      | [], [], _ => exact .tup _ _ _ rfl (by simp)
      | v1 :: v2 :: vs, d1 :: d2 :: ds, h2 =>
        simp only [List.length_cons, resD]
        rw [dif_neg (by omega)]
        exact .tup _ _ _ (by simpa using h2) (fun q d hd => by simpa using h3 q d hd)
  | d :: l, a, w, h, hl, hq, hR => by
    obtain ⟨hnd, hall⟩ := h.df.dok
    rw [hl] at hnd hall
    obtain ⟨D, hB, rfl, hD⟩ := hall d (List.mem_cons_self ..)
    refine ⟨by simp, .inl ⟨D, _, rfl, run_takeDeferred hD, ?_⟩⟩
    have hg : RG c s { a with defers := l } (w.putObj D (.deferred none)) g := h.turn hD rfl (by simp) hB rfl ⟨(List.nodup_cons.1 hnd).2, fun d' hd' => by
      obtain ⟨D', hB', rfl, hD'⟩ := hall d' (List.mem_cons_of_mem _ hd')
      refine ⟨D', hB', rfl, ?_⟩
      rw [World.putObj_heap_other (fun e => by subst e; exact (List.nodup_cons.1 hnd).1 hd')]
      exact hD'⟩
    exact marks_leave l { a with defers := l } _ hg rfl hq hR
theorem resL_eq : ∀ {rs : List ResultVar} {k : List D → Prop}, resL c.P s rs k → ∃ ds, (resL c.P s rs fun ds' => ds' = ds) ∧ k ds := by
  have hk : ∀ {r : ResultVar} {k : D → Prop}, resK c.P s r k → ∃ d, (∀ k' : D → Prop, k' d → resK c.P s r k') ∧ k d := by
    intro r k h
    cases r with
    | tmp t =>
      obtain ⟨d, hd, h⟩ := wOpt_some h
      exact ⟨d, fun k' hk' => by simp only [resK, hd]; exact hk', h⟩
    | cell t ty =>
      have hw : ∀ {cs : List D} {k : D → Prop}, wTake c.P ty cs k → ∃ d, (∀ k' : D → Prop, k' d → wTake c.P ty cs k') ∧ k d := by
        intro cs k h
        unfold wTake at h ⊢
        obtain ⟨b, hb, h⟩ := wOpt_some h
        rw [hb]
        cases b with
        | true => exact ⟨_, fun k' hk' => ⟨h.1, h.2.1, hk'⟩, h.2.2⟩
        | false =>
          cases cs with
          | nil => exact h.elim
          | cons d cs => exact ⟨d, fun k' hk' => hk', h⟩
      have : ∃ d, (∀ k' : D → Prop, k' d → wLoad c.P s.bx ty (s.sl t) k') ∧ wOpt (pureD s.bx s.rw d) k := by
        simp only [resK] at h
        cases hsl : s.sl t <;> rw [hsl] at h <;> simp only [wLoad] at h
        · obtain ⟨cs, hcs, h⟩ := wBx_some h
          obtain ⟨d, h1, h2⟩ := hw h
          refine ⟨d, fun k' hk' => ?_, h2⟩
          simp only [wLoad, wBx]
          rcases hcs with e | e <;> rw [e] <;> exact h1 k' hk'
        · obtain ⟨d, h1, h2⟩ := hw h
          exact ⟨d, fun k' hk' => h1 k' hk', h2⟩
      obtain ⟨d, h1, h2⟩ := this
      obtain ⟨d', hd', h2⟩ := wOpt_some h2
      refine ⟨d', fun k' hk' => ?_, h2⟩
      simp only [resK]
      exact h1 _ (by rw [hd']; exact hk')
  intro rs
  induction rs with
  | nil => intro k h; exact ⟨[], rfl, h⟩
  | cons r rs ih =>
    intro k h
    obtain ⟨d, h1, h⟩ := hk (r := r) h
    obtain ⟨ds, h2, h⟩ := ih h
    refine ⟨d :: ds, h1 _ ?_, h⟩
    have mono : ∀ {rs : List ResultVar} {k k' : List D → Prop}, (∀ ds, k ds → k' ds) → resL c.P s rs k → resL c.P s rs k' := by
      intro rs
      induction rs with
      | nil => intro k k' hh h; exact hh _ h
      | cons r rs ih2 =>
        intro k k' hh h
        obtain ⟨d, h1, h⟩ := hk (r := r) h
        exact h1 _ (ih2 (fun ds h => hh _ h) h)
    exact mono (fun ds' e => by rw [e]) h2
theorem retQ_sound {fn : Func} {d : D} {e : Exit} (h : RG c s a w g) (hq : retQ c.P fn.results d e s) {Rr : Ending → World → Prop} (hR : ∀ v w', RG c s { a with defers := [] } w' g → Rel w' g.er v d → Rr (.returned v) w') :
    bodyPostM Fence.wide 0 c.P fn Rr e a w := by
  have key : (resL c.P s fn.results.toList fun ds => resD ds = d) → LeavesInM Fence.wide 0 c.P fn a.tmps Rr a.defers .returning w := fun hq => by
    obtain ⟨ds, h1, rfl⟩ := resL_eq hq
    exact marks_leave a.defers a w h rfl h1 hR
  cases e <;> first | exact key hq | exact hq.elim
end
theorem callsTo_of_abs {P : Program} {f : FuncId} {fn : Func} {code : Code} {ds : List D} {d : D} (hf : P.funcs[f]? = some fn) (hb : fn.body = some code)
    (hc : ∀ (args : Array Value) (w : World), (callFunc f args).run P w = .ok (.enter f args) w) (hn : ds.length ≤ fn.ntmps)
    (h : ∀ c : Ctx, c.P = P → c.l = none → (c.own = fun b => c.w0.heap.size ≤ b) → c.β0 = [] → Abs c code (retQ P fn.results d) ⟨fn.ntmps, ofL 0 ds, [], []⟩) : CallsTo P f ds d := by
  refine ⟨hc, fun S M w args hT hS hM hl hrel => ?_⟩
  refine (callsIn_wide (n := 0)).1 (callsIn_of_wp_marks hf hb trivial ?_)
  have hw := h ⟨P, w, S, M, none, fun b => w.heap.size ≤ b, []⟩ rfl rfl rfl rfl { tmps := args.toArray ++ Array.replicate (fn.ntmps - args.toArray.size) undef, defers := [] } w
    ⟨⟨S, [], [], M⟩, ⟨⟨List.nodup_nil, fun d hd => by cases hd⟩, hM, fun _ _ h => h, fun _ _ h => .inl h, fun i b h => by simp at h, fun _ _ => rfl, hT.fresh hM⟩, by simp; omega, .of (Below.refl _ _), fun _ h => h, hS, fun _ h => .inl h, fun _ h => h, hS, rfl, rfl, ?_, ?_, ?_, ?_, ?_⟩
  · refine wpIn_mono (F := Fence.wide) hw ?_
    rintro e a' w' ⟨s', ⟨g, hg⟩, hq⟩
    exact retQ_sound (c := ⟨P, w, S, M, none, fun b => w.heap.size ≤ b, []⟩) hg hq (fun v w' hg hv => ⟨v, g.S, g.M, rfl, ⟨⟨hg.below.os, hg.below.tape, hg.below.output, hg.below.size, fun k hk hn => hg.below.block k hk (fun h => h.elim (fun h => absurd (show w.heap.size ≤ k from h) (Nat.not_le_of_lt hk)) hn)⟩, hg.S0, hg.from0, hg.df.m0, hg.df.mfrom, hg.df.mok⟩, hg.good, hv⟩)
  · intro m
    simp only
    rw [ofL_at]
    simp only [Nat.not_lt_zero, if_false, Nat.sub_zero]
    cases hd : ds[m]? with
    | none => exact .undef _ _
    | some x =>
      have hm := (List.getElem?_eq_some_iff.1 hd).1
      have := hrel m x hd
      have e : (args.toArray ++ Array.replicate (fn.ntmps - args.toArray.size) undef).getD m undef = args.getD m undef := by
        have : m < args.length := by omega
        simp [Array.getElem?_append, this]
      rw [e]; exact this
  · intro i cs hi; simp at hi
  · intro i cs hi; simp at hi
  · intro i cs hi; simp at hi
  · exact ⟨fun _ => .inl 0, fun i x b hi => by simp at hi, fun r row v gb hr => by simp at hr⟩
section
variable {c : Ctx} {s : St} {Q : Exit → St → Prop} {code : Code}
/-- A box that is written no more: its cells may be handed on. -/
theorem abs_freeze (i : Nat) (cs cs' : List D) (hi : s.bx[i]? = some (.mu cs)) (hp : pureL s.bx s.rw cs = some cs')
    (h : Abs c code Q { s with bx := s.bx.set i (.fz cs') }) : Abs c code Q s := by
  rintro a w ⟨g, hg⟩
  refine h a w ?_
  obtain ⟨b, vs, t, e1, e2, e3, e4, e5, _⟩ := (hg.bx i cs hi).ex
  have e3 : CellsR w g vs cs := e3
  obtain ⟨p1, p2⟩ := pureL_get hp
  let S' : Addr → Prop := fun x => g.S x ∨ ∃ q, q < cs.length ∧ x = ⟨b, q, none⟩
  have hil : i < s.bx.length := (List.getElem?_eq_some_iff.1 hi).1
  have k : Keeps w g w ⟨S', g.β, g.ρ, g.M⟩ := ⟨fun _ _ => rfl, fun _ h => .inl h, fun _ _ h => h, fun _ _ h => h, fun _ _ h => h⟩
  obtain ⟨κ, k1, k2⟩ := hg.ap
  have hold : ∀ (j : Nat) (x : Bx), (s.bx.set i (.fz cs'))[j]? = some x → (j = i ∧ x = .fz cs') ∨ (j ≠ i ∧ s.bx[j]? = some x) := fun j x hj => by
    by_cases hji : j = i
    · subst hji
      rw [List.getElem?_set_self hil] at hj
      exact .inl ⟨rfl, (Option.some.inj hj).symm⟩
    · rw [List.getElem?_set_ne (Ne.symm hji)] at hj
      exact .inr ⟨hji, hj⟩
  have hbsz : b < w.heap.size := (Array.getElem?_eq_some_iff.1 e2).1
  refine ⟨⟨S', g.β, g.ρ, g.M⟩, hg.df.gh rfl, hg.sz, hg.below, hg.own0, fun x hx => ?_, fun x hx => ?_, fun x hx => .inl (hg.S0 x hx), hg.good0, by simp [hg.lβ], hg.lρ, fun n => (hg.sl n).keep k, ?_, ?_, ?_, ?_⟩
  · rcases hx with hx | ⟨q, hq, rfl⟩
    · exact hg.good x hx
    · rw [cell_of_row w b q vs t (0, 0) e2]
      have : q < vs.size := by rw [e3.1]; exact hq
      exact ⟨vs[q], by simp [this]⟩
  · rcases hx with hx | ⟨q, _, rfl⟩
    · exact hg.from0 x hx
    · exact .inr e4
  · intro j ds hj
    rcases hold j _ hj with ⟨_, e⟩ | ⟨hji, hj⟩
    · cases e
    · obtain ⟨b', vs', t', f1, f2, f3, f4, f5, f6⟩ := (hg.bx j ds hj).ex
      refine ⟨b', vs', t', f1, f2, f3.keep k, f4, fun _ x hx => ?_, fun h => by cases h⟩
      rcases hx with hx | ⟨q, _, rfl⟩
      · exact f5 rfl x hx
      · intro e
        simp at e; subst e
        have q1 := k1 i _ b hi rfl e1
        have q2 := k1 j _ b hj rfl f1
        rw [q1] at q2; injection q2 with q2; exact hji q2.symm
  · intro j ds hj
    rcases hold j _ hj with ⟨rfl, e⟩ | ⟨hji, hj⟩
    · cases e
      refine ⟨b, vs, t, e1, e2, ⟨by rw [e3.1, p1], fun q d hd => ?_⟩, e4, (fun h => by cases h), fun _ q hq => .inr ⟨q, by rw [← p1]; exact hq, rfl⟩⟩
      obtain ⟨d0, hd0, hpd⟩ := p2 q d hd
      exact ⟨(pureA_rel hg (e3.2 q d0 hd0).1 hpd).keep k.er, (e3.2 q d0 hd0).2⟩
    · obtain ⟨b', vs', t', f1, f2, f3, f4, f5, f6⟩ := (hg.fz j ds hj).ex
      exact ⟨b', vs', t', f1, f2, f3.keep k.er, f4, (fun h => by cases h), fun _ q hq => .inl (f6 rfl q hq)⟩
  · intro r row hr
    obtain ⟨v, f1, f2, f3⟩ := (hg.rw r row hr).ex
    refine ⟨v, f1, f2.keep k, fun hl => ?_⟩
    obtain ⟨ho, hcl, hS⟩ := f3 hl
    refine ⟨ho, hcl, fun gb hgb => ⟨(hS gb hgb).1, fun x hx hxb => ?_⟩⟩
    rcases hx with hx | ⟨q, _, rfl⟩
    · exact (hS gb hgb).2 x hx hxb
    · simp at hxb; subst hxb
      have q1 := k1 i _ b hi rfl e1
      have q2 := k2 r row v b hr hl f1 hgb
      rw [q1] at q2; cases q2
  · refine ⟨κ, fun j x b' hj hx hb' => ?_, k2⟩
    rcases hold j _ hj with ⟨rfl, e⟩ | ⟨hji, hj⟩
    · exact k1 j _ b' hi rfl hb'
    · exact k1 j x b' hj hx hb'
/-- A nil slice in a slot is taken for a row of the call's own. -/
theorem abs_adopt (n : Nat) (e : TypeId) (sz : Nat) (hn : s.sl n = .val (.slice none 0 0))
    (h : Abs c code Q { s with sl := put s.sl n (.own s.rw.length), rw := s.rw ++ [⟨true, e, sz, []⟩] }) : Abs c code Q s := by
  rintro a w ⟨g, hg⟩
  refine h a w ⟨⟨g.S, g.β, g.ρ ++ [.slice none 0 0], g.M⟩, ?_⟩
  have hp := hg.pushNil e sz
  refine ⟨hp.df, hp.sz, hp.below, hp.own0, hp.good, hp.from0, hp.S0, hp.good0, hp.lβ, hp.lρ, fun m => ?_, hp.bx, hp.fz, hp.rw, ?_⟩
  · simp only [put]
    by_cases hm : m = n
    · subst hm
      rw [if_pos rfl]
      have := hg.sl m
      rw [hn] at this
      generalize hv : a.tmps.getD m undef = v at this
      cases this
      exact .own _ _ _ (by rw [← hg.lρ]; simp)
    · rw [if_neg hm]; exact hp.sl m
  · exact hp.ap
end
end Go.Ab
end
section
namespace Go.Ab
open Go.RowKit
/-- A call, what follows laid by as data: nothing looks into it. -/
def CallR (P : Program) (f : FuncId) (ds : List D) (ops l : List Oper) (s : St) (dst : Option Tmp) (K : St → Prop) : Prop := CallK P f ds fun d => evOps P ops l (s.put dst d) K
section congr
variable {P : Program} {d d' x x' y y' : D} {s s' : St}
@[congr] theorem wBool_cg {k : Bool → Prop} (h : d = d') : wBool d k = wBool d' k := by rw [h]
@[congr] theorem wInt_cg {k : IntKind → Int → Prop} (h : d = d') : wInt d k = wInt d' k := by rw [h]
@[congr] theorem wInt2_cg {k : IntKind → Int → Int → Prop} (h : x = x') (h' : y = y') : wInt2 x y k = wInt2 x' y' k := by rw [h, h']
@[congr] theorem wTup_cg {k : List D → Prop} (h : d = d') : wTup d k = wTup d' k := by rw [h]
@[congr] theorem wOpt_cg {α : Type} {o o' : Option α} {k : α → Prop} (h : o = o') : wOpt o k = wOpt o' k := by rw [h]
@[congr] theorem wEq_cg {t : TypeId} {k : Bool → Prop} (h : x = x') (h' : y = y') : wEq P t x y k = wEq P t x' y' k := by rw [h, h']
@[congr] theorem wSl_cg {rw rw' : List Row} {k : List D → Prop} (h : rw = rw') (h' : d = d') : wSl rw d k = wSl rw' d' k := by rw [h, h']
@[congr] theorem wHead_cg {xs xs' : List D} {k : D → Prop} (h : xs = xs') : wHead xs k = wHead xs' k := by rw [h]
@[congr] theorem wLoad_cg {bx bx' : List Bx} {t : TypeId} {k : D → Prop} (h : bx = bx') (h' : d = d') : wLoad P bx t d k = wLoad P bx' t d' k := by rw [h, h']
@[congr] theorem wShift_cg {o : Nat} {k : D → Prop} (h : d = d') : wShift d o k = wShift d' o k := by rw [h]
@[congr] theorem wBin_cg {t : TypeId} {op : BinOp} {k : D → Prop} (h : x = x') (h' : y = y') : wBin P t op x y k = wBin P t op x' y' k := by rw [h, h']
@[congr] theorem wUn_cg {op : UnOp} {k : D → Prop} (h : d = d') : wUn op d k = wUn op d' k := by rw [h]
@[congr] theorem wIdxA_cg {rw rw' : List Row} {t : TypeId} {k : D → Prop} (h : rw = rw') (h1 : x = x') (h2 : y = y') : wIdxA P rw t x y k = wIdxA P rw' t x' y' k := by rw [h, h1, h2]
@[congr] theorem wIdxAny_cg {t : TypeId} {k : D → Prop} (h1 : x = x') (h2 : y = y') : wIdxAny P t x y k = wIdxAny P t x' y' k := by rw [h1, h2]
@[congr] theorem wField_cg {t : TypeId} {f : Nat} {k : D → Prop} (h : d = d') : wField P t d f k = wField P t d' f k := by rw [h]
@[congr] theorem wLen_cg {t : TypeId} {rw rw' : List Row} {k : D → Prop} (h : rw = rw') (h' : d = d') : wLen P t rw d k = wLen P t rw' d' k := by rw [h, h']
@[congr] theorem wStore_cg {t : TypeId} {K : St → Prop} (h : s = s') (h1 : x = x') (h2 : y = y') : wStore P s t x y K = wStore P s' t x' y' K := by rw [h, h1, h2]
@[congr] theorem wLookup_cg {t : TypeId} {k : D → Prop} (h : x = x') (h' : y = y') : wLookup P t x y k = wLookup P t x' y' k := by rw [h, h']
@[congr] theorem wMapUp_cg {t : TypeId} {z z' : D} {k : Prop} (h : x = x') (h' : y = y') (h2 : z = z') : wMapUp P t x y z k = wMapUp P t x' y' z' k := by rw [h, h', h2]
@[congr] theorem wSlice_cg {t : TypeId} {lo lo' hi hi' : Option D} {k : D → Prop} (h : x = x') (h1 : lo = lo') (h2 : hi = hi') : wSlice P t x lo hi k = wSlice P t x' lo' hi' k := by rw [h, h1, h2]
@[congr] theorem wFn_cg {k : FuncId → List D → List D → Prop} (h : d = d') : wFn d k = wFn d' k := by rw [h]
@[congr] theorem evOps_cg {ops l : List Oper} {K : St → Prop} (h : s = s') : evOps P ops l s K = evOps P ops l s' K := by rw [h]
@[congr] theorem Abs_cg {c : Ctx} {code : Code} {Q : Exit → St → Prop} (h : s = s') : Abs c code Q s = Abs c code Q s' := by rw [h]
end congr
section eqs
variable {P : Program} {k : D → Prop} {K : St → Prop} {s : St} {ty : TypeId} {pos : String} {aft : Array Edge} {dst : Option Tmp} {gd : Option (Nat × Bool)} {ops l : List Oper} {rw : List Row} {bx : List Bx} {ρ : Operand → D}
@[go_sem] theorem ev_nil : evOps P ops [] s K = K s := rfl
@[go_sem] theorem ev_plain {op : Op} : evOps P ops (⟨dst, op, ty, pos, aft, none⟩ :: l) s K = stepOp P ⟨dst, op, ty, pos, aft, none⟩ s fun s' => evOps P ops l s' K := rfl
/-- A guarded operation, or none. -/
def wGuard (s : St) (t : Nat) (want : Bool) (A B : St → Prop) : Prop := wG (s.sl t) (B s) fun b => (b = want → A (s.put (some t) (.bool want))) ∧ (b = !want → B (s.put (some t) (.bool (!want))))
@[congr] theorem wG_cg {d d' : D} {no : Prop} {k : Bool → Prop} (h : d = d') : wG d no k = wG d' no k := by rw [h]
@[congr] theorem wGuard_cg {s s' : St} {t : Nat} {want : Bool} {A B : St → Prop} (h : s = s') : wGuard s t want A B = wGuard s' t want A B := by rw [h]
theorem guard_is {t : Nat} {want : Bool} {A B : St → Prop} {b : Bool} (h : s.sl t = .bool b) : wGuard s t want A B = ((b = want → A (s.put (some t) (.bool want))) ∧ (b = !want → B (s.put (some t) (.bool (!want))))) := by
  unfold wGuard; rw [h]; rfl
/-- What a guard that is not known yet asks. -/
def wG2 (d : D) (s : St) (t : Nat) (want : Bool) (A B : St → Prop) : Prop := wG d (B s) fun b => (b = want → A (s.put (some t) (.bool want))) ∧ (b = !want → B (s.put (some t) (.bool (!want))))
@[congr] theorem wG2_cg {d d' : D} {t : Nat} {want : Bool} {A B : St → Prop} (h : d = d') : wG2 d s t want A B = wG2 d' s t want A B := by rw [h]
@[go_sem] theorem e_wG2_bool {b : Bool} {t : Nat} {want : Bool} {A B : St → Prop} : wG2 (.bool b) s t want A B = ((b = want → A (s.put (some t) (.bool want))) ∧ (b = !want → B (s.put (some t) (.bool (!want))))) := rfl
attribute [go_sem ↓] e_wG2_bool
@[go_sem ↓ low] theorem guard_any {N : Nat} {sl : Nat → D} {t : Nat} {want : Bool} {A B : St → Prop} : wGuard ⟨N, sl, bx, rw⟩ t want A B = wG2 (sl t) ⟨N, sl, bx, rw⟩ t want A B := rfl
@[go_sem ↓ high] theorem guard_sk {N : Nat} {sl : Nat → D} {t : Nat} {want : Bool} {A B : St → Prop} (h : sl t = .skp) : wGuard ⟨N, sl, bx, rw⟩ t want A B = B ⟨N, sl, bx, rw⟩ := by
  unfold wGuard; simp only [h]; rfl
@[go_sem ↓ high] theorem guard_tt {N : Nat} {sl : Nat → D} {t : Nat} {A B : St → Prop} (h : sl t = .bool true) : wGuard ⟨N, sl, bx, rw⟩ t true A B = A ⟨N, sl, bx, rw⟩ := by
  rw [guard_is h]; simp [reput (s := ⟨N, sl, bx, rw⟩) h]
@[go_sem ↓ high] theorem guard_tf {N : Nat} {sl : Nat → D} {t : Nat} {A B : St → Prop} (h : sl t = .bool false) : wGuard ⟨N, sl, bx, rw⟩ t true A B = B ⟨N, sl, bx, rw⟩ := by
  rw [guard_is h]; simp [reput (s := ⟨N, sl, bx, rw⟩) h]
@[go_sem ↓ high] theorem guard_ft {N : Nat} {sl : Nat → D} {t : Nat} {A B : St → Prop} (h : sl t = .bool true) : wGuard ⟨N, sl, bx, rw⟩ t false A B = B ⟨N, sl, bx, rw⟩ := by
  rw [guard_is h]; simp [reput (s := ⟨N, sl, bx, rw⟩) h]
@[go_sem ↓ high] theorem guard_ff {N : Nat} {sl : Nat → D} {t : Nat} {A B : St → Prop} (h : sl t = .bool false) : wGuard ⟨N, sl, bx, rw⟩ t false A B = A ⟨N, sl, bx, rw⟩ := by
  rw [guard_is h]; simp [reput (s := ⟨N, sl, bx, rw⟩) h]
@[go_sem] theorem ev_guard {op : Op} {j : Nat} {want : Bool} : evOps P ops (⟨dst, op, ty, pos, aft, some (j, want)⟩ :: l) s K = wOpt (gslot ops j) fun t => wGuard s t want
    (fun s => evOps P ops (⟨dst, op, ty, pos, aft, none⟩ :: l) s K)
    (fun s => dstOk s dst ∧ evOps P ops l (s.put dst .skp) K) := rfl
@[go_sem] theorem gslot_eq {j : Nat} : gslot l j = (l[j]?).bind (·.dst) := rfl
@[go_sem] theorem st_alloc {t : TypeId} : stepOp P ⟨dst, .alloc t, ty, pos, aft, gd⟩ s K = (dstOk s dst ∧ wOpt (zeroD P t) fun zs => K (St.put { s with bx := s.bx ++ [.mu zs] } dst (.box s.bx.length 0))) := rfl
@[go_sem] theorem st_box {t : TypeId} {x : Operand} : stepOp P ⟨dst, .box t x, ty, pos, aft, gd⟩ s K = (dstOk s dst ∧ (s.ev x).cells.all D.one = true ∧ K (St.put { s with bx := s.bx ++ [.mu (s.ev x).cells] } dst (.box s.bx.length 0))) := rfl
@[go_sem] theorem st_store {t : TypeId} {x y : Operand} : stepOp P ⟨dst, .store t x y, ty, pos, aft, gd⟩ s K = (dst = none ∧ wStore P s t (s.ev x) (s.ev y) K) := rfl
@[go_sem] theorem st_append {t t' : TypeId} {x y : Operand} : stepOp P ⟨dst, .call ⟨.builtin .append, #[x, y], #[t, t']⟩, ty, pos, aft, gd⟩ s K = (dstOk s dst ∧ t' = t ∧ wApp P s dst t (s.ev x) (s.ev y) K) := rfl
@[go_sem] theorem st_move {x : Operand} : stepOp P ⟨dst, .move x, ty, pos, aft, gd⟩ s K = (dstOk s dst ∧ K (s.put dst (s.ev x))) := rfl
@[go_sem] theorem st_assign {x : Operand} : stepOp P ⟨dst, .assign x, ty, pos, aft, gd⟩ s K = (dstOk s dst ∧ K (s.put dst (s.ev x))) := rfl
@[go_sem] theorem st_pick {a b d : Operand} : stepOp P ⟨dst, .pick a b d, ty, pos, aft, gd⟩ s K = (dstOk s dst ∧ wBool (s.ev a) fun t => K (s.put dst (pickD t (s.ev b) (s.ev d)))) := rfl
@[go_sem] theorem st_bin {op : BinOp} {xt yt : TypeId} {x y : Operand} : stepOp P ⟨dst, .binOp op xt x y yt, ty, pos, aft, gd⟩ s K = (dstOk s dst ∧ wBin P xt op (s.ev x) (s.ev y) fun d => K (s.put dst d)) := rfl
@[go_sem] theorem st_un {op : UnOp} {xt : TypeId} {x : Operand} : stepOp P ⟨dst, .unOp op xt x, ty, pos, aft, gd⟩ s K = (dstOk s dst ∧ wUn op (s.ev x) fun d => K (s.put dst d)) := rfl
@[go_sem] theorem st_convert {a b : TypeId} {x : Operand} : stepOp P ⟨dst, .convert a b x, ty, pos, aft, gd⟩ s K = (dstOk s dst ∧ wConv P a b (s.ev x) fun d => K (s.put dst d)) := rfl
@[congr] theorem wConv_cg {a b : TypeId} {d d' : D} {k : D → Prop} (h : d = d') : wConv P a b d k = wConv P a b d' k := by rw [h]
@[go_sem ↓] theorem e_conv_int {a b : TypeId} {q : IntKind} {n : Int} {k : D → Prop} : wConv P a b (.int q n) k = (wOpt (intOfTy P a) fun _ => wOpt (intOfTy P b) fun q => InR q n ∧ k (.int q n)) := rfl
attribute [go_sem] bytesL
@[go_sem] theorem st_extract {x : Operand} {i : Nat} : stepOp P ⟨dst, .extract x i, ty, pos, aft, gd⟩ s K = (dstOk s dst ∧ wTup (s.ev x) fun ds => wOpt ds[i]? fun d => K (s.put dst d)) := rfl
@[go_sem] theorem st_fieldAddr {t : TypeId} {x : Operand} {f : Nat} : stepOp P ⟨dst, .fieldAddr t x f, ty, pos, aft, gd⟩ s K = (dstOk s dst ∧ wOpt (fieldOff P t f) fun ot => wShift (s.ev x) ot.1 fun d => K (s.put dst d)) := rfl
@[go_sem] theorem st_indexAddr {t : TypeId} {x y : Operand} : stepOp P ⟨dst, .indexAddr t x y, ty, pos, aft, gd⟩ s K = (dstOk s dst ∧ wIdxA P s.rw t (s.ev x) (s.ev y) fun d => K (s.put dst d)) := rfl
@[go_sem] theorem st_index {t : TypeId} {x y : Operand} : stepOp P ⟨dst, .index t x y, ty, pos, aft, gd⟩ s K = (dstOk s dst ∧ wIdxAny P t (s.ev x) (s.ev y) fun d => K (s.put dst d)) := rfl
@[go_sem] theorem st_makeFunc {f : FuncId} {cap : Array Operand} : stepOp P ⟨dst, .makeFunc (.func f) #[] cap, ty, pos, aft, gd⟩ s K = (dstOk s dst ∧ K (s.put dst (.clo f (cap.toList.map s.ev)))) := rfl
@[go_sem] theorem st_build {t : TypeId} {ps : Array (Nat × Operand)} : stepOp P ⟨dst, .build t ps, ty, pos, aft, gd⟩ s K = (dstOk s dst ∧ wOpt (zeroD P t) fun zs => wOpt (placeD P t) fun place =>
    wOpt (fillD' place zs (ps.toList.map fun p => (p.1, s.ev p.2))) fun cs => K (s.put dst (.agg cs))) := rfl
@[go_sem] theorem st_len {x : Operand} {t : TypeId} : stepOp P ⟨dst, .call ⟨.builtin .len, #[x], #[t]⟩, ty, pos, aft, gd⟩ s K = (dstOk s dst ∧ wLen P t s.rw (s.ev x) fun d => K (s.put dst d)) := rfl
@[go_sem] theorem st_max {x y : Operand} {at_ : Array TypeId} : stepOp P ⟨dst, .call ⟨.builtin .max, #[x, y], at_⟩, ty, pos, aft, gd⟩ s K = (dstOk s dst ∧ wInt2 (s.ev x) (s.ev y) fun q n m => K (s.put dst (.int q (max n m)))) := rfl
@[go_sem] theorem st_min {x y : Operand} {at_ : Array TypeId} : stepOp P ⟨dst, .call ⟨.builtin .min, #[x, y], at_⟩, ty, pos, aft, gd⟩ s K = (dstOk s dst ∧ wInt2 (s.ev x) (s.ev y) fun q n m => K (s.put dst (.int q (min n m)))) := rfl
@[go_sem] theorem st_makeMth {f : FuncId} {x : Operand} {fs : List Operand} : stepOp P ⟨dst, .makeFunc (.func f) ⟨x :: fs⟩ #[], ty, pos, aft, gd⟩ s K = (dstOk s dst ∧ K (s.put dst (.mth f ((x :: fs).map s.ev)))) := rfl
@[go_sem] theorem st_slice {t : TypeId} {x : Operand} {lo hi : Option Operand} : stepOp P ⟨dst, .slice t x lo hi none, ty, pos, aft, gd⟩ s K = (dstOk s dst ∧ wSlice P t (s.ev x) (lo.map s.ev) (hi.map s.ev) fun d => K (s.put dst d)) := rfl
@[go_sem] theorem st_load {t : TypeId} {x : Operand} : stepOp P ⟨dst, .load t x, ty, pos, aft, gd⟩ s K = (dstOk s dst ∧ wLoad P s.bx t (s.ev x) fun d => K (s.put dst d)) := rfl
@[go_sem] theorem st_buildSlice {t : TypeId} {n : Nat} {ps : Array (Nat × Operand)} : stepOp P ⟨dst, .buildSlice t n ps, ty, pos, aft, gd⟩ s K = (dstOk s dst ∧ wOpt (elemOf P t) fun e => szOf P e ≠ 0 ∧ n * szOf P e ≤ 16777216 ∧ (zeroD P e).isSome = true ∧
    ps.toList.map (·.1) = List.range n ∧ wOpt (pureDs s.bx s.rw (ps.toList.map fun p => s.ev p.2)) fun ds => (∀ d ∈ ds, d.cells.length = szOf P e ∧ d.cells.all D.one = true) ∧ K (s.put dst (.list ds))) := rfl
@[go_sem ↓ high] theorem ev_call {fx : Operand} {xs : Array Operand} {at_ : Array TypeId} : evOps P ops (⟨dst, .call ⟨.value fx, xs, at_⟩, ty, pos, aft, none⟩ :: l) s K = (dstOk s dst ∧ wFn (s.ev fx) fun f fs cs =>
    wOpt (pureDs s.bx s.rw (fs ++ xs.toList.map s.ev ++ cs)) fun ds => CallR P f ds ops l s dst K) := by
  show (dstOk s dst ∧ wFn (s.ev fx) fun f fs cs => wOpt (pureDs s.bx s.rw (fs ++ xs.toList.map s.ev ++ cs)) fun ds => CallK P f ds fun d => evOps P ops l (s.put dst d) K) = _
  rfl
@[go_sem] theorem st_lookup {t : TypeId} {x y : Operand} : stepOp P ⟨dst, .lookup t x y true, ty, pos, aft, gd⟩ s K = (dstOk s dst ∧ wLookup P t (s.ev x) (s.ev y) fun d => K (s.put dst d)) := rfl
@[go_sem] theorem st_mapUpdate {t : TypeId} {x y z : Operand} : stepOp P ⟨dst, .mapUpdate t x y z, ty, pos, aft, gd⟩ s K = (dst = none ∧ wMapUp P t (s.ev x) (s.ev y) (s.ev z) (K s)) := rfl
@[go_sem] theorem st_lookup1 {t : TypeId} {x y : Operand} : stepOp P ⟨dst, .lookup t x y false, ty, pos, aft, gd⟩ s K = (dstOk s dst ∧ wLookup1 P t (s.ev x) (s.ev y) fun d => K (s.put dst d)) := rfl
@[go_sem] theorem e_lookup1 {t : TypeId} {ka : Bool} {va : VK} {dm : List (List Int)} {n : Nat} {f : List Int → List Int} {dk : D} : wLookup1 P t (.memo ⟨ka, va, n, f, dm⟩) dk k = wOpt (mapOf P t) fun ke => wOpt (keyInts ka dk) fun xs => xs.length = n ∧ KeyOk P ke.1 ka n ∧
    wOpt (zeroV P ke.2) fun z => k (mkE va (f xs)) ∧ (xs ∉ dm → k z) := rfl
@[congr] theorem wLookup1_cg {x x' y y' : D} {t : TypeId} {k : D → Prop} (h : x = x') (h' : y = y') : wLookup1 P t x y k = wLookup1 P t x' y' k := by rw [h, h']
@[go_sem] theorem st_makeMap {t : TypeId} : stepOp P ⟨dst, .makeMap t none, ty, pos, aft, gd⟩ s K = (dstOk s dst ∧ ∃ m : Memo, m.dom = [] ∧ K (s.put dst (.memo m))) := rfl
@[go_sem] theorem e_lookup {t : TypeId} {ka : Bool} {va : VK} {dm : List (List Int)} {n : Nat} {f : List Int → List Int} {dk : D} : wLookup P t (.memo ⟨ka, va, n, f, dm⟩) dk k = wOpt (mapOf P t) fun ke => wOpt (keyInts ka dk) fun xs => xs.length = n ∧ KeyOk P ke.1 ka n ∧
    wOpt (zeroV P ke.2) fun z => k (.tup [mkE va (f xs), .bool true]) ∧ (xs ∉ dm → k (.tup [z, .bool false])) := rfl
@[go_sem] theorem e_mapUp {t : TypeId} {ka : Bool} {va : VK} {dm : List (List Int)} {n : Nat} {f : List Int → List Int} {dk dv : D} {K : Prop} : wMapUp P t (.memo ⟨ka, va, n, f, dm⟩) dk dv K = wOpt (mapOf P t) fun ke => wOpt (keyInts ka dk) fun xs => xs.length = n ∧ KeyOk P ke.1 ka n ∧ dv = mkE va (f xs) ∧ K := rfl
attribute [go_sem] mkD mkE keyInts
@[go_sem] theorem dstOk_some {n : Nat} : dstOk s (some n) = (n < s.n) := rfl
@[go_sem] theorem put_some {N n : Nat} {sl : Nat → D} {d : D} : St.put ⟨N, sl, bx, rw⟩ (some n) d = ⟨N, Ab.put sl n d, bx, rw⟩ := rfl
@[go_sem] theorem ev_tmp {t : Tmp} : St.ev s (.tmp t) = s.sl t := rfl
@[go_sem] theorem ev_const {v : Value} : St.ev s (.const v) = constD v := rfl
@[go_sem] theorem ev_func {f : FuncId} : St.ev s (.func f) = .clo f [] := rfl
attribute [go_sem] constD put_same put_ne ofL
@[go_sem] theorem e_bool {b : Bool} {k : Bool → Prop} : wBool (.bool b) k = k b := rfl
@[go_sem] theorem e_int {q : IntKind} {n : Int} {k : IntKind → Int → Prop} : wInt (.int q n) k = k q n := rfl
@[go_sem] theorem e_int2 {q q' : IntKind} {n m : Int} {k : IntKind → Int → Int → Prop} : wInt2 (.int q n) (.int q' m) k = (q = q' ∧ k q n m) := rfl
@[go_sem] theorem e_agg {cs : List D} {k : List D → Prop} : wAgg (.agg cs) k = k cs := rfl
@[go_sem] theorem e_tup {cs : List D} {k : List D → Prop} : wTup (.tup cs) k = k cs := rfl
@[go_sem] theorem e_some {α : Type} {x : α} {k : α → Prop} : wOpt (some x) k = k x := rfl
@[go_sem] theorem e_fn {f : FuncId} {cs : List D} {k : FuncId → List D → List D → Prop} : wFn (.clo f cs) k = k f [] cs := rfl
@[go_sem] theorem e_mth {f : FuncId} {cs : List D} {k : FuncId → List D → List D → Prop} : wFn (.mth f cs) k = k f cs [] := rfl
@[go_sem] theorem e_slice_list {t : TypeId} {xs : List D} {lo hi : Option D} {k : D → Prop} : wSlice P t (.list xs) lo hi k =
    wOpt (elemOf P t) fun e => wBnd hi xs.length xs.length fun h => wBnd lo 0 h fun l => szOf P e ≠ 0 ∧ (∀ d ∈ xs, d.cells.length = szOf P e) ∧ k (.list ((xs.drop l).take (h - l))) := rfl
@[go_sem] theorem e_bnd_none {n m : Nat} {k : Nat → Prop} : wBnd none n m k = k n := rfl
@[go_sem] theorem e_bnd_some {d : D} {n m : Nat} {k : Nat → Prop} : wBnd (some d) n m k = wInt d fun _ j => 0 ≤ j ∧ j ≤ m ∧ k j.toNat := rfl
@[go_sem] theorem e_copy {dst : Option Tmp} {t : TypeId} {i off n c : Nat} {dy : D} {K : St → Prop} : wCopy P s dst t (.bsl i off n c) dy K = wOpt (elemOf P t) fun e => szOf P e = 1 ∧ wSrc s.bx dy fun ys => ys.all D.one = true ∧ match s.bx[i]? with
      | some (.mu cs) => off + n ≤ cs.length ∧ K (St.put { s with bx := s.bx.set i (.mu (cs.take off ++ ys.take n ++ cs.drop (off + (ys.take n).length))) } dst (.int .i64 (ys.take n).length))
      | _ => False := rfl
@[go_sem] theorem e_bx {i : Nat} {k : List D → Prop} : wBx bx i k = match bx[i]? with | some (.mu cs) => k cs | some (.fz cs) => k cs | _ => False := rfl
@[go_sem] theorem e_eq_int {t : TypeId} {a b : IntKind} {n m : Int} {k : Bool → Prop} : wEq P t (.int a n) (.int b m) k = (a = b ∧ k (decide (n = m))) := rfl
@[go_sem] theorem e_eq_bool {t : TypeId} {a b : Bool} {k : Bool → Prop} : wEq P t (.bool a) (.bool b) k = (P.underlying t = some .bool ∧ k (a == b)) := rfl
@[go_sem] theorem e_eq_str {t : TypeId} {a b : ByteArray} {k : Bool → Prop} : wEq P t (.str a) (.str b) k = k (a.toList == b.toList) := rfl
@[go_sem] theorem e_eq_agg {t : TypeId} {cs ds : List D} {k : Bool → Prop} : wEq P t (.agg cs) (.agg ds) k = wOpt (intsOf cs) fun xs => wOpt (intsOf ds) fun ys => xs.length = ys.length ∧ EqInts P t xs.length ∧ k (decide (xs = ys)) := rfl
attribute [go_sem] intsOf
@[go_sem] theorem e_sl_list {xs : List D} {k : List D → Prop} : wSl rw (.list xs) k = k xs := rfl
@[go_sem] theorem e_sl_own {r : Nat} {k : List D → Prop} : wSl rw (.own r) k = match rw[r]? with | some row => k row.xs | none => False := rfl
@[go_sem] theorem e_head {d : D} {ds : List D} : wHead (d :: ds) k = k d := rfl
@[go_sem] theorem e_take {t : TypeId} {cs : List D} : wTake P t cs k = wOpt (aggO P t) fun b => match b with
  | true => szOf P t ≠ 0 ∧ szOf P t ≤ cs.length ∧ k (.agg (cs.take (szOf P t)))
  | false => wHead cs k := rfl
@[go_sem] theorem e_load_box {t : TypeId} {i off : Nat} : wLoad P bx t (.box i off) k = wBx bx i fun cs => wTake P t (cs.drop off) k := rfl
@[go_sem] theorem e_load_ro {t : TypeId} {cs : List D} : wLoad P bx t (.ro cs) k = wTake P t cs k := rfl
@[go_sem] theorem e_shift_box {i off o : Nat} : wShift (.box i off) o k = k (.box i (off + o)) := rfl
@[go_sem] theorem e_shift_ro {cs : List D} {o : Nat} : wShift (.ro cs) o k = k (.ro (cs.drop o)) := rfl
@[go_sem] theorem e_add_int {a b : IntKind} {n m : Int} {k : D → Prop} : wAdd (.int a n) (.int b m) k = wInt2 (.int a n) (.int b m) fun a n m => InR a (n + m) ∧ k (.int a (n + m)) := rfl
@[go_sem] theorem e_add_str {a b : ByteArray} {k : D → Prop} : wAdd (.str a) (.str b) k = (a.size + b.size ≤ 9223372036854775807 ∧ k (.str (a ++ b))) := rfl
@[go_sem] theorem e_slice_str {t : TypeId} {s : ByteArray} {lo hi : Option D} {k : D → Prop} : wSlice P t (.str s) lo hi k = (strTy P t = true ∧ wBnd hi s.size s.size fun h => wBnd lo 0 h fun l => k (.str (s.extract l h))) := rfl
@[congr] theorem wAdd_cg {x x' y y' : D} {k : D → Prop} (h : x = x') (h' : y = y') : wAdd x y k = wAdd x' y' k := by rw [h, h']
attribute [go_sem] wBin wUn pickD wIdxA wField wIdx strTy
@[go_sem] theorem e_part {t : TypeId} {cs : List D} {off : Nat} : wPart P t cs off k = wOpt (aggO P t) fun b => match b with
  | true => szOf P t ≠ 0 ∧ off + szOf P t ≤ cs.length ∧ k (.agg ((cs.drop off).take (szOf P t)))
  | false => wOpt cs[off]? k := rfl
@[go_sem] theorem e_idx_agg {t : TypeId} {cs : List D} {ix : D} : wIdxAny P t (.agg cs) ix k = wIdx P t (.agg cs) ix k := rfl
@[go_sem] theorem e_len {t : TypeId} {x : D} : wLen P t rw x k = match elemOf P t with
  | some _ => (match x with
    | .list xs => k (.int .i64 xs.length)
    | .own r => wOpt rw[r]? fun row => k (.int .i64 row.xs.length)
    | .val (.slice none 0 0) => k (.int .i64 0)
    | .bsl _ _ n _ => k (.int .i64 n)
    | _ => False)
  | none => strTy P t = true ∧ (match x with
    | .str s => k (.int .i64 s.size)
    | _ => False) := rfl
@[go_sem] theorem e_store {t : TypeId} {i off : Nat} {d : D} : wStore P s t (.box i off) d K = match s.bx[i]? with
    | some (.mu cs) => szOf P t ≠ 0 ∧ d.cells.length = szOf P t ∧ d.cells.all D.one = true ∧ off + d.cells.length ≤ cs.length ∧
        K { s with bx := s.bx.set i (.mu (cs.take off ++ d.cells ++ cs.drop (off + d.cells.length))) }
    | _ => False := rfl
@[go_sem] theorem e_app {t : TypeId} {dx dy : D} : wApp P s dst t dx dy K = wOpt (elemOf P t) fun e => szOf P e ≠ 0 ∧ (zeroD P e).isSome = true ∧ wSl s.rw dy fun ys => (∀ y ∈ ys, y.cells.length = szOf P e) ∧
    match dx with
    | .own r => wOpt s.rw[r]? fun row => row.live = true ∧ row.e = e ∧ row.sz = szOf P e ∧ row.xs.length + ys.length ≤ 9223372036854775807 ∧
        (row.xs.length + ys.length) * bytesOf P e ≤ 140737488355328 ∧ K ((s.appended r ⟨true, e, szOf P e, row.xs ++ ys⟩).put dst (.own r))
    | .val (.slice none 0 0) => ys.length ≤ 9223372036854775807 ∧ ys.length * bytesOf P e ≤ 140737488355328 ∧
        K (St.put { s with rw := s.rw ++ [⟨true, e, szOf P e, ys⟩] } dst (.own s.rw.length))
    | _ => False := rfl
attribute [go_sem] D.cells D.one pureZ pureLZ pureM pureLM pureA pureL pureD pureDs fillD' resK resL resD retQ purge purgeB D.men menL thenQ blockQ
def purgeS (r : Nat) (sl : Nat → D) : Nat → D := fun m => purge r (sl m)
@[go_sem] theorem appended_eq {r : Nat} {row : Row} : s.appended r row = ⟨s.n, purgeS r s.sl, s.bx.map (purgeB r), s.rw.set r row⟩ := rfl
@[go_sem] theorem purge_put {sl : Nat → D} {n r : Nat} {v : D} : purgeS r (Ab.put sl n v) = Ab.put (purgeS r sl) n (purge r v) := by
  funext m; simp only [purgeS, Ab.put]; split <;> rfl
@[go_sem] theorem purge_none' {r : Nat} : purgeS r none' = none' := rfl
/-- Small rules, in one. -/
theorem bas : (∀ p : Prop, (True ∧ p) = p) ∧ (∀ p : Prop, (p ∧ True) = p) ∧ (∀ p : Prop, (False → p) = True) ∧ (∀ p : Prop, (True → p) = p) ∧ (∀ p : Prop, (False ∧ p) = False) ∧ (∀ p : Prop, (p ∨ False) = p) ∧ (∀ p : Prop, (False ∨ p) = p) ∧
    (∀ b : Bool, (b && true) = b) ∧ (∀ b : Bool, (true && b) = b) ∧ (∀ b : Bool, (b && false) = false) ∧ (∀ b : Bool, (false && b) = false) ∧
    (∀ b : Bool, (b || true) = true) ∧ (∀ b : Bool, (true || b) = true) ∧ (∀ b : Bool, (b || false) = b) ∧ (∀ b : Bool, (false || b) = b) ∧ ((!true) = false) ∧ ((!false) = true) ∧ (∀ b : Bool, (!!b) = b) ∧
    (∀ (p : Prop) [Decidable p], (decide p = true) = p) ∧ (∀ (p : Prop) [Decidable p], (decide p = false) = ¬ p) ∧ (∀ b : Bool, ((!b) = true) = (b = false)) ∧ (∀ b : Bool, ((!b) = false) = (b = true)) ∧
    (∀ n : Nat, (n : Int).toNat = n) ∧ (∀ n : Nat, (0 ≤ (n : Int)) = True) ∧ (∀ (p q : Bool), ((p && q) = true) = (p = true ∧ q = true)) ∧ (∀ p : Prop, (¬ ¬ p) = p) ∧ ((decide True) = true) ∧ ((decide False) = false) :=
  ⟨fun _ => by simp, fun _ => by simp, fun _ => by simp, fun _ => by simp, fun _ => by simp, fun _ => by simp, fun _ => by simp, by decide, by decide, by decide, by decide, by decide, by decide, by decide, by decide, rfl, rfl, by decide,
   fun _ => by simp, fun _ => by simp, fun _ => by simp, fun _ => by simp, fun _ => by simp, fun _ => by simp, fun _ _ => by simp, fun _ => by simp, rfl, rfl⟩
theorem basL : (∀ {α β : Type} (f : α → β) (l : List α), (l.map f).length = l.length) ∧ (∀ {α : Type} (a : α) (l : List α), (a :: l).length = l.length + 1) ∧ (∀ {α : Type}, ([] : List α).length = 0) ∧
    (∀ {α : Type} (l l' : List α), (l ++ l').length = l.length + l'.length) ∧ (∀ {α : Type} (l : List α), l.drop 0 = l) ∧ (∀ {α : Type} (a : α) (l : List α) (n : Nat), (a :: l).drop (n + 1) = l.drop n) ∧ (∀ {α : Type} (n : Nat), ([] : List α).drop n = []) ∧
    (∀ {α : Type} (l : List α), l.take 0 = []) ∧ (∀ {α : Type} (a : α) (l : List α) (n : Nat), (a :: l).take (n + 1) = a :: l.take n) ∧ (∀ {α : Type} (n : Nat), ([] : List α).take n = []) ∧
    (∀ {α : Type} (l : List α), [] ++ l = l) ∧ (∀ {α : Type} (a : α) (l l' : List α), (a :: l) ++ l' = a :: (l ++ l')) ∧ (∀ {α : Type} (l : List α), l ++ [] = l) ∧
    (∀ {α : Type} (a : α) (l : List α), (a :: l)[0]? = some a) ∧ (∀ {α : Type} (a : α) (l : List α) (n : Nat), (a :: l)[n + 1]? = l[n]?) ∧ (∀ {α : Type} (n : Nat), ([] : List α)[n]? = none) ∧
    (∀ {α : Type} (a b : α) (l : List α), (a :: l).set 0 b = b :: l) ∧ (∀ {α : Type} (a b : α) (l : List α) (n : Nat), (a :: l).set (n + 1) b = a :: l.set n b) ∧
    (∀ {α β : Type} (f : α → β) (a : α) (l : List α), (a :: l).map f = f a :: l.map f) ∧ (∀ {α β : Type} (f : α → β), ([] : List α).map f = []) ∧
    (∀ {α : Type} (p : α → Bool) (a : α) (l : List α), (a :: l).all p = (p a && l.all p)) ∧ (∀ {α : Type} (p : α → Bool), ([] : List α).all p = true) ∧
    (∀ {α β : Type} (f : α → β) (a : α), (some a).map f = some (f a)) ∧ (∀ {α β : Type} (f : α → β), (none : Option α).map f = none) ∧ (∀ {α β : Type} (f : α → Option β) (a : α), (some a).bind f = f a) ∧
    (∀ {α : Type} (a : α), (some a).isSome = true) ∧ (∀ {α β : Type} (f : α → β → β) (b : β) (a : α) (l : List α), (a :: l).foldr f b = f a (l.foldr f b)) ∧ (∀ {α β : Type} (f : α → β → β) (b : β), ([] : List α).foldr f b = b) ∧
    (∀ {α : Type} (p : α → Prop) (a : α) (l : List α), (∀ x ∈ a :: l, p x) = (p a ∧ ∀ x ∈ l, p x)) ∧ (∀ {α : Type} (p : α → Prop), (∀ x ∈ ([] : List α), p x) = True) ∧ (List.range 0 = []) ∧ (List.range 1 = [0]) ∧ (List.range 2 = [0, 1]) ∧ (List.range 3 = [0, 1, 2]) ∧ (List.range 4 = [0, 1, 2, 3]) :=
  ⟨fun _ _ => by simp, fun _ _ => by simp, by simp, fun _ _ => by simp, fun _ => by simp, fun _ _ _ => by simp, fun _ => by simp, fun _ => by simp, fun _ _ _ => by simp, fun _ => by simp, fun _ => by simp, fun _ _ _ => by simp, fun _ => by simp,
   fun _ _ => by simp, fun _ _ _ => by simp, fun _ => by simp, fun _ _ _ => by simp, fun _ _ _ _ => by simp, fun _ _ _ => by simp, fun _ => by simp, fun _ _ _ => by simp, fun _ => by simp, fun _ _ => by simp, fun _ => by simp, fun _ _ => by simp,
   fun _ => by simp, fun _ _ _ _ => by simp, fun _ _ => by simp, fun _ _ _ => by simp, fun _ => by simp, rfl, rfl, rfl, rfl, rfl⟩
/-- The i-th of a list: a name of its own. -/
def nth {α : Type} [Inhabited α] (xs : List α) (i : Nat) : α := xs.getD i default
theorem nth_eq {α : Type} [Inhabited α] (xs : List α) (i : Nat) (h : i < xs.length) : nth xs i = xs[i] := by simp [nth, h]
@[go_sem] theorem e_nth_map {α : Type} [Inhabited α] {f : α → D} {xs : List α} {n : Int} : wNth (xs.map f) n k = ((0 ≤ n ∧ n < xs.length) ∧ k (f (nth xs n.toNat))) := by
  unfold wNth
  refine propext ⟨fun ⟨h0, d, hd, hk⟩ => ?_, fun ⟨⟨h0, h1⟩, hk⟩ => ?_⟩
  · have hl := (List.getElem?_eq_some_iff.1 hd).1
    simp only [List.length_map] at hl
    rw [List.getElem?_map, List.getElem?_eq_getElem hl] at hd
    simp only [Option.map_some, Option.some.injEq] at hd
    refine ⟨⟨h0, by omega⟩, ?_⟩
    rw [nth_eq xs _ hl, hd]; exact hk
  · have hl : n.toNat < xs.length := by omega
    refine ⟨h0, _, by rw [List.getElem?_map, List.getElem?_eq_getElem hl]; rfl, ?_⟩
    rw [nth_eq xs _ hl] at hk; exact hk
end eqs
theorem calls_abs {P : Program} {f : FuncId} {fn : Func} {code : Code} {ds : List D} {d : D} {n : Nat} {rs : Array ResultVar} (hf : P.funcs[f]? = some fn) (hn : fn.ntmps = n) (hr : fn.results = rs)
    (hc : ∀ (args : Array Value) (w : World), (callFunc f args).run P w = .ok (.enter f args) w) (hb : fn.body = some code) (hl : ds.length ≤ n)
    (h : ∀ (w0 : World) (S0 : Addr → Prop) (M0 : MM), Abs ⟨P, w0, S0, M0, none, fun b => w0.heap.size ≤ b, []⟩ code (retQ P rs d) ⟨n, ofL 0 ds, [], []⟩) : CallsTo P f ds d := by
  subst hn; subst hr
  refine callsTo_of_abs hf hb hc hl ?_
  rintro ⟨_, w0, S0, M0, l, own, b0⟩ h1 h2 h3 h4
  simp only at h1 h2 h3 h4
  subst h1; subst h2; subst h3; subst h4
  exact h w0 S0 M0
theorem abs_if {c : Ctx} {x : Operand} {t e : Code} {Q : Exit → St → Prop} {s : St} (h : wBool (s.ev x) fun b => (b = true → Abs c t Q s) ∧ (b = false → Abs c e Q s)) : Abs c (.cond x t e) Q s := by
  cases hs : s.ev x <;> rw [hs] at h <;> simp only [wBool] at h
  exact abs_cond _ hs h.1 h.2
mutual
def namesB (nb nr : Nat) : D → Bool
  | .agg cs => namesL nb nr cs
  | .tup cs => namesL nb nr cs
  | .clo _ cs => namesL nb nr cs
  | .mth _ cs => namesL nb nr cs
  | .box i _ => decide (i < nb)
  | .own r => decide (r < nr)
  | .bsl i _ _ _ => decide (i < nb)
  | _ => true
def namesL (nb nr : Nat) : List D → Bool
  | [] => true
  | d :: ds => namesB nb nr d && namesL nb nr ds
end
attribute [go_sem] namesB namesL
mutual
theorem names_of {nb nr : Nat} : ∀ (d : D), namesB nb nr d = true → Names nb nr d
  | .undef, _ => .undef
  | .int _ _, _ => .int _ _
  | .bool _, _ => .bool _
  | .str _, _ => .str _
  | .list _, _ => .list _
  | .agg cs, h => .agg _ (namesL_of cs (by simpa [namesB] using h))
  | .tup cs, h => .tup _ (namesL_of cs (by simpa [namesB] using h))
  | .box _ _, h => .box _ _ (by simpa [namesB] using h)
  | .ro _, _ => .ro _
  | .own _, h => .own _ (by simpa [namesB] using h)
  | .clo _ cs, h => .clo _ _ (namesL_of cs (by simpa [namesB] using h))
  | .val _, _ => .val _
  | .memo _, _ => .memo _
  | .skp, _ => .skp
  | .mth _ cs, h => .mth _ _ (namesL_of cs (by simpa [namesB] using h))
  | .bsl _ _ _ _, h => .bsl _ _ _ _ (by simpa [namesB] using h)
theorem namesL_of {nb nr : Nat} : ∀ (ds : List D), namesL nb nr ds = true → ∀ d ∈ ds, Names nb nr d
  | [], _ => fun d hd => by cases hd
  | x :: ds, h => by
    have h' : namesB nb nr x = true ∧ namesL nb nr ds = true := by simpa [namesL] using h
    exact List.forall_mem_cons.2 ⟨names_of x h'.1, namesL_of ds h'.2⟩
end
def namesBx (nb nr : Nat) : List Bx → Bool
  | [] => true
  | .mu cs :: bs => namesL nb nr cs && namesBx nb nr bs
  | _ :: bs => namesBx nb nr bs
attribute [go_sem] namesBx
theorem namesBx_of {nb nr : Nat} : ∀ (bs : List Bx), namesBx nb nr bs = true → ∀ (i : Nat) (cs : List D), bs[i]? = some (.mu cs) → ∀ d ∈ cs, Names nb nr d
  | [], _, i, cs, hi => by simp at hi
  | .mu cs' :: bs, h, i, cs, hi => by
    simp only [namesBx, Bool.and_eq_true] at h
    cases i with
    | zero => simp at hi; subst hi; exact namesL_of _ h.1
    | succ i => exact namesBx_of bs h.2 i cs (by simpa using hi)
  | .fz _ :: bs, h, i, cs, hi => by
    cases i with
    | zero => simp at hi
    | succ i => exact namesBx_of bs (by simpa [namesBx] using h) i cs (by simpa using hi)
  | .dead :: bs, h, i, cs, hi => by
    cases i with
    | zero => simp at hi
    | succ i => exact namesBx_of bs (by simpa [namesBx] using h) i cs (by simpa using hi)
/-- A state that is written out. -/
def mkSt (n : Nat) (l : List (Nat × D)) (bx : List Bx) (rw : List Row) : St := ⟨n, l.foldr (fun p f => put f p.1 p.2) none', bx, rw⟩
theorem named_of {n : Nat} {l : List (Nat × D)} {bx : List Bx} {rw : List Row} (h : (l.all fun p => namesB bx.length rw.length p.2) = true) (hb : namesBx bx.length rw.length bx = true) : (mkSt n l bx rw).named := by
  refine ⟨fun m => ?_, namesBx_of bx hb⟩
  simp only [mkSt]
  clear hb
  induction l with
  | nil => exact .undef
  | cons p l ih =>
    simp only [List.all_cons, Bool.and_eq_true] at h
    simp only [List.foldr_cons, put]
    split
    · exact names_of _ h.1
    · exact ih h.2
/-- Slots that are known: the rest is forgotten. -/
theorem le_of {s : St} {n : Nat} {l : List (Nat × D)} {bx : List Bx} {rw : List Row} (hn : s.n = n) (hl : ∀ p ∈ l, s.sl p.1 = p.2) (hb : ∃ t, s.bx = bx ++ t) (hr : ∃ t, s.rw = rw ++ t) :
    Le s (mkSt n l bx rw) := by
  refine ⟨hn.symm, fun m => ?_, hb, hr⟩
  simp only [mkSt]
  clear hb hr
  induction l with
  | nil => exact .inl rfl
  | cons p l ih =>
    simp only [List.foldr_cons, put]
    by_cases h : m = p.1
    · rw [if_pos h]; subst h; exact .inr (hl p (List.mem_cons_self ..))
    · rw [if_neg h]; exact ih (fun q hq => hl q (List.mem_cons_of_mem _ hq))
/-- A loop; its states by an index. -/
theorem abs_loopN {c : Ctx} {body : Code} {Q : Exit → St → Prop} {s : St} {ι : Type} {n : Nat} (l : ι → List (Nat × D)) (bx : ι → List Bx) (rw : ι → List Row) (p : ι → Prop) (μ : ι → Nat)
    (hn : ∀ i, p i → ((l i).all fun q => namesB (bx i).length (rw i).length q.2) = true ∧ namesBx (bx i).length (rw i).length (bx i) = true)
    (i0 : ι) (h0 : p i0) (hle : Le s (mkSt n (l i0) (bx i0) (rw i0)))
    (round : ∀ i, p i → Abs c body (thenQ (fun s' => ∃ j, p j ∧ μ j < μ i ∧ Le s' (mkSt n (l j) (bx j) (rw j))) Q) ⟨n, (l i).foldr (fun p f => put f p.1 p.2) none', bx i, rw i⟩) (hβ : ∀ i, p i → c.β0.length ≤ (bx i).length := by first | exact fun _ _ => Nat.zero_le _ | (intros; simp; omega)) : Abs c (.loop body) Q s :=
  abs_loop (fun i => mkSt n (l i) (bx i) (rw i)) p μ (fun i hp => named_of (hn i hp).1 (hn i hp).2) hβ i0 h0 hle round
theorem callK {P : Program} {f : FuncId} {ds : List D} {ops l : List Oper} {s : St} {dst : Option Tmp} {K : St → Prop} {d : D} (h : CallsTo P f ds d) (hk : evOps P ops l (s.put dst d) K) : CallR P f ds ops l s dst K := ⟨d, h, hk⟩
end Go.Ab
namespace Go.Ab
end Go.Ab
namespace Go.Ab
attribute [go_sem ↓] ev_nil ev_plain ev_guard gslot_eq st_alloc st_box st_store st_append st_move st_assign st_pick st_bin st_un st_convert st_extract st_fieldAddr st_indexAddr st_index st_makeFunc st_build st_len st_max st_min st_makeMth st_slice st_load st_buildSlice st_lookup st_mapUpdate st_makeMap e_lookup e_lookup1 st_lookup1 e_mapUp dstOk_some put_some ev_tmp ev_const ev_func e_bool e_int e_int2 e_agg e_tup e_some e_fn e_mth e_bnd_none e_bnd_some e_copy e_bx e_eq_int e_eq_bool e_eq_str e_eq_agg e_sl_list e_sl_own e_head e_take e_load_box e_load_ro e_shift_box e_shift_ro e_part e_idx_agg e_len e_store e_app appended_eq e_nth_map
end Go.Ab
end
section
namespace Go.Ab
open Go.RowKit
/-- A statement by what follows: it comes to something, and what follows holds of that. -/
structure CP {α : Type} (V : (α → Prop) → Prop) : Prop where
  mono : ∀ {k k' : α → Prop}, (∀ a, k a → k' a) → V k → V k'
  ex : ∀ {k : α → Prop}, V k → ∃ a, V (fun x => x = a) ∧ k a
theorem CP.ret {α : Type} (a : α) : CP (fun k : α → Prop => k a) := ⟨fun h hk => h _ hk, fun hk => ⟨a, rfl, hk⟩⟩
theorem CP.no {α : Type} : CP (fun _ : α → Prop => False) := ⟨fun _ h => h, fun h => h.elim⟩
theorem CP.and {α : Type} {V : (α → Prop) → Prop} (p : Prop) (h : CP V) : CP (fun k => p ∧ V k) :=
  ⟨fun hk ⟨hp, hv⟩ => ⟨hp, h.mono hk hv⟩, fun ⟨hp, hv⟩ => let ⟨a, h1, h2⟩ := h.ex hv; ⟨a, ⟨hp, h1⟩, h2⟩⟩
theorem CP.andRet {α : Type} (p : Prop) (a : α) : CP (fun k : α → Prop => p ∧ k a) := .and p (.ret a)
theorem CP.bind {α β : Type} {V : (α → Prop) → Prop} {U : α → (β → Prop) → Prop} (h : CP V) (hu : ∀ a, CP (U a)) : CP (fun k => V fun a => U a k) :=
  ⟨fun hk hv => h.mono (fun a => (hu a).mono hk) hv, fun hv => by
    obtain ⟨a, h1, h2⟩ := h.ex hv
    obtain ⟨b, h3, h4⟩ := (hu a).ex h2
    exact ⟨b, h.mono (fun x hx => by rw [hx]; exact h3) h1, h4⟩⟩
theorem CP.exi {α : Type} {β : Sort _} {U : β → (α → Prop) → Prop} (hu : ∀ b, CP (U b)) : CP (fun k => ∃ b, U b k) :=
  ⟨fun hk ⟨b, h⟩ => ⟨b, (hu b).mono hk h⟩, fun ⟨b, h⟩ => let ⟨a, h1, h2⟩ := (hu b).ex h; ⟨a, ⟨b, h1⟩, h2⟩⟩
section
variable {P : Program}
theorem cp_bool (d : D) : CP (wBool d) := by cases d <;> first | exact .ret _ | exact .no
theorem cp_int {β : Type} (d : D) {U : IntKind → Int → (β → Prop) → Prop} (hu : ∀ q n, CP (U q n)) : CP (fun k => wInt d fun q n => U q n k) := by
  cases d <;> first | exact hu _ _ | exact .no
theorem cp_int2 {β : Type} (x y : D) {U : IntKind → Int → Int → (β → Prop) → Prop} (hu : ∀ q n m, CP (U q n m)) : CP (fun k => wInt2 x y fun q n m => U q n m k) :=
  cp_int x fun q n => cp_int y fun _ m => .and _ (hu q n m)
theorem cp_agg (d : D) : CP (wAgg d) := by cases d <;> first | exact .ret _ | exact .no
theorem cp_tup (d : D) : CP (wTup d) := by cases d <;> first | exact .ret _ | exact .no
theorem cp_opt {α : Type} (o : Option α) : CP (wOpt o) := by cases o <;> first | exact .ret _ | exact .no
theorem cp_eq (t : TypeId) (x y : D) : CP (wEq P t x y) := by
  unfold wEq
  split <;> first | exact .no | exact .andRet _ _ | exact .ret _ | exact .and _ (.and _ (.andRet _ _)) | exact (cp_opt _).bind fun _ => (cp_opt _).bind fun _ => .and _ (.andRet _ _)
theorem cp_bx (bx : List Bx) (i : Nat) : CP (wBx bx i) := by
  unfold wBx
  cases bx[i]? with
  | none => exact .no
  | some b => cases b <;> first | exact .ret _ | exact .no
theorem cp_sl (rw : List Row) (d : D) : CP (wSl rw d) := by
  cases d <;> first | exact .ret _ | exact .no | skip
  rename_i r
  show CP (fun k : List D → Prop => match rw[r]? with | some row => k row.xs | none => False)
  cases rw[r]? <;> first | exact .ret _ | exact .no
theorem cp_nth (xs : List D) (n : Int) : CP (wNth xs n) := .and _ (.exi fun d => .andRet _ d)
theorem cp_head (cs : List D) : CP (wHead cs) := by cases cs <;> first | exact .ret _ | exact .no
theorem cp_take (t : TypeId) (cs : List D) : CP (wTake P t cs) := (cp_opt _).bind fun b => by
  cases b
  · exact cp_head _
  · exact .and _ (.andRet _ _)
theorem cp_load (bx : List Bx) (t : TypeId) (d : D) : CP (wLoad P bx t d) := by
  cases d <;> first | exact .no | exact cp_take _ _ | exact (cp_bx _ _).bind fun _ => cp_take _ _
theorem cp_shift (d : D) (o : Nat) : CP (wShift d o) := by cases d <;> first | exact .no | exact .ret _
theorem cp_add (x y : D) : CP (wAdd x y) := by
  cases x
  case str a => cases y <;> first | exact .no | exact .andRet _ _
  all_goals exact cp_int2 _ y fun _ _ _ => .andRet _ _
theorem cp_bin (t : TypeId) (op : BinOp) (x y : D) : CP (wBin P t op x y) := by
  have he := cp_eq (P := P) t x y
  cases op <;> first
    | exact .no
    | exact cp_add x y
    | exact cp_int2 x y fun _ _ _ => .ret _
    | exact cp_int2 x y fun _ _ _ => .andRet _ _
    | exact cp_int2 x y fun _ _ _ => .and _ (.andRet _ _)
    | exact cp_int2 x y fun _ _ _ => .and _ (.and _ (.andRet _ _))
    | exact cp_int2 x y fun _ _ _ => .and _ (.and _ (.and _ (.andRet _ _)))
    | (show CP (fun k : D → Prop => wEq P t x y fun b => k (.bool b)); exact CP.bind (U := fun (b : Bool) (k : D → Prop) => k (.bool b)) (cp_eq t x y) fun b => CP.ret (D.bool b))
    | (show CP (fun k : D → Prop => wEq P t x y fun b => k (.bool (!b))); exact CP.bind (U := fun (b : Bool) (k : D → Prop) => k (.bool (!b))) (cp_eq t x y) fun b => CP.ret (D.bool (!b)))
    | exact cp_int x fun _ _ => cp_int y fun _ _ => .and _ (.andRet _ _)
    | exact cp_int x fun _ _ => cp_int y fun _ _ => .and _ (.and _ (.andRet _ _))
theorem cp_un (op : UnOp) (x : D) : CP (wUn op x) := by
  cases op <;> first | exact .no | exact (cp_bool x).bind fun _ => .ret _ | exact cp_int x fun _ _ => .andRet _ _
theorem cp_idxA (rw : List Row) (t : TypeId) (x ix : D) : CP (wIdxA P rw t x ix) := by
  unfold wIdxA
  cases Ab.elemOf P t with
  | some e => cases x <;> first | exact (cp_sl rw _).bind fun _ => cp_int ix fun _ _ => (cp_nth _ _).bind fun _ => .and _ (.andRet _ _) | exact cp_int ix fun _ _ => .and _ (.and _ (.andRet _ _))
  | none => exact (cp_opt _).bind fun _ => cp_int ix fun _ _ => .and _ (.and _ (.and _ (cp_shift _ _)))
theorem cp_part (t : TypeId) (cs : List D) (o : Nat) : CP (wPart P t cs o) := (cp_opt _).bind fun b => by
  cases b
  · exact cp_opt _
  · exact .and _ (.andRet _ _)
theorem cp_idx (t : TypeId) (x ix : D) : CP (wIdx P t x ix) := (cp_opt _).bind fun _ => (cp_agg x).bind fun _ => cp_int ix fun _ _ => .and _ (.and _ (.and _ (cp_part _ _ _)))
theorem cp_idxAny (t : TypeId) (x ix : D) : CP (wIdxAny P t x ix) := by
  cases x <;> first | exact cp_idx _ _ _ | exact .and _ (cp_int ix fun _ _ => .and _ (.exi fun _ => .ret _))
theorem cp_field (t : TypeId) (x : D) (f : Nat) : CP (wField P t x f) := (cp_opt _).bind fun _ => (cp_agg x).bind fun _ => cp_part _ _ _
theorem cp_fn {β : Type} (d : D) {U : FuncId → List D → List D → (β → Prop) → Prop} (hu : ∀ f fs cs, CP (U f fs cs)) : CP (fun k => wFn d fun f fs cs => U f fs cs k) := by
  cases d <;> first | exact hu _ _ _ | exact .no
theorem cp_bnd {β : Type} (d : Option D) (n m : Nat) {U : Nat → (β → Prop) → Prop} (hu : ∀ n, CP (U n)) : CP (fun k => wBnd d n m fun j => U j k) := by
  cases d
  · exact hu _
  · exact cp_int _ fun _ _ => .and _ (.and _ (hu _))
theorem cp_slice (t : TypeId) (x : D) (lo hi : Option D) : CP (wSlice P t x lo hi) := by
  cases x <;> first | exact .no | exact (cp_opt _).bind fun _ => cp_bnd _ _ _ fun _ => cp_bnd _ _ _ fun _ => .andRet _ _ | exact .and _ (cp_bnd _ _ _ fun _ => cp_bnd _ _ _ fun _ => .ret _) | exact (cp_opt _).bind fun _ => cp_bnd _ _ _ fun _ => cp_bnd _ _ _ fun _ => .and _ (.andRet _ _)
theorem cp_conv (s t : TypeId) (x : D) : CP (wConv P s t x) := by
  unfold wConv
  split
  · exact .and _ ((cp_opt _).bind fun _ => (cp_opt _).bind fun _ => .and _ ((cp_opt _).bind fun _ => .ret _))
  · exact (cp_opt _).bind fun _ => (cp_opt _).bind fun _ => cp_int _ fun _ _ => .andRet _ _
theorem cp_call (f : FuncId) (ds : List D) : CP (CallK P f ds) := .exi fun _ => .andRet _ _
theorem cp_len (t : TypeId) (rw : List Row) (x : D) : CP (wLen P t rw x) := by
  unfold wLen
  cases Ab.elemOf P t with
  | some e =>
    cases x <;> first | exact .ret _ | exact .no | exact (cp_opt _).bind fun _ => .ret _ | skip
    rename_i v
    simp only
    split <;> first | exact .ret _ | exact .no | exact (cp_opt _).bind fun _ => .ret _
  | none => exact .and _ (by cases x <;> first | exact .ret _ | exact .no)
theorem cp_opA (o : Op) (ρ : Operand → D) (rw : List Row) : CP (opA P o ρ rw) := by
  unfold opA
  split <;> first
    | exact .ret _
    | exact (cp_bool _).bind fun _ => .ret _
    | exact cp_bin _ _ _ _
    | exact cp_un _ _
    | exact cp_conv _ _ _
    | exact (cp_tup _).bind fun _ => cp_opt _
    | exact (cp_opt _).bind fun _ => cp_shift _ _
    | exact cp_field _ _ _
    | exact cp_idxA _ _ _ _
    | exact cp_idxAny _ _ _
    | exact (cp_opt _).bind fun _ => (cp_opt _).bind fun _ => (cp_opt _).bind fun _ => .ret _
    | exact cp_len _ _ _
    | exact cp_int2 _ _ fun _ _ _ => .ret _
    | exact cp_slice _ _ _ _
    | exact .no
theorem cp_opB (o : Op) (ρ : Operand → D) (bx : List Bx) (rw : List Row) : CP (opB P o ρ bx rw) := by
  unfold opB
  split <;> first
    | exact cp_load _ _ _
    | exact (cp_opt _).bind fun _ => .and _ (.and _ (.and _ (.and _ ((cp_opt _).bind fun _ => .andRet _ _))))
    | exact cp_fn _ fun _ _ _ => (cp_opt _).bind fun _ => cp_call _ _
    | exact cp_opA _ _ _
inductive Kd where
  | A | B | L | W | X
  deriving DecidableEq
def kindOf : Op → Kd
  | .move _ | .assign _ | .pick .. | .binOp .. | .unOp .. | .convert .. | .extract .. | .fieldAddr .. | .field .. | .indexAddr .. | .index .. | .makeFunc .. | .build .. | .slice .. => .A
  | .load .. | .buildSlice .. => .B
  | .call ⟨.value _, _, _⟩ => .B
  | .call ⟨.builtin .len, _, _⟩ => .A
  | .call ⟨.builtin .max, _, _⟩ => .A
  | .call ⟨.builtin .min, _, _⟩ => .A
  | .alloc _ | .box .. => .L
  | .store .. => .W
  | .call ⟨.builtin .copy, _, _⟩ => .W
  | _ => .X
def evS (sl : Nat → D) : Operand → D
  | .tmp t => sl t
  | .const v => constD v
  | .global g => .val (.pointer (some ⟨g, 0, none⟩))
  | .func f => .clo f []
theorem ev_eq (s : St) : s.ev = evS s.sl := by funext x; cases x <;> rfl
/-- The value of an operation of the kinds A and B. -/
theorem step_V {o : Oper} {s : St} {K : St → Prop} (h : kindOf o.op = .A ∨ kindOf o.op = .B) : stepOp P o s K ↔ dstOk s o.dst ∧ opB P o.op (evS s.sl) s.bx s.rw fun d => K (s.put o.dst d) := by
  rw [← ev_eq]
  obtain ⟨dst, op, ty, pos, aft, gd⟩ := o
  cases op <;> first | exact Iff.rfl | (simp only [kindOf, reduceCtorEq, or_self] at h; done) | skip
  rename_i cl
  obtain ⟨callee, args, at_⟩ := cl
  cases callee with
  | value f => exact Iff.rfl
  | invoke r m => exact Iff.rfl
  | builtin b =>
    cases b <;> first | exact Iff.rfl | (simp only [kindOf, reduceCtorEq, or_self] at h; done)
/-- Kind A asks no box. -/
theorem opB_A {o : Op} {ρ : Operand → D} {bx bx' : List Bx} {rw : List Row} {k : D → Prop} (h : kindOf o = .A) : opB P o ρ bx rw k → opB P o ρ bx' rw k := by
  cases o <;> first | exact id | (simp only [kindOf, reduceCtorEq] at h; done) | skip
  rename_i cl
  obtain ⟨callee, args, at_⟩ := cl
  cases callee with
  | value f => simp only [kindOf, reduceCtorEq] at h
  | invoke r m => exact id
  | builtin b => exact id
theorem pureZ_grow {bx t : List Bx} {rw : List Row} {d d' : D} (h : pureZ bx rw d = some d') : pureZ (bx ++ t) rw d = some d' := by
  unfold pureZ at h ⊢
  have key : ∀ i : Nat, i < bx.length ∨ bx[i]? = none := fun i => by
    rcases Nat.lt_or_ge i bx.length with hlt | hge
    · exact .inl hlt
    · exact .inr (List.getElem?_eq_none hge)
  split at h <;> first | exact h | skip
  case h_2 i off =>
    rcases key i with hi | hi
    · rw [List.getElem?_append_left hi]; exact h
    · rw [hi] at h; cases h
  case h_3 i off n c =>
    rcases key i with hi | hi
    · rw [List.getElem?_append_left hi]; exact h
    · rw [hi] at h; cases h
theorem pureLZ_grow {bx t : List Bx} {rw : List Row} : ∀ {ds ds' : List D}, pureLZ bx rw ds = some ds' → pureLZ (bx ++ t) rw ds = some ds'
  | [], ds', h => h
  | d :: ds, ds', h => by
    simp only [pureLZ] at h ⊢
    split at h
    · rename_i d1 h1
      rw [pureZ_grow h1]
      simp only [Option.map_eq_some_iff] at h ⊢
      obtain ⟨l, hl, rfl⟩ := h
      exact ⟨l, pureLZ_grow hl, rfl⟩
    · cases h
theorem pureM_grow {bx t : List Bx} {rw : List Row} {d d' : D} (h : pureM bx rw d = some d') : pureM (bx ++ t) rw d = some d' := by
  unfold pureM at h ⊢
  split at h
  · simp only [Option.map_eq_some_iff] at h ⊢
    obtain ⟨l, hl, rfl⟩ := h
    exact ⟨l, pureLZ_grow hl, rfl⟩
  · exact pureZ_grow h
theorem pureLM_grow {bx t : List Bx} {rw : List Row} : ∀ {ds ds' : List D}, pureLM bx rw ds = some ds' → pureLM (bx ++ t) rw ds = some ds'
  | [], ds', h => h
  | d :: ds, ds', h => by
    simp only [pureLM] at h ⊢
    split at h
    · rename_i d1 h1
      rw [pureM_grow h1]
      simp only [Option.map_eq_some_iff] at h ⊢
      obtain ⟨l, hl, rfl⟩ := h
      exact ⟨l, pureLM_grow hl, rfl⟩
    · cases h
theorem pureA_grow {bx t : List Bx} {rw : List Row} {d d' : D} (h : pureA bx rw d = some d') : pureA (bx ++ t) rw d = some d' := by
  unfold pureA at h ⊢
  split at h
  · simp only [Option.map_eq_some_iff] at h ⊢
    obtain ⟨l, hl, rfl⟩ := h
    exact ⟨l, pureLM_grow hl, rfl⟩
  · simp only [Option.map_eq_some_iff] at h ⊢
    obtain ⟨l, hl, rfl⟩ := h
    exact ⟨l, pureLZ_grow hl, rfl⟩
  · exact pureZ_grow h
theorem pureL_grow {bx t : List Bx} {rw : List Row} : ∀ {ds ds' : List D}, pureL bx rw ds = some ds' → pureL (bx ++ t) rw ds = some ds'
  | [], ds', h => h
  | d :: ds, ds', h => by
    simp only [pureL] at h ⊢
    split at h
    · rename_i d1 h1
      rw [pureA_grow h1]
      simp only [Option.map_eq_some_iff] at h ⊢
      obtain ⟨l, hl, rfl⟩ := h
      exact ⟨l, pureL_grow hl, rfl⟩
    · cases h
theorem pureD_grow {bx t : List Bx} {rw : List Row} {d d' : D} (h : pureD bx rw d = some d') : pureD (bx ++ t) rw d = some d' := by
  unfold pureD at h ⊢
  split at h
  · simp only [Option.map_eq_some_iff] at h ⊢
    obtain ⟨l, hl, rfl⟩ := h
    exact ⟨l, pureL_grow hl, rfl⟩
  · simp only [Option.map_eq_some_iff] at h ⊢
    obtain ⟨l, hl, rfl⟩ := h
    exact ⟨l, pureL_grow hl, rfl⟩
  · exact h
  · exact pureA_grow h
theorem pureDs_grow {bx t : List Bx} {rw : List Row} : ∀ {ds ds' : List D}, pureDs bx rw ds = some ds' → pureDs (bx ++ t) rw ds = some ds'
  | [], ds', h => h
  | d :: ds, ds', h => by
    simp only [pureDs] at h ⊢
    split at h
    · rename_i d1 h1
      rw [pureD_grow h1]
      simp only [Option.map_eq_some_iff] at h ⊢
      obtain ⟨l, hl, rfl⟩ := h
      exact ⟨l, pureDs_grow hl, rfl⟩
    · cases h
theorem wBx_grow {bx t : List Bx} {i : Nat} {k : List D → Prop} (h : wBx bx i k) : wBx (bx ++ t) i k := by
  have hi : i < bx.length := by
    rcases Nat.lt_or_ge i bx.length with hlt | hge
    · exact hlt
    · unfold wBx at h; rw [List.getElem?_eq_none hge] at h; exact h.elim
  unfold wBx at h ⊢
  rw [List.getElem?_append_left hi]
  exact h
theorem opB_grow {o : Op} {ρ : Operand → D} {bx t : List Bx} {rw : List Row} {k : D → Prop} : opB P o ρ bx rw k → opB P o ρ (bx ++ t) rw k := by
  unfold opB
  split
  · intro h
    unfold wLoad at h ⊢
    split at h <;> first | exact wBx_grow h | exact h
  · intro h
    obtain ⟨e, he, h1, h2, h3, h4, h⟩ := wOpt_some h
    obtain ⟨ds, hd, h⟩ := wOpt_some h
    rw [he]
    refine ⟨h1, h2, h3, h4, ?_⟩
    rw [pureDs_grow hd]
    exact h
  · intro h
    unfold wFn at h ⊢
    split at h
    · obtain ⟨ds, hd, h⟩ := wOpt_some h
      rw [pureDs_grow hd]
      exact h
    · obtain ⟨ds, hd, h⟩ := wOpt_some h
      rw [pureDs_grow hd]
      exact h
    · exact h
  · exact id
/-- An operation asks its operands alone. -/
theorem opB_congr {o : Op} {ρ ρ' : Operand → D} {bx : List Bx} {rw : List Row} {k : D → Prop} (h : ∀ x ∈ o.operands, ρ x = ρ' x) : opB P o ρ bx rw k → opB P o ρ' bx rw k := by
  cases o
  case call cl =>
    obtain ⟨callee, ⟨args⟩, at_⟩ := cl
    have ha : args.map ρ = args.map ρ' := List.map_congr_left fun x hx => h x (by simp [Op.operands, Call.operands, hx])
    cases callee with
    | value f =>
      have hf : ρ f = ρ' f := h f (by simp [Op.operands, Call.operands])
      simp only [opB, hf, ha]; exact id
    | invoke r m => exact id
    | builtin b =>
      cases b <;> first | exact id | skip
      all_goals
        match args, at_, h, ha with
        | [], _, _, _ => exact id
        | [x], ⟨[]⟩, _, _ => exact id
        | [x], ⟨[t]⟩, h, _ => 
          have h1 := h x (by simp [Op.operands, Call.operands])
          simp only [opB, opA, h1]; exact id
        | [x], ⟨_ :: _ :: _⟩, _, _ => exact id
        | [x, y], _, h, _ =>
          have h1 := h x (by simp [Op.operands, Call.operands])
          have h2 := h y (by simp [Op.operands, Call.operands])
          simp only [opB, opA, h1, h2]; exact id
        | _ :: _ :: _ :: _, _, _, _ => exact id
  case build t ps =>
    have hp : (ps.toList.map fun p => (p.1, ρ p.2)) = ps.toList.map fun p => (p.1, ρ' p.2) := List.map_congr_left fun p hp => by
      rw [h p.2 (by simp [Op.operands]; exact ⟨p.1, by simpa using hp⟩)]
    simp only [opB, opA, hp]; exact id
  case buildSlice t n ps =>
    have hp : (ps.toList.map fun p => ρ p.2) = ps.toList.map fun p => ρ' p.2 := List.map_congr_left fun p hp => by
      rw [h p.2 (by simp [Op.operands]; exact ⟨p.1, by simpa using hp⟩)]
    simp only [opB, hp]; exact id
  case makeFunc fn first cap =>
    have hc : cap.toList.map ρ = cap.toList.map ρ' := List.map_congr_left fun x hx => h x (by simp [Op.operands]; right; simpa using hx)
    obtain ⟨first⟩ := first
    cases fn <;> first | exact id | skip
    cases first with
    | nil => simp only [opB, opA, hc]; exact id
    | cons x fs =>
      obtain ⟨cap⟩ := cap
      cases cap with
      | nil =>
        have hf : (x :: fs).map ρ = (x :: fs).map ρ' := List.map_congr_left fun y hy => h y (by simp [Op.operands]; simpa using hy)
        simp only [opB, opA, hf]; exact id
      | cons y ys => exact id
  case slice t x lo hi mx =>
    cases mx with
    | some m => exact id
    | none =>
      have h1 := h x (by simp [Op.operands])
      have h2 : lo.map ρ = lo.map ρ' := by cases lo with | none => rfl | some y => simp only [Option.map_some]; rw [h y (by simp [Op.operands])]
      have h3 : hi.map ρ = hi.map ρ' := by cases hi with | none => rfl | some y => simp only [Option.map_some]; rw [h y (by simp [Op.operands])]
      simp only [opB, opA, h1, h2, h3]; exact id
  all_goals first
    | exact id
    | (have h1 := h _ (by simp only [Op.operands]; exact Array.mem_singleton.2 rfl); simp only [opB, opA, h1]; exact id)
    | (rename_i a b c
       have h1 := h a (by simp [Op.operands]); have h2 := h b (by simp [Op.operands]); have h3 := h c (by simp [Op.operands])
       simp only [opB, opA, h1, h2, h3]; exact id)
    | (rename_i a b c
       have h2 := h b (by simp [Op.operands]); have h3 := h c (by simp [Op.operands])
       simp only [opB, opA, h2, h3]; exact id)
    | (rename_i a b c d e
       have h2 := h c (by simp [Op.operands]); have h3 := h d (by simp [Op.operands])
       simp only [opB, opA, h2, h3]; exact id)
end
end Go.Ab
end
section
namespace Go.Ab
open Go.RowKit
section
variable {P : Program}
/-- What an allocation or a store does: the boxes, and the value. -/
def effOp (P : Program) (o : Op) (ρ : Operand → D) (bx : List Bx) (k : List Bx × D → Prop) : Prop := match o with
  | .alloc t => wOpt (zeroD P t) fun zs => k (bx ++ [.mu zs], .box bx.length 0)
  | .box _ x => (ρ x).cells.all D.one = true ∧ k (bx ++ [.mu (ρ x).cells], .box bx.length 0)
  | .store t x y => match ρ x with
    | .box i off => match bx[i]? with
      | some (.mu cs) => szOf P t ≠ 0 ∧ (ρ y).cells.length = szOf P t ∧ (ρ y).cells.all D.one = true ∧ off + (ρ y).cells.length ≤ cs.length ∧
          k (bx.set i (.mu (cs.take off ++ (ρ y).cells ++ cs.drop (off + (ρ y).cells.length))), .undef)
      | _ => False
    | _ => False
  | .call ⟨.builtin .copy, ⟨[x, y]⟩, ⟨[t, _]⟩⟩ => wCopyE P bx t (ρ x) (ρ y) k
  | _ => False
theorem cp_src (bx : List Bx) (d : D) : CP (wSrc bx d) := by
  cases d <;> first | exact .no | exact .ret _ | exact (cp_bx _ _).bind fun _ => .andRet _ _
theorem cp_copy (bx : List Bx) (t : TypeId) (dx dy : D) : CP (wCopyE P bx t dx dy) := by
  cases dx <;> first | exact .no | skip
  rename_i i off n c
  refine (cp_opt _).bind fun _ => .and _ ((cp_src _ _).bind fun ys => .and _ ?_)
  cases bx[i]? with
  | none => exact .no
  | some b => cases b <;> first | exact .no | exact .andRet _ _
theorem cp_eff (o : Op) (ρ : Operand → D) (bx : List Bx) : CP (effOp P o ρ bx) := by
  unfold effOp
  split
  · exact (cp_opt _).bind fun _ => .ret _
  · exact .andRet _ _
  · split
    · rename_i i off _
      cases bx[i]? with
      | none => exact .no
      | some b => cases b <;> first | exact .no | exact .and _ (.and _ (.and _ (.andRet _ _)))
    · exact .no
  · exact cp_copy _ _ _ _
  · exact .no
def effDst (o : Oper) : Prop := match o.op with | .store .. => o.dst = none | _ => True
theorem step_E {o : Oper} {s : St} {K : St → Prop} (h : kindOf o.op = .L ∨ kindOf o.op = .W) : stepOp P o s K ↔ dstOk s o.dst ∧ effDst o ∧ effOp P o.op (evS s.sl) s.bx fun r => K (St.put ⟨s.n, s.sl, r.1, s.rw⟩ o.dst r.2) := by
  rw [← ev_eq]
  obtain ⟨dst, op, ty, pos, aft, gd⟩ := o
  cases op <;> first | (simp only [kindOf, reduceCtorEq, or_self] at h; done) | skip
  · exact ⟨fun ⟨h1, h2⟩ => ⟨h1, trivial, h2⟩, fun ⟨h1, _, h2⟩ => ⟨h1, h2⟩⟩
  · exact ⟨fun ⟨h1, h2⟩ => ⟨h1, trivial, h2⟩, fun ⟨h1, _, h2⟩ => ⟨h1, h2⟩⟩
  · refine ⟨fun ⟨h1, h2⟩ => ?_, fun ⟨_, h1, h2⟩ => ?_⟩
    · have h1' : dst = none := h1
      subst h1'
      exact ⟨trivial, rfl, h2⟩
    · have h1' : dst = none := h1
      subst h1'
      exact ⟨rfl, h2⟩
  · rename_i cl
    obtain ⟨callee, args, at_⟩ := cl
    cases callee with
    | value f => simp only [kindOf, reduceCtorEq, or_self] at h
    | invoke r m => simp only [kindOf, reduceCtorEq, or_self] at h
    | builtin b =>
      cases b <;> first | (simp only [kindOf, reduceCtorEq, or_self] at h; done) | skip
      obtain ⟨args⟩ := args
      obtain ⟨at_⟩ := at_
      match args, at_ with
      | [x, y], [t, t'] => exact ⟨fun ⟨h1, h2⟩ => ⟨h1, trivial, h2⟩, fun ⟨h1, _, h2⟩ => ⟨h1, h2⟩⟩
      | [], _ => exact ⟨fun h => h.2.elim, fun h => h.2.2.elim⟩
      | [_], _ => exact ⟨fun h => h.2.elim, fun h => h.2.2.elim⟩
      | _ :: _ :: _ :: _, _ => exact ⟨fun h => h.2.elim, fun h => h.2.2.elim⟩
      | [_, _], [] => exact ⟨fun h => h.2.elim, fun h => h.2.2.elim⟩
      | [_, _], [_] => exact ⟨fun h => h.2.elim, fun h => h.2.2.elim⟩
      | [_, _], _ :: _ :: _ :: _ => exact ⟨fun h => h.2.elim, fun h => h.2.2.elim⟩
theorem eff_congr {o : Op} {ρ ρ' : Operand → D} {bx : List Bx} {k : List Bx × D → Prop} (h : ∀ x ∈ o.operands, ρ x = ρ' x) : effOp P o ρ bx k → effOp P o ρ' bx k := by
  cases o
  case call cl =>
    obtain ⟨callee, ⟨args⟩, ⟨at_⟩⟩ := cl
    cases callee with
    | value f => exact id
    | invoke r m => exact id
    | builtin b =>
      cases b <;> first | exact id | skip
      match args, at_, h with
      | [x, y], [t, t'], h =>
        have h1 := h x (by simp [Op.operands, Call.operands]); have h2 := h y (by simp [Op.operands, Call.operands])
        simp only [effOp, h1, h2]; exact id
      | [], _, _ => exact id
      | [_], _, _ => exact id
      | _ :: _ :: _ :: _, _, _ => exact id
      | [_, _], [], _ => exact id
      | [_, _], [_], _ => exact id
      | [_, _], _ :: _ :: _ :: _, _ => exact id
  all_goals first
    | exact id
    | (have h1 := h _ (by simp only [Op.operands]; exact Array.mem_singleton.2 rfl); simp only [effOp, h1]; exact id)
    | (rename_i a b c
       have h2 := h b (by simp [Op.operands]); have h3 := h c (by simp [Op.operands])
       simp only [effOp, h2, h3]; exact id)
/-- The value of a guarded operation of the kinds A and B. -/
def gval (P : Program) (ops : List Oper) (o : Oper) (sl : Nat → D) (bx : List Bx) (rw : List Row) (k : D → Prop) : Prop := match o.guard with
  | none => opB P o.op (evS sl) bx rw k
  | some (j, want) => wOpt (gslot ops j) fun t => wG (sl t) (k .skp) fun b => match b == want with
    | true => opB P o.op (evS sl) bx rw k
    | false => k .skp
theorem cp_gval (ops : List Oper) (o : Oper) (sl : Nat → D) (bx : List Bx) (rw : List Row) : CP (gval P ops o sl bx rw) := by
  unfold gval
  split
  · exact cp_opB _ _ _ _
  · rename_i j want _
    refine (cp_opt (gslot ops j)).bind fun t => ?_
    cases sl t <;> first | exact .no | exact .ret _ | skip
    rename_i b
    show CP fun k => match b == want with | true => opB P o.op (evS sl) bx rw k | false => k .skp
    cases b == want
    · exact .ret _
    · exact cp_opB _ _ _ _
/-- One operation with its guard. -/
def gst (P : Program) (ops : List Oper) (o : Oper) (s : St) (K : St → Prop) : Prop := match o.guard with
  | none => stepOp P o s K
  | some (j, want) => wOpt (gslot ops j) fun t => wG (s.sl t) (dstOk s o.dst ∧ K (s.put o.dst .skp)) fun b => match b == want with
    | true => stepOp P o s K
    | false => dstOk s o.dst ∧ K (s.put o.dst .skp)
theorem gst_V {ops : List Oper} {o : Oper} {s : St} {K : St → Prop} (h : kindOf o.op = .A ∨ kindOf o.op = .B) : gst P ops o s K ↔ dstOk s o.dst ∧ gval P ops o s.sl s.bx s.rw fun d => K (s.put o.dst d) := by
  unfold gst gval
  cases o.guard with
  | none => exact step_V h
  | some jw =>
    obtain ⟨j, want⟩ := jw
    simp only
    cases gslot ops j with
    | none => exact ⟨fun h => h.elim, fun h => h.2.elim⟩
    | some t =>
      simp only [wOpt]
      cases s.sl t <;> simp only [wG] <;> try exact ⟨fun h => h.elim, fun h => h.2.elim⟩
      rename_i b
      cases b == want
      · exact Iff.rfl
      · exact step_V h
theorem gst_E {ops : List Oper} {o : Oper} {s : St} {K : St → Prop} (h : kindOf o.op = .L ∨ kindOf o.op = .W) (hg : o.guard = none) :
    gst P ops o s K ↔ dstOk s o.dst ∧ effDst o ∧ effOp P o.op (evS s.sl) s.bx fun r => K (St.put ⟨s.n, s.sl, r.1, s.rw⟩ o.dst r.2) := by
  unfold gst
  rw [hg]
  exact step_E h
theorem evS_put {o : Oper} {ops : Array Oper} {s : St} {dst : Option Tmp} {d : D} (h : ∀ t, dst = some t → t ∉ o.looksAt ops) : ∀ x ∈ o.op.operands, evS (St.put s dst d).sl x = evS s.sl x := by
  intro x hx
  cases dst with
  | none => rfl
  | some t =>
    cases x with
    | tmp u =>
      simp only [evS, St.put, Ab.put]
      rw [if_neg]
      intro e
      subst e
      exact h u rfl (by
        simp only [Oper.looksAt, List.mem_append, List.mem_filterMap]
        exact .inl ⟨.tmp u, by simpa using hx, rfl⟩)
    | _ => rfl
theorem gval_put {ops : Array Oper} {o : Oper} {s : St} {dst : Option Tmp} {d : D} {bx : List Bx} {rw : List Row} {k : D → Prop} (h : ∀ t, dst = some t → t ∉ o.looksAt ops) :
    gval P ops.toList o (St.put s dst d).sl bx rw k ↔ gval P ops.toList o s.sl bx rw k := by
  have h1 := evS_put (s := s) (d := d) h
  have hb : ∀ {k : D → Prop}, opB P o.op (evS (St.put s dst d).sl) bx rw k ↔ opB P o.op (evS s.sl) bx rw k := fun {k} =>
    ⟨opB_congr h1, opB_congr fun x hx => (h1 x hx).symm⟩
  unfold gval
  cases hg : o.guard with
  | none => exact hb
  | some jw =>
    obtain ⟨j, want⟩ := jw
    simp only
    cases hgs : gslot ops.toList j with
    | none => exact Iff.rfl
    | some t =>
      have ht : (St.put s dst d).sl t = s.sl t := by
        cases dst with
        | none => rfl
        | some u =>
          simp only [St.put, Ab.put]
          rw [if_neg]
          intro e
          subst e
          refine h t rfl ?_
          simp only [Oper.looksAt, List.mem_append]
          right
          rw [hg]
          have : (ops[j]?).bind (·.dst) = some t := by simpa [gslot] using hgs
          show t ∈ ((ops[j]?).bind (·.dst)).toList
          rw [this]; simp
      simp only [wOpt, ht]
      cases s.sl t <;> simp only [wG]
      rename_i b
      cases b == want
      · exact Iff.rfl
      · exact hb
theorem put_put {s : St} {x y : Option Tmp} {d e : D} (h : ∀ t, x = some t → y ≠ some t) : (s.put x d).put y e = (s.put y e).put x d := by
  cases x with
  | none => rfl
  | some t =>
    cases y with
    | none => rfl
    | some u =>
      have hne : t ≠ u := fun he => h t rfl (by rw [he])
      simp only [St.put]
      congr 1
      funext m
      simp only [Ab.put]
      by_cases h1 : m = u <;> by_cases h2 : m = t
      · exact absurd (h2.symm.trans h1) hne
      · simp [h1, Ne.symm hne]
      · simp [h2, hne]
      · simp [h1, h2]
def pairOk : Kd → Kd → Bool
  | .A, .A | .A, .B | .B, .A | .B, .B | .A, .L | .B, .L | .L, .A | .A, .W | .W, .A => true
  | _, _ => false
theorem swap {ops : Array Oper} {oi oj : Oper} {s : St} {K : St → Prop} (hap : oi.apart ops oj = true) (hp : pairOk (kindOf oi.op) (kindOf oj.op) = true)
    (hgi : kindOf oi.op = .L ∨ kindOf oi.op = .W → oi.guard = none) (hgj : kindOf oj.op = .L ∨ kindOf oj.op = .W → oj.guard = none) :
    gst P ops.toList oi s (fun s1 => gst P ops.toList oj s1 K) → gst P ops.toList oj s (fun s1 => gst P ops.toList oi s1 K) := by
  obtain ⟨h1, h2, h3⟩ := Oper.apart_spec hap
  have dok : ∀ {s : St} {x y : Option Tmp} {d : D}, dstOk (St.put s x d) y ↔ dstOk s y := fun {s x y d} => by
    cases x <;> exact Iff.rfl
  have fin : ∀ {d e : D} {s : St}, (s.put oi.dst d).put oj.dst e = (s.put oj.dst e).put oi.dst d := put_put h2
  have key : ∀ (vi : kindOf oi.op = .A ∨ kindOf oi.op = .B) (vj : kindOf oj.op = .A ∨ kindOf oj.op = .B),
      gst P ops.toList oi s (fun s1 => gst P ops.toList oj s1 K) → gst P ops.toList oj s (fun s1 => gst P ops.toList oi s1 K) := fun vi vj h => by
    obtain ⟨hd, h⟩ := (gst_V vi).1 h
    obtain ⟨d, hv, h⟩ := (cp_gval _ _ _ _ _).ex h
    obtain ⟨hd', h⟩ := (gst_V vj).1 h
    obtain ⟨e, he, hK⟩ := (cp_gval _ _ _ _ _).ex h
    have hs : ∀ {x : Option Tmp} {d : D}, (St.put s x d).bx = s.bx ∧ (St.put s x d).rw = s.rw := fun {x d} => by cases x <;> exact ⟨rfl, rfl⟩
    rw [hs.1, hs.2] at he
    have he := (gval_put h1).1 he
    refine (gst_V vj).2 ⟨dok.1 hd', (cp_gval _ _ _ _ _).mono (fun x hx => ?_) he⟩
    subst hx
    refine (gst_V vi).2 ⟨dok.2 hd, ?_⟩
    rw [hs.1, hs.2]
    refine (gval_put h3).2 ((cp_gval _ _ _ _ _).mono (fun x hx => ?_) hv)
    subst hx
    rw [← fin]; exact hK
  -- a value, then an effect
  have keyVE : ∀ (vi : kindOf oi.op = .A ∨ kindOf oi.op = .B) (ej : kindOf oj.op = .L ∨ kindOf oj.op = .W)
      (hbx : ∀ {bx' : List Bx} {d : D} {k : D → Prop}, effOp P oj.op (evS s.sl) s.bx (fun r => r = (bx', d)) → gval P ops.toList oi s.sl s.bx s.rw k → gval P ops.toList oi s.sl bx' s.rw k),
      gst P ops.toList oi s (fun s1 => gst P ops.toList oj s1 K) → gst P ops.toList oj s (fun s1 => gst P ops.toList oi s1 K) := fun vi ej hbx h => by
    obtain ⟨hd, h⟩ := (gst_V vi).1 h
    obtain ⟨d, hv, h⟩ := (cp_gval _ _ _ _ _).ex h
    obtain ⟨hd', hed, h⟩ := (gst_E ej (hgj ej)).1 h
    obtain ⟨⟨bx', e⟩, he, hK⟩ := (cp_eff _ _ _).ex h
    have hs : (St.put s oi.dst d).bx = s.bx ∧ (St.put s oi.dst d).rw = s.rw ∧ (St.put s oi.dst d).n = s.n := by cases oi.dst <;> exact ⟨rfl, rfl, rfl⟩
    rw [hs.1] at he
    have he := eff_congr (evS_put h1) he
    refine (gst_E ej (hgj ej)).2 ⟨dok.1 hd', hed, (cp_eff _ _ _).mono (fun x hx => ?_) he⟩
    subst hx
    refine (gst_V vi).2 ⟨?_, ?_⟩
    · have := hd
      cases hoj : oj.dst <;> cases hoi : oi.dst <;> simp_all [dstOk, St.put]
    · have hv2 := hbx he hv
      have e1 : (St.put ⟨s.n, s.sl, bx', s.rw⟩ oj.dst e).bx = bx' ∧ (St.put ⟨s.n, s.sl, bx', s.rw⟩ oj.dst e).rw = s.rw := by cases oj.dst <;> exact ⟨rfl, rfl⟩
      rw [e1.1, e1.2]
      refine (gval_put (s := ⟨s.n, s.sl, bx', s.rw⟩) h3).2 ((cp_gval _ _ _ _ _).mono (fun x hx => ?_) hv2)
      subst hx
      have e2 : (St.mk (St.put s oi.dst x).n (St.put s oi.dst x).sl bx' (St.put s oi.dst x).rw) = St.put ⟨s.n, s.sl, bx', s.rw⟩ oi.dst x := by cases oi.dst <;> rfl
      simp only [e2] at hK
      rw [← fin]; exact hK
  -- an effect, then a value that asks no box
  have keyEV : ∀ (ei : kindOf oi.op = .L ∨ kindOf oi.op = .W) (vj : kindOf oj.op = .A),
      gst P ops.toList oi s (fun s1 => gst P ops.toList oj s1 K) → gst P ops.toList oj s (fun s1 => gst P ops.toList oi s1 K) := fun ei vj h => by
    obtain ⟨hd, hed, h⟩ := (gst_E ei (hgi ei)).1 h
    obtain ⟨⟨bx', d⟩, he, h⟩ := (cp_eff _ _ _).ex h
    obtain ⟨hd', h⟩ := (gst_V (.inl vj)).1 h
    obtain ⟨e, hv, hK⟩ := (cp_gval _ _ _ _ _).ex h
    have e1 : (St.put ⟨s.n, s.sl, bx', s.rw⟩ oi.dst d).bx = bx' ∧ (St.put ⟨s.n, s.sl, bx', s.rw⟩ oi.dst d).rw = s.rw := by cases oi.dst <;> exact ⟨rfl, rfl⟩
    simp only [e1.1, e1.2] at hv
    have hv := (gval_put (s := ⟨s.n, s.sl, bx', s.rw⟩) h1).1 hv
    have hvA : ∀ {b b' : List Bx} {k : D → Prop}, gval P ops.toList oj s.sl b s.rw k → gval P ops.toList oj s.sl b' s.rw k := fun {b b' k} hh => by
      unfold gval at hh ⊢
      cases hg : oj.guard with
      | none => rw [hg] at hh; exact opB_A vj hh
      | some jw =>
        obtain ⟨j, want⟩ := jw
        rw [hg] at hh
        simp only at hh ⊢
        cases hgs : gslot ops.toList j with
        | none => rw [hgs] at hh; exact hh
        | some t =>
          rw [hgs] at hh
          simp only [wOpt] at hh ⊢
          cases hst : s.sl t <;> rw [hst] at hh <;> simp only [wG] at hh ⊢
          case skp => exact hh
          rename_i b0
          cases hbw : b0 == want <;> rw [hbw] at hh <;> simp only at hh ⊢
          · exact hh
          · exact opB_A vj hh
    refine (gst_V (.inl vj)).2 ⟨?_, (cp_gval _ _ _ _ _).mono (fun x hx => ?_) (hvA hv)⟩
    · have := hd'
      cases hoj : oj.dst <;> cases hoi : oi.dst <;> simp_all [dstOk, St.put]
    · subst hx
      have hs : (St.put s oj.dst x).bx = s.bx ∧ (St.put s oj.dst x).rw = s.rw ∧ (St.put s oj.dst x).n = s.n := by cases oj.dst <;> exact ⟨rfl, rfl, rfl⟩
      refine (gst_E ei (hgi ei)).2 ⟨dok.2 hd, hed, ?_⟩
      rw [hs.1]
      refine (cp_eff _ _ _).mono (fun r hr => ?_) (eff_congr (fun y hy => (evS_put h3 y hy).symm) he)
      subst hr
      have e2 : (St.mk (St.put s oj.dst x).n (St.put s oj.dst x).sl bx' (St.put s oj.dst x).rw) = St.put ⟨s.n, s.sl, bx', s.rw⟩ oj.dst x := by cases oj.dst <;> rfl
      simp only [e2]
      rw [← fin]; exact hK
  have growL : kindOf oj.op = .L → ∀ {bx' : List Bx} {d : D}, effOp P oj.op (evS s.sl) s.bx (fun r => r = (bx', d)) → ∃ t, bx' = s.bx ++ t := fun hl {bx' d} he => by
    unfold effOp at he
    split at he
    · obtain ⟨zs, _, he⟩ := wOpt_some he; cases he; exact ⟨_, rfl⟩
    · cases he.2; exact ⟨_, rfl⟩
    · rename_i ho; rw [ho] at hl; cases hl
    · rename_i ho; rw [ho] at hl; cases hl
    · exact he.elim
  have gvalA : kindOf oi.op = .A → ∀ {b b' : List Bx} {k : D → Prop}, gval P ops.toList oi s.sl b s.rw k → gval P ops.toList oi s.sl b' s.rw k := fun vi {b b' k} hh => by
    unfold gval at hh ⊢
    cases hg : oi.guard with
    | none => rw [hg] at hh; exact opB_A vi hh
    | some jw =>
      obtain ⟨j, want⟩ := jw
      rw [hg] at hh
      simp only at hh ⊢
      cases hgs : gslot ops.toList j with
      | none => rw [hgs] at hh; exact hh
      | some t =>
        rw [hgs] at hh
        simp only [wOpt] at hh ⊢
        cases hst : s.sl t <;> rw [hst] at hh <;> simp only [wG] at hh ⊢
        case skp => exact hh
        rename_i b0
        cases hbw : b0 == want <;> rw [hbw] at hh <;> simp only at hh ⊢
        · exact hh
        · exact opB_A vi hh
  have gvalG : ∀ {b t : List Bx} {k : D → Prop}, gval P ops.toList oi s.sl b s.rw k → gval P ops.toList oi s.sl (b ++ t) s.rw k := fun {b t0 k} hh => by
    unfold gval at hh ⊢
    cases hg : oi.guard with
    | none => rw [hg] at hh; exact opB_grow hh
    | some jw =>
      obtain ⟨j, want⟩ := jw
      rw [hg] at hh
      simp only at hh ⊢
      cases hgs : gslot ops.toList j with
      | none => rw [hgs] at hh; exact hh
      | some t =>
        rw [hgs] at hh
        simp only [wOpt] at hh ⊢
        cases hst : s.sl t <;> rw [hst] at hh <;> simp only [wG] at hh ⊢
        case skp => exact hh
        rename_i b0
        cases hbw : b0 == want <;> rw [hbw] at hh <;> simp only at hh ⊢
        · exact hh
        · exact opB_grow hh
  cases ki : kindOf oi.op <;> cases kj : kindOf oj.op <;> rw [ki, kj] at hp <;> simp only [pairOk, Bool.false_eq_true] at hp
  · exact key (.inl ki) (.inl kj)
  · exact key (.inl ki) (.inr kj)
  · exact keyVE (.inl ki) (.inl kj) (fun _ hv => gvalA ki hv)
  · exact keyVE (.inl ki) (.inr kj) (fun _ hv => gvalA ki hv)
  · exact key (.inr ki) (.inl kj)
  · exact key (.inr ki) (.inr kj)
  · exact keyVE (.inr ki) (.inl kj) (fun he hv => by obtain ⟨t, rfl⟩ := growL kj he; exact gvalG hv)
  · exact keyEV (.inl ki) kj
  · exact keyEV (.inr ki) kj
/-- Whatever order is picked from here on. -/
def anyA (P : Program) (ops : Array Oper) (K : St → Prop) : Nat → Array Bool → St → Prop
  | 0, listed, s => Region.ready .any ops listed = [] ∧ K s
  | n + 1, listed, s => (Region.ready .any ops listed = [] → K s) ∧ ∀ i ∈ Region.ready .any ops listed, ∀ o, ops[i]? = some o → gst P ops.toList o s fun s' => anyA P ops K n (listed.setIfInBounds i true) s'
theorem gst_mono {ops : List Oper} {o : Oper} {s : St} {K K' : St → Prop} (hk : kindOf o.op ≠ .X) (hg : kindOf o.op = .L ∨ kindOf o.op = .W → o.guard = none) (h : ∀ s, K s → K' s) : gst P ops o s K → gst P ops o s K' := by
  intro hh
  cases k : kindOf o.op with
  | X => exact absurd k hk
  | A => obtain ⟨h1, h2⟩ := (gst_V (.inl k)).1 hh; exact (gst_V (.inl k)).2 ⟨h1, (cp_gval _ _ _ _ _).mono (fun _ h' => h _ h') h2⟩
  | B => obtain ⟨h1, h2⟩ := (gst_V (.inr k)).1 hh; exact (gst_V (.inr k)).2 ⟨h1, (cp_gval _ _ _ _ _).mono (fun _ h' => h _ h') h2⟩
  | L => obtain ⟨h1, h2, h3⟩ := (gst_E (.inl k) (hg (.inl k))).1 hh; exact (gst_E (.inl k) (hg (.inl k))).2 ⟨h1, h2, (cp_eff _ _ _).mono (fun _ h' => h _ h') h3⟩
  | W => obtain ⟨h1, h2, h3⟩ := (gst_E (.inr k) (hg (.inr k))).1 hh; exact (gst_E (.inr k) (hg (.inr k))).2 ⟨h1, h2, (cp_eff _ _ _).mono (fun _ h' => h _ h') h3⟩
def kindsOk (ops : List Oper) : Bool := ops.all fun o => match kindOf o.op with
  | .X => false
  | .L => o.guard.isNone
  | .W => o.guard.isNone
  | _ => true
/-- Later operations that do not wait for this one go with it. -/
def pairsFrom (o : Oper) (i : Nat) (rest : List Oper) : Bool := rest.all fun p => p.after.any (fun e => Region.binds .any e && e.on == i) || pairOk (kindOf o.op) (kindOf p.op)
def pairsOk : Nat → List Oper → Bool
  | _, [] => true
  | i, o :: rest => pairsFrom o i rest && pairsOk (i + 1) rest
theorem kinds_of {ops : Array Oper} (h : kindsOk ops.toList = true) {i : Nat} {o : Oper} (ho : ops[i]? = some o) : kindOf o.op ≠ .X ∧ (kindOf o.op = .L ∨ kindOf o.op = .W → o.guard = none) := by
  have hm : o ∈ ops.toList := by simpa using Array.mem_of_getElem? ho
  have := List.all_eq_true.1 h o hm
  cases k : kindOf o.op <;> rw [k] at this <;> simp at this ⊢ <;> exact this
theorem anyA_first {ops : Array Oper} {K : St → Prop} (hk : kindsOk ops.toList = true) {i : Nat} {oi : Oper} (hi : ops[i]? = some oi) :
    ∀ (fuel : Nat) (listed : Array Bool) (s : St),
      (∀ (j : Nat) (oj : Oper), ops[j]? = some oj → j ≠ i → listed.getD j true = false → (∀ e ∈ oj.after, Region.binds .any e = true → e.on ≠ i) → oi.apart ops oj = true ∧ pairOk (kindOf oi.op) (kindOf oj.op) = true) →
      i ∈ Region.ready .any ops listed → gst P ops.toList oi s (fun s' => anyA P ops K fuel (listed.setIfInBounds i true) s') → anyA P ops K (fuel + 1) listed s := by
  intro fuel
  induction fuel with
  | zero =>
    intro listed s _ hr H
    refine ⟨fun h => (by rw [h] at hr; cases hr), fun j hj oj hoj => ?_⟩
    by_cases hji : j = i
    · subst hji; rw [hi] at hoj; cases hoj; exact H
    · -- j would be ready behind i, and nothing is
      have hrj := ready_mono hj hji
      have hm := kinds_of hk hi
      exfalso
      have : ∃ s', anyA P ops K 0 (listed.setIfInBounds i true) s' := by
        cases k : kindOf oi.op with
        | X => exact absurd k hm.1
        | A => obtain ⟨_, h2⟩ := (gst_V (.inl k)).1 H; obtain ⟨d, _, h3⟩ := (cp_gval _ _ _ _ _).ex h2; exact ⟨_, h3⟩
        | B => obtain ⟨_, h2⟩ := (gst_V (.inr k)).1 H; obtain ⟨d, _, h3⟩ := (cp_gval _ _ _ _ _).ex h2; exact ⟨_, h3⟩
        | L => obtain ⟨_, _, h2⟩ := (gst_E (.inl k) (hm.2 (.inl k))).1 H; obtain ⟨d, _, h3⟩ := (cp_eff _ _ _).ex h2; exact ⟨_, h3⟩
        | W => obtain ⟨_, _, h2⟩ := (gst_E (.inr k) (hm.2 (.inr k))).1 H; obtain ⟨d, _, h3⟩ := (cp_eff _ _ _).ex h2; exact ⟨_, h3⟩
      obtain ⟨s', h1, _⟩ := this
      rw [h1] at hrj
      cases hrj
  | succ fuel ih =>
    intro listed s hfree hr H
    refine ⟨fun h => (by rw [h] at hr; cases hr), fun j hj oj hoj => ?_⟩
    by_cases hji : j = i
    · subst hji; rw [hi] at hoj; cases hoj; exact H
    · obtain ⟨hjun, oj', hoj', hall⟩ := mem_ready.1 hj
      rw [hoj] at hoj'; cases hoj'
      have hnot : ∀ e ∈ oj.after, Region.binds .any e = true → e.on ≠ i := fun e he hb heq => by
        have h1 := hall e he hb
        have h0 := (mem_ready.1 hr).1
        rw [heq] at h1
        rcases Nat.lt_or_ge i listed.size with h' | h'
        · simp [h'] at h0 h1; rw [h0] at h1; cases h1
        · simp [Array.getElem?_eq_none h'] at h1
      obtain ⟨hap, hpk⟩ := hfree j oj hoj hji hjun hnot
      have hmi := kinds_of hk hi
      have hmj := kinds_of hk hoj
      have h1 : gst P ops.toList oi s fun s1 => gst P ops.toList oj s1 fun s2 => anyA P ops K fuel ((listed.setIfInBounds i true).setIfInBounds j true) s2 :=
        gst_mono hmi.1 hmi.2 (fun s1 hs1 => hs1.2 j (ready_mono hj hji) oj hoj) H
      have h2 := swap hap hpk hmi.2 hmj.2 h1
      have hfree' : ∀ (k : Nat) (ok : Oper), ops[k]? = some ok → k ≠ i → (listed.setIfInBounds j true).getD k true = false →
          (∀ e ∈ ok.after, Region.binds .any e = true → e.on ≠ i) → oi.apart ops ok = true ∧ pairOk (kindOf oi.op) (kindOf ok.op) = true := fun k ok hk hki hun hno => by
        refine hfree k ok hk hki ?_ hno
        by_cases hjk : j = k
        · subst hjk; exact hjun
        · rw [getD_set_ne true hjk] at hun; exact hun
      refine gst_mono hmj.1 hmj.2 (fun s1 h3 => ih (listed.setIfInBounds j true) s1 hfree' (ready_mono hr (Ne.symm hji)) ?_) h2
      rw [Array.setIfInBounds_comm _ _ hji]
      exact h3
theorem evOps_gst {ops : List Oper} {o : Oper} {l : List Oper} {s : St} {K : St → Prop} (h : evOps P ops (o :: l) s K) : gst P ops o s fun s' => evOps P ops l s' K := by
  unfold evOps at h
  unfold gst
  cases hg : o.guard with
  | none => rw [hg] at h; exact h
  | some jw =>
    obtain ⟨j, want⟩ := jw
    rw [hg] at h
    simp only at h ⊢
    cases hgs : gslot ops j with
    | none => rw [hgs] at h; exact h
    | some t =>
      rw [hgs] at h
      simp only [wOpt] at h ⊢
      cases hst : s.sl t <;> rw [hst] at h <;> simp only [wG] at h ⊢
      case skp => exact h
      rename_i b
      cases hbw : b == want with
      | true =>
        have e : b = want := by simpa using hbw
        subst e
        have := h.1 rfl
        rw [reput hst] at this
        exact this
      | false =>
        have hne : b = !want := by cases b <;> cases want <;> simp_all
        have h2 := h.2 hne
        rw [← hne, reput hst] at h2
        exact h2
theorem pairsOk_at : ∀ (l : List Oper) (i : Nat), pairsOk i l = true → ∀ (a b : Nat) (oa ob : Oper), a < b → l[a]? = some oa → l[b]? = some ob →
    (∀ e ∈ ob.after, Region.binds .any e = true → e.on ≠ i + a) → pairOk (kindOf oa.op) (kindOf ob.op) = true
  | [], i, _, a, b, oa, ob, _, ha, _, _ => by simp at ha
  | o :: l, i, h, a, b, oa, ob, hab, ha, hb, hno => by
    simp only [pairsOk, Bool.and_eq_true] at h
    obtain ⟨b, rfl⟩ : ∃ b', b = b' + 1 := ⟨b - 1, by omega⟩
    cases a with
    | zero =>
      simp at ha; subst ha
      have hm : ob ∈ l := List.mem_of_getElem? (by simpa using hb)
      have := List.all_eq_true.1 h.1 ob hm
      simp only [Bool.or_eq_true, Array.any_eq_true', Bool.and_eq_true, beq_iff_eq] at this
      rcases this with ⟨e, he, h1, h2⟩ | h
      · exact absurd h2 (hno e he h1)
      · exact h
    | succ a =>
      exact pairsOk_at l (i + 1) h.2 a b oa ob (by omega) (by simpa using ha) (by simpa using hb) (fun e he hb' => by have := hno e he hb'; omega)
theorem anyA_lex {ops : Array Oper} {K : St → Prop} (hk : kindsOk ops.toList = true) (hp : pairsOk 0 ops.toList = true) : ∀ (l : List Oper) (k : Nat) (listed : Array Bool) (s : St), (∀ j, l[j]? = ops[k + j]?) →
    (∀ j, j < k → listed.getD j true = true) → Region.lexFrom .any ops l.length k listed = true → evOps P ops.toList l s K → anyA P ops K l.length listed s
  | [], _, _, _, _, _, hB, h => ⟨by simpa [Region.lexFrom] using hB, h⟩
  | o :: l, k, listed, s, hl, hlt, hB, h => by
    have h0 : ops[k]? = some o := by simpa using (hl 0).symm
    simp only [List.length_cons, Region.lexFrom, Bool.and_eq_true] at hB
    obtain ⟨⟨hr, hf⟩, hB'⟩ := hB
    have hm := kinds_of hk h0
    refine anyA_first hk h0 l.length listed s (fun j oj hj hjk hun hno => ⟨Region.free_spec h0 hf j oj hj hjk hun hno, ?_⟩) (by simpa using hr)
      (gst_mono hm.1 hm.2 (fun s' hs' => anyA_lex hk hp l (k + 1) _ s' (fun j => by have := hl (j + 1); simpa [Nat.add_assoc, Nat.add_comm 1 j] using this) (fun j hj => ?_) hB' hs') (evOps_gst h))
    · have hkj : k < j := by
        rcases Nat.lt_trichotomy j k with h1 | h1 | h1
        · rw [hlt j h1] at hun; cases hun
        · exact absurd h1 hjk
        · exact h1
      exact pairsOk_at ops.toList 0 hp k j o oj hkj (by simpa using h0) (by simpa using hj) (by simpa using hno)
    · by_cases h1 : k = j
      · subst h1
        by_cases hs : k < listed.size
        · simp [hs]
        · simp [hs]
      · rw [getD_set_ne true h1]; exact hlt j (by omega)
theorem gst_sound {c : Ctx} {s : St} {a : Act} {w : World} {g : Gh} {ops : Array Oper} {o : Oper} {K : St → Prop} {N : Act → World → Prop} {Q : Exit → Act → World → Prop} (hg : RG c s a w g) (hN : ∀ s a w, R c s a w → K s → N a w)
    (h : gst c.P ops.toList o s K) : if Region.wanted o (yielded ops a.tmps) then o.wpIn c.F 0 c.P a w N Q else (∀ f, o.about c.P w a.eval = some f → c.F.fn f) ∧ N (a.put o.dst undef) w := by
  have next : stepOp c.P o s K → o.wpIn c.F 0 c.P a w N Q := fun hst => op_in (step_nodefer hst) (Oper.wp_mono (fun a' w' ⟨s', hr', hk'⟩ => hN s' a' w' hr' hk') (step_sound hg hst))
  unfold gst at h
  split at h
  · rename_i hgd
    rw [if_pos (by simp [Region.wanted, hgd])]
    exact next h
  · rename_i j want hgd
    obtain ⟨t, ht, h2⟩ := wOpt_some h
    clear h
    cases hb : s.sl t <;> rw [hb] at h2 <;> simp only [wG] at h2
    case skp =>
      have hy := R.noYield hg ht hb
      rw [if_neg (by simp [Region.wanted, hgd, hy])]
      exact ⟨fun _ _ => trivial, hN _ _ _ ⟨g, hg.put h2.1 (.skp _)⟩ h2.2⟩
    rename_i b
    have hy := R.yielded hg ht hb
    cases hbw : b == want with
    | true =>
      rw [hbw] at h2
      have e : b = want := by simpa using hbw
      rw [if_pos (by simp [Region.wanted, hgd, hy, e])]
      exact next h2
    | false =>
      rw [hbw] at h2
      have hne : b ≠ want := by simpa using hbw
      rw [if_neg (by simp [Region.wanted, hgd, hy, hne])]
      exact ⟨fun _ _ => trivial, hN _ _ _ ⟨g, hg.put h2.1 (.skp _)⟩ h2.2⟩
theorem anyA_sound {c : Ctx} {ops : Array Oper} {K : St → Prop} {Q : Exit → Act → World → Prop} (hQ : ∀ s a w, R c s a w → K s → Q .normal a w) : ∀ (fuel : Nat) (listed : Array Bool) (s : St) (a : Act) (w : World), R c s a w →
    anyA c.P ops K fuel listed s → wpAnyIn c.F 0 c.P .any ops Q fuel listed a w
  | 0, _, s, a, w, hr, h => ⟨h.1, hQ s a w hr h.2⟩
  | fuel + 1, listed, s, a, w, hr, h => by
    refine ⟨fun h0 => hQ s a w hr (h.1 h0), fun i hi => ?_⟩
    obtain ⟨g, hg⟩ := hr
    unfold wpOpIn
    cases ho : ops[i]? with
    | none =>
      obtain ⟨_, o, ho', _⟩ := mem_ready.1 hi
      rw [ho] at ho'; cases ho'
    | some o =>
      exact gst_sound hg (fun s' a' w' hr' hk' => anyA_sound hQ fuel _ s' a' w' hr' hk') (h.2 i hi o ho)
theorem RG.drewTick {c : Ctx} {s : St} {a : Act} {w : World} (h : R c s a w) : R c s a { w with drawn := w.drawn + 1 } := by
  obtain ⟨g, h⟩ := h
  exact ⟨_, h.world (w' := { w with drawn := w.drawn + 1 }) (S' := g.S) ⟨rfl, rfl, rfl, Nat.le_refl _, fun _ _ => rfl⟩ (fun _ h => h) (fun _ h => .inl h) h.good⟩
/-- A region that draws its order: the order of the text serves for all. -/
theorem abs_draw {c : Ctx} {id : Nat} {l : List Oper} {Q : Exit → St → Prop} {s : St} (hm : c.P.follows .mixedOrders = true) (hB : (Region.lexB .any l.toArray && kindsOk l && pairsOk 0 l) = true)
    (h : ∀ K : St → Prop, (∀ s', Q .normal s' → K s') → evOps c.P l l s K) : Abs c (.region id l.toArray true) Q s := by
  intro a w hr
  simp only [Bool.and_eq_true, Region.lexB] at hB
  obtain ⟨⟨⟨_, hl⟩, hk⟩, hp⟩ := hB
  refine wpIn_region_any hm (anyA_sound (K := Q .normal) (fun s a w hr hq => ⟨s, hr, hq⟩) _ _ s _ _ (RG.drewTick hr) ?_)
  have := anyA_lex (P := c.P) (ops := l.toArray) (K := Q .normal) (by simpa using hk) (by simpa using hp) l 0 (Array.replicate l.length false) s (by simp) (by simp) (by simpa using hl) (h _ (fun _ h => h))
  simpa using this
end
end Go.Ab
end
section
namespace Go.Ab
/-!
  Steps whose tactics are told once: each is an argument that is found by itself.
-/
theorem sim {p q : Prop} (k : q) (h : p = q := by simp -implicitDefEqProofs only [go_sem, bas, basL, Nat.reduceAdd, Nat.reduceSub, Nat.reduceMul, Nat.reduceLT, Nat.reduceLeDiff, Nat.reduceEqDiff, Nat.reduceBEq, Int.reduceLT, Int.reduceLE, Int.reduceToNat, Int.reduceAdd, Int.reduceSub, Int.reduceMul, Int.reduceNeg, Int.reduceEq, reduceCtorEq, eq_self, ne_eq, not_false_eq_true, if_true, reduceIte] <;> rfl) : p := h.symm ▸ k
theorem simh {p q : Prop} (k : q) (h : p = q := by simp -implicitDefEqProofs only [go_sem, bas, basL, Nat.reduceAdd, Nat.reduceSub, Nat.reduceMul, Nat.reduceLT, Nat.reduceLeDiff, Nat.reduceEqDiff, Nat.reduceBEq, Int.reduceLT, Int.reduceLE, Int.reduceToNat, Int.reduceAdd, Int.reduceSub, Int.reduceMul, Int.reduceNeg, Int.reduceEq, reduceCtorEq, eq_self, ne_eq, not_false_eq_true, if_true, reduceIte, hX] <;> rfl) : p := h.symm ▸ k
theorem withX {E p : Prop} (e : E) (k : E → p) : p := k e
/-- The code's outermost form. -/
theorem st1 {p q : Prop} (k : q) (h : q → p := by first | exact abs_seq | exact abs_block | exact abs_skip | exact abs_scope | exact abs_label | exact abs_exit | exact abs_ret) : p := h k
/-- What holds at the end of a piece. -/
theorem qst {p q : Prop} (k : q) (h : p = q := by simp only [noGoQ, thenQ, blockQ, if_true, Nat.reduceEqDiff, reduceIte] <;> rfl) : p := h.symm ▸ k
theorem qst0 {p q : Prop} (k : q) (h : p = q := by simp only [thenQ, blockQ, if_true, Nat.reduceEqDiff, reduceIte] <;> rfl) : p := h.symm ▸ k
/-- Sides of a step. -/
theorem fin {p : Prop} (h : p := by first | with_reducible rfl | exact trivial | (clear hK; omega) | omega) : p := h
theorem fin2 {p : Prop} (h : False := by first | omega | contradiction) : p := h.elim
end Go.Ab
end
