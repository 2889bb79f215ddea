import Derived.Test.YthamljpomhjepaaAbC
set_option linter.unusedVariables false
set_option linter.unusedSimpArgs false
namespace Go.Ab
open Go.RowKit

theorem men_of_rel {w : World} {g : Gh} {v : Value} {d : D} {r : Nat} (h : Rel w g v d) : g.ρ.length ≤ r → d.men r = false := by
  have key : ∀ (vs : Nat → Value) (cs : List D), (∀ (q : Nat) (d : D), cs[q]? = some d → d.men r = false) → menL r cs = false := by
    intro vs cs
    induction cs with
    | nil => intro _; rfl
    | cons d cs ih =>
      intro h
      simp only [menL, Bool.or_eq_false_iff]
      exact ⟨h 0 d rfl, ih (fun q d hd => h (q + 1) d (by simpa using hd))⟩
  induction h with
  | own g r' v h =>
    intro hr
    have := (List.getElem?_eq_some_iff.1 h).1
    simp only [D.men, beq_eq_false_iff_ne, ne_eq]; omega
  | agg g vs cs hl h1 hr ih => intro h; exact key (fun _ => Go.undef) cs (fun q d hd => ih q d hd h)
  | tup g vs cs hl hr ih => intro h; exact key (fun _ => Go.undef) cs (fun q d hd => ih q d hd h)
  | clo g f vs cs hl hr ih => intro h; exact key (fun _ => Go.undef) cs (fun q d hd => ih q d hd h)
  | mth g f vs cs hl hr ih => intro h; exact key (fun _ => Go.undef) cs (fun q d hd => ih q d hd h)
  | _ => intro _; rfl


def wApp (P : Program) (s : St) (dst : Option Tmp) (t : TypeId) (dx dy : D) (K : St → Prop) : Prop :=
  wOpt (elemOf P t) fun e => szOf P e ≠ 0 ∧ (zeroD P e).isSome = true ∧ wSl s.rw dy fun ys => (∀ y ∈ ys, y.cells.length = szOf P e) ∧
    match dx with
    | .own r => wOpt s.rw[r]? fun row => row.live = true ∧ row.e = e ∧ row.sz = szOf P e ∧ row.xs.length + ys.length ≤ 9223372036854775807 ∧
        (row.xs.length + ys.length) * bytesOf P e ≤ 140737488355328 ∧ K ((s.appended r ⟨true, e, szOf P e, row.xs ++ ys⟩).put dst (.own r))
    | .val (.slice none 0 0) => ys.length ≤ 9223372036854775807 ∧ ys.length * bytesOf P e ≤ 140737488355328 ∧
        K (St.put { s with rw := s.rw ++ [⟨true, e, szOf P e, ys⟩] } dst (.own s.rw.length))
    | _ => False

def wIdxAny (P : Program) (t : TypeId) (x ix : D) (k : D → Prop) : Prop := match x with
  | .str s => strTy P t = true ∧ wInt ix fun _ n => 0 ≤ n ∧ ∃ hl : n.toNat < s.size, k (.int .u8 (s[n.toNat]'hl).toNat)
  | _ => wIdx P t x ix k

/-- The value of an operation that reads no box. -/
def opA (P : Program) (o : Op) (ρ : Operand → D) (rw : List Row) (k : D → Prop) : Prop := match o with
  | .move x => k (ρ x)
  | .assign x => k (ρ x)
  | .pick c a b => wBool (ρ c) fun t => k (pickD t (ρ a) (ρ b))
  | .binOp op xt x y _ => wBin P xt op (ρ x) (ρ y) k
  | .unOp op _ x => wUn op (ρ x) k
  | .convert s t x => wOpt (intOfTy P s) fun _ => wOpt (intOfTy P t) fun q => wInt (ρ x) fun _ n => InR q n ∧ k (.int q n)
  | .extract x i => wTup (ρ x) fun ds => wOpt ds[i]? k
  | .fieldAddr s x f => wOpt (fieldOff P s f) fun ot => wShift (ρ x) ot.1 k
  | .field s x f => wField P s (ρ x) f k
  | .indexAddr t x ix => wIdxA P rw t (ρ x) (ρ ix) k
  | .index t x ix => wIdxAny P t (ρ x) (ρ ix) k
  | .makeFunc (.func f) ⟨[]⟩ cap => k (.clo f (cap.toList.map ρ))
  | .makeFunc (.func f) ⟨x :: fs⟩ ⟨[]⟩ => k (.mth f ((x :: fs).map ρ))
  | .slice t x lo hi none => wSlice P t (ρ x) (lo.map ρ) (hi.map ρ) k
  | .build t ps => wOpt (zeroD P t) fun zs => wOpt (placeD P t) fun place => wOpt (fillD' place zs (ps.toList.map fun p => (p.1, ρ p.2))) fun cs => k (.agg cs)
  | .call ⟨.builtin .len, ⟨[x]⟩, ⟨[t]⟩⟩ => wLen P t rw (ρ x) k
  | .call ⟨.builtin .max, ⟨[x, y]⟩, _⟩ => wInt2 (ρ x) (ρ y) fun q n m => k (.int q (max n m))
  | .call ⟨.builtin .min, ⟨[x, y]⟩, _⟩ => wInt2 (ρ x) (ρ y) fun q n m => k (.int q (min n m))
  | _ => False

/-- .. of one that does. -/
def opB (P : Program) (o : Op) (ρ : Operand → D) (bx : List Bx) (rw : List Row) (k : D → Prop) : Prop := match o with
  | .load t x => wLoad P bx t (ρ x) k
  | .buildSlice t n ps => wOpt (elemOf P t) fun e => szOf P e ≠ 0 ∧ n * szOf P e ≤ 16777216 ∧ (zeroD P e).isSome = true ∧ ps.toList.map (·.1) = List.range n ∧
      wOpt (pureDs bx rw (ps.toList.map fun p => ρ p.2)) fun ds => (∀ d ∈ ds, d.cells.length = szOf P e ∧ d.cells.all D.one = true) ∧ k (.list ds)
  | .call ⟨.value fx, xs, _⟩ => wFn (ρ fx) fun f fs cs => wOpt (pureDs bx rw (fs ++ xs.toList.map ρ ++ cs)) fun ds => CallK P f ds k
  | o => opA P o ρ rw k

/-- One operation. -/
def stepOp (P : Program) (o : Oper) (s : St) (K : St → Prop) : Prop := match o.op with
  | .alloc t => dstOk s o.dst ∧ wOpt (zeroD P t) fun zs => K (St.put { s with bx := s.bx ++ [.mu zs] } o.dst (.box s.bx.length 0))
  | .box _ x => dstOk s o.dst ∧ (s.ev x).cells.all D.one = true ∧ K (St.put { s with bx := s.bx ++ [.mu (s.ev x).cells] } o.dst (.box s.bx.length 0))
  | .store t x y => o.dst = none ∧ wStore P s t (s.ev x) (s.ev y) K
  | .call ⟨.builtin .append, ⟨[x, y]⟩, ⟨[t, t']⟩⟩ => dstOk s o.dst ∧ t' = t ∧ wApp P s o.dst t (s.ev x) (s.ev y) K
  | .call ⟨.builtin .copy, ⟨[x, y]⟩, ⟨[t, _]⟩⟩ => dstOk s o.dst ∧ wCopy P s o.dst t (s.ev x) (s.ev y) K
  | .makeSlice t x y => dstOk s o.dst ∧ wMake P s o.dst t (s.ev x) (s.ev y) K
  | .lookup t x y true => dstOk s o.dst ∧ wLookup P t (s.ev x) (s.ev y) fun d => K (s.put o.dst d)
  | .mapUpdate t x y z => o.dst = none ∧ wMapUp P t (s.ev x) (s.ev y) (s.ev z) (K s)
  | .makeMap _ none => dstOk s o.dst ∧ ∃ m : Memo, K (s.put o.dst (.memo m))
  | op => dstOk s o.dst ∧ opB P op s.ev s.bx s.rw fun d => K (s.put o.dst d)

section
variable {c : Ctx} {s : St} {a : Act} {w : World} {g : Gh}

theorem purge_id {r : Nat} {d : D} (h : d.men r = false) : purge r d = d := by unfold purge; rw [h]

theorem s_append {o : Oper} {x y : Operand} {t : TypeId} {K : St → Prop} {Q : Exit → Act → World → Prop} (h : RG c s a w g)
    (ho : o.op = .call { callee := .builtin .append, args := #[x, y], argTypes := #[t, t] }) (hd : dstOk s o.dst) (hk : wApp c.P s o.dst t (s.ev x) (s.ev y) K) :
    o.wp c.P a w (fun a' w' => ∃ s', R c s' a' w' ∧ K s') Q := by
  obtain ⟨e, he, hz, hzz, hk⟩ := wOpt_some hk
  have ⟨ys, hy, hys, hk⟩ := wSl_rel h.mem (h.ev y) hk
  split at hk
  · rename_i r hx
    obtain ⟨row, hrow, hl, he', hsz, h63, hb, hk⟩ := wOpt_some hk
    subst he'
    have hxr := h.ev x
    rw [hx] at hxr
    generalize hve : a.eval x = vx at hxr
    cases hxr with
    | own _ _ _ hv =>
      obtain ⟨v', w', g', hrun, hr, hρ⟩ := h.append (t := t) (ty := o.type) hrow hl hv hy he hsz.symm hz hzz (by rw [hsz]; exact hys) h63 hb
      have hex : (execOp a.eval o).run c.P w = .ok (.value v') w' := by
        simp [execOp, ho, resolve, invoke, builtin, hve, hrun]
      unfold Oper.wp
      rw [hex]
      rw [hsz] at hr
      exact ⟨_, ⟨g', hr.put hd (.own _ _ _ hρ)⟩, hk⟩
  · rename_i hx
    obtain ⟨h63, hb, hk⟩ := hk
    have hxr := h.ev x
    rw [hx] at hxr
    generalize hv : a.eval x = vx at hxr
    cases hxr
    have hp := h.pushNil e (szOf c.P e)
    have hrl : (s.rw ++ [⟨true, e, szOf c.P e, []⟩])[s.rw.length]? = some ⟨true, e, szOf c.P e, []⟩ := by simp
    have hρl : (g.ρ ++ [Value.slice none 0 0])[s.rw.length]? = some (.slice none 0 0) := by rw [← h.lρ]; simp
    have ky : Keeps w g w ⟨g.S, g.β, g.ρ ++ [.slice none 0 0], g.M⟩ := ⟨fun _ _ => rfl, fun _ h => h, fun _ _ h => h, fun i b hi => by
      rw [List.getElem?_append_left (List.getElem?_eq_some_iff.1 hi).1]; exact hi, fun _ _ h => h⟩
    obtain ⟨v', w', g', hrun, hr, hρ⟩ := hp.append (t := t) (ty := o.type) hrl rfl hρl (hy.keep ky) he rfl hz hzz hys (by simpa using h63) (by simpa using hb)
    have hex : (execOp a.eval o).run c.P w = .ok (.value v') w' := by
      simp [execOp, ho, resolve, invoke, builtin, hv, hrun]
    -- nothing names the new row
    have e1 : (fun n => purge s.rw.length (s.sl n)) = s.sl := funext fun n => purge_id (men_of_rel (h.sl n) (by rw [h.lρ]; exact Nat.le_refl _))
    have e2 : s.bx.map (purgeB s.rw.length) = s.bx := by
      apply List.ext_getElem
      · simp
      · intro i h1 h2
        simp only [List.getElem_map]
        cases hbx : s.bx[i] with
        | mu cs =>
          obtain ⟨b, vs, tb, f1, f2, f3, _⟩ := (h.bx i cs (by rw [List.getElem?_eq_getElem h2, hbx])).ex
          have f3 : CellsR w g vs cs := f3
          simp only [purgeB]
          congr 1
          apply List.ext_getElem
          · simp
          · intro q h1 h2
            simp only [List.getElem_map]
            exact purge_id (men_of_rel (f3.2 q _ (List.getElem?_eq_getElem h2)).1 (by rw [h.lρ]; exact Nat.le_refl _))
        | fz cs => rfl
        | dead => rfl
    have e3 : St.appended { s with rw := s.rw ++ [⟨true, e, szOf c.P e, []⟩] } s.rw.length ⟨true, e, szOf c.P e, [] ++ ys⟩ = { s with rw := s.rw ++ [⟨true, e, szOf c.P e, ys⟩] } := by
      simp only [St.appended, e1, e2, List.nil_append]
      simp
    rw [e3] at hr
    unfold Oper.wp
    rw [hex]
    exact ⟨_, ⟨g', hr.put hd (.own _ _ _ hρ)⟩, hk⟩
  · exact hk.elim

theorem opA_sound {o : Oper} {k : D → Prop} (h : RG c s a w g) (hk : opA c.P o.op s.ev s.rw k) : Yields c.P o a w g k := by
  unfold opA at hk
  split at hk
  · exact y_move (.inl ‹_›) (h.ev _) hk
  · exact y_move (.inr ‹_›) (h.ev _) hk
  · exact y_pick ‹_› (h.ev _) (h.ev _) (h.ev _) hk
  · exact y_bin ‹_› (h.ev _) (h.ev _) hk
  · exact y_un ‹_› (h.ev _) hk
  · exact y_convert ‹_› (h.ev _) hk
  · exact y_extract ‹_› (h.ev _) hk
  · exact y_fieldAddr ‹_› (h.ev _) hk
  · exact y_field ‹_› (h.ev _) hk
  · exact y_indexAddr ‹_› (h.ev _) (h.ev _) h.mem hk
  · rename_i t x ix ho
    have hx := h.ev x
    unfold wIdxAny at hk
    split at hk
    · rename_i sb hs
      obtain ⟨hst, hk⟩ := hk
      obtain ⟨q, n, hn, hd, h0, hl, hk⟩ := wInt_rel (h.ev ix) hk
      rw [hs] at hx
      have hi := h.ev ix
      rw [hd] at hi
      exact y_indexStr ho hx hi hst h0 hl hk
    · exact y_index ho hx (h.ev ix) hk
  · exact y_makeFunc ‹_› h.ev hk
  · exact y_makeMth ‹_› h.ev hk
  · exact y_slice ‹_› h.ev hk
  · exact y_build h ‹_› hk
  · exact y_len ‹_› (h.ev _) h.mem hk
  · exact y_max ‹_› (h.ev _) (h.ev _) hk
  · exact y_min ‹_› (h.ev _) (h.ev _) hk
  · exact hk.elim

theorem opB_sound {o : Oper} {K : St → Prop} {Q : Exit → Act → World → Prop} (h : RG c s a w g) (hd : dstOk s o.dst) (hk : opB c.P o.op s.ev s.bx s.rw fun d => K (s.put o.dst d)) :
    o.wp c.P a w (fun a' w' => ∃ s', R c s' a' w' ∧ K s') Q := by
  unfold opB at hk
  split at hk
  · exact s_pure h hd (y_load ‹_› (h.ev _) h.mem hk)
  · exact s_buildSlice h ‹_› hd hk
  · rename_i fx xs at_ ho
    refine s_call ho h hd ?_
    revert hk
    unfold wFn
    split
    · intro hk
      obtain ⟨ds, hp, hk⟩ := wOpt_some hk
      exact ⟨ds, hp, hk⟩
    · intro hk
      obtain ⟨ds, hp, hk⟩ := wOpt_some hk
      exact ⟨ds, hp, hk⟩
    · exact fun h => h.elim
  · exact s_pure h hd (opA_sound h hk)

theorem step_sound {o : Oper} {K : St → Prop} {Q : Exit → Act → World → Prop} (h : RG c s a w g) (hk : stepOp c.P o s K) : o.wp c.P a w (fun a' w' => ∃ s', R c s' a' w' ∧ K s') Q := by
  unfold stepOp at hk
  split at hk
  · exact s_alloc h ‹_› hk.1 hk.2
  · exact s_box h ‹_› hk.1 hk.2
  · exact s_store h ‹_› hk.1 hk.2
  · obtain ⟨h1, h2, h3⟩ := hk
    subst h2
    exact s_append h ‹_› h1 h3
  · exact s_copy h ‹_› hk.1 hk.2
  · exact s_makeSlice h ‹_› hk.1 hk.2
  · exact s_lookup h ‹_› hk.1 hk.2
  · exact s_mapUpdate h ‹_› hk.1 hk.2
  · exact s_makeMap h ‹_› hk.1 hk.2
  · exact opB_sound h hk.1 hk.2

/-- What a guard reads: a boolean, or nothing, as its operation was left out itself. -/
def wG (d : D) (no : Prop) (k : Bool → Prop) : Prop := match d with | .bool b => k b | .skp => no | _ => False
def gslot (ops : List Oper) (j : Nat) : Option Tmp := (ops[j]?).bind (·.dst)

/-- A region's operations, in the order of the text. -/
def evOps (P : Program) (ops : List Oper) : List Oper → St → (St → Prop) → Prop
  | [], s, K => K s
  | o :: rest, s, K => match o.guard with
    | none => stepOp P o s fun s' => evOps P ops rest s' K
    | some (j, want) => wOpt (gslot ops j) fun t => wG (s.sl t) (dstOk s o.dst ∧ evOps P ops rest (s.put o.dst .skp) K) fun b =>
        (b = want → stepOp P o (s.put (some t) (.bool want)) fun s' => evOps P ops rest s' K) ∧
        (b = !want → dstOk s o.dst ∧ evOps P ops rest ((s.put (some t) (.bool (!want))).put o.dst .skp) K)

theorem reput {t : Nat} {d : D} (hs : s.sl t = d) : s.put (some t) d = s := by
  have : Ab.put s.sl t d = s.sl := funext fun m => by
    simp only [Ab.put]; split
    · rename_i hm; rw [hm, hs]
    · rfl
  simp [St.put, this]

theorem R.yielded {ops : Array Oper} {j t : Nat} {b : Bool} (h : RG c s a w g) (hg : gslot ops.toList j = some t) (hb : s.sl t = .bool b) : yielded ops a.tmps j = some b := by
  have hg' : (ops[j]?).bind (·.dst) = some t := by simpa [gslot] using hg
  have hr := h.sl t
  rw [hb] at hr
  have hv := hr.asBool
  unfold Go.yielded
  rw [hg']
  have : a.tmps[t]? = some (.bool b) := by
    rw [Array.getD_eq_getD_getElem?] at hv
    cases hx : a.tmps[t]? with
    | none => rw [hx] at hv; simp [Go.undef] at hv
    | some v => rw [hx] at hv; simp at hv; rw [hv]
  simp [this]

theorem R.noYield {ops : Array Oper} {j t : Nat} (h : RG c s a w g) (hg : gslot ops.toList j = some t) (hb : s.sl t = .skp) : Go.yielded ops a.tmps j = none := by
  have hg' : (ops[j]?).bind (·.dst) = some t := by simpa [gslot] using hg
  have hr := h.sl t
  rw [hb] at hr
  unfold Go.yielded
  rw [hg']
  generalize hv : a.tmps.getD t Go.undef = v at hr
  cases hr
  rw [Array.getD_eq_getD_getElem?] at hv
  cases hx : a.tmps[t]? with
  | none => simp [hx]
  | some v => rw [hx] at hv; simp at hv; rw [Option.bind_some, hx, hv]; rfl

theorem step_nodefer {o : Oper} {K : St → Prop} {P : Program} (h : stepOp P o s K) : ∀ cl, o.op ≠ .defer cl := by
  obtain ⟨dst, op, ty, pos, aft, gd⟩ := o
  rintro cl rfl
  exact h.2.elim

/-- One operation in a round's frame, or in none. -/
theorem op_in {o : Oper} {N : Act → World → Prop} {Q : Exit → Act → World → Prop} (hd : ∀ cl, o.op ≠ .defer cl) (h : o.wp c.P a w N Q) : o.wpIn c.F 0 c.P a w N Q := by
  refine ⟨fun _ _ => trivial, ?_⟩
  rw [Oper.semAt_eq _ _ _ hd]
  unfold Oper.wp at h
  generalize (execOp a.eval o).run c.P w = r at h ⊢
  have hn : c.F.depth.isSome = true → 1 ≤ 0 := fun h => by cases h
  cases r with
  | ok x w' =>
    cases x with
    | value v => exact h
    | skip => exact h
    | defer d => exact h
    | enter f args => exact ⟨hn, callsIn_wide.2 h⟩
    | row r args =>
      refine ⟨hn, fun c' cs _ => ?_⟩
      obtain ⟨v, w2, h1, h2⟩ := h c' cs
      exact ⟨v, w2, h1, stepsIn_wide.2 h2⟩
    | _ => exact h.elim
  | halt x w' => cases x <;> first | exact h | exact h.elim

theorem evOps_sound {ops : Array Oper} {K : St → Prop} {Q : Exit → Act → World → Prop} (hK : ∀ s a w, R c s a w → K s → Q .normal a w) : ∀ (l : List Oper) (s : St) (a : Act) (w : World), R c s a w → evOps c.P ops.toList l s K → wpListIn c.F 0 c.P ops Q l a w
  | [], s, a, w, hr, h => hK s a w hr h
  | o :: l, s, a, w, hr, h => by
    obtain ⟨g, hg⟩ := hr
    have next : ∀ {s1 : St}, stepOp c.P o s1 (fun s' => evOps c.P ops.toList l s' K) → s1 = s → o.wpIn c.F 0 c.P a w (wpListIn c.F 0 c.P ops Q l) Q := fun hst e => by
      subst e
      refine op_in (step_nodefer hst) ?_
      exact Oper.wp_mono (fun a' w' ⟨s', hr', hk'⟩ => evOps_sound hK l s' a' w' hr' hk') (step_sound hg hst)
    unfold evOps at h
    unfold wpListIn
    split at h
    · rename_i hgd
      rw [if_pos (by simp [Region.wanted, hgd])]
      exact next h rfl
    · rename_i j want hgd
      obtain ⟨t, ht, h⟩ := wOpt_some h
      cases hb : s.sl t <;> rw [hb] at h <;> simp only [wG] at h
      case skp =>
        have hy := R.noYield hg ht hb
        rw [if_neg (by simp [Region.wanted, hgd, hy])]
        exact ⟨fun _ _ => trivial, evOps_sound hK l _ _ _ ⟨g, hg.put h.1 (.skp _)⟩ h.2⟩
      rename_i b
      have hy := R.yielded hg ht hb
      by_cases hbw : b = want
      · subst hbw
        rw [if_pos (by simp [Region.wanted, hgd, hy])]
        exact next (h.1 rfl) (reput hb)
      · have hbw' : b = !want := by cases b <;> cases want <;> simp_all
        rw [if_neg (by simp [Region.wanted, hgd, hy, hbw])]
        obtain ⟨hd, h2⟩ := h.2 hbw'
        rw [← hbw', reput hb] at h2
        exact ⟨fun _ _ => trivial, evOps_sound hK l _ _ _ ⟨g, hg.put hd (.skp _)⟩ h2⟩

theorem abs_region {id : Nat} {l : List Oper} {Q : Exit → St → Prop} (h : ∀ K : St → Prop, (∀ s', Q .normal s' → K s') → evOps c.P l l s K) : Abs c (.region id l.toArray false) Q s := by
  intro a w hr
  refine wpIn_region_lit (evOps_sound (K := Q .normal) (fun s a w hr hq => ⟨s, hr, hq⟩) l s a w hr ?_)
  exact h _ (fun _ h => h)

end
end Go.Ab
