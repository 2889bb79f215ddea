import Derived.Test.YtmnepfejoneghaaGreatDoorK07
set_option linter.unusedVariables false
set_option linter.unusedSimpArgs false
namespace Go.Ab
open Go.RowKit
section
variable {P : Program}
/-- An append; the address of a field. -/
def isApp : Op → Bool
  | .call ⟨.builtin .append, ⟨[_, _]⟩, ⟨[_, _]⟩⟩ => true
  | _ => false
def fadr : Op → Option Tmp
  | .fieldAddr _ (.tmp p) _ => some p
  | _ => none
theorem isApp_ex {o : Op} (h : isApp o = true) : ∃ x y t t', o = .call ⟨.builtin .append, ⟨[x, y]⟩, ⟨[t, t']⟩⟩ := by
  unfold isApp at h
  split at h
  · exact ⟨_, _, _, _, rfl⟩
  · cases h
theorem fadr_ex {o : Op} {p : Tmp} (h : fadr o = some p) : ∃ t f, o = .fieldAddr t (.tmp p) f := by
  unfold fadr at h
  split at h
  · cases h; exact ⟨_, _, rfl⟩
  · cases h
theorem cp_wSl (rw : List Row) (d : D) : CP (wSl rw d) := by
  cases d <;> first | exact .no | exact .ret _ | skip
  rename_i r
  show CP (fun k => match rw[r]? with | some row => k row.xs | none => False)
  cases rw[r]? with
  | none => exact .no
  | some row => exact .ret _
theorem cp_app (s : St) (dst : Option Tmp) (t : TypeId) (dx dy : D) : CP (wApp P s dst t dx dy) := by
  refine (cp_opt (elemOf P t)).bind fun e => .and _ (.and _ ((cp_wSl s.rw dy).bind fun ys => .and _ ?_))
  cases dx <;> first | exact .no | skip
  · rename_i r
    exact (cp_opt s.rw[r]?).bind fun row => .and _ (.and _ (.and _ (.and _ (.andRet _ _))))
  · rename_i v
    cases v <;> first | exact .no | skip
    rename_i a l c
    cases a with
    | some _ => exact .no
    | none =>
      cases l with
      | succ _ => exact .no
      | zero =>
        cases c with
        | succ _ => exact .no
        | zero => exact .and _ (.andRet _ _)
/-- What an append leaves. -/
def AppTo (s s1 : St) (dst : Option Tmp) : Prop := (∃ r R, s1 = (s.appended r R).put dst (.own r)) ∨ ∃ R, s1 = St.put { s with rw := s.rw ++ [R] } dst (.own s.rw.length)
theorem app_map {s s' : St} {dst : Option Tmp} {t : TypeId} {dx dy : D} {K K' : St → Prop} (hrw : s'.rw = s.rw) (h1 : ∀ r R, K ((s.appended r R).put dst (.own r)) → K' ((s'.appended r R).put dst (.own r)))
    (h2 : ∀ R, K (St.put { s with rw := s.rw ++ [R] } dst (.own s.rw.length)) → K' (St.put { s' with rw := s'.rw ++ [R] } dst (.own s'.rw.length))) (h : wApp P s dst t dx dy K) : wApp P s' dst t dx dy K' := by
  obtain ⟨e, he, c1, c2, h⟩ := wOpt_some h
  unfold wApp
  rw [he]
  refine ⟨c1, c2, ?_⟩
  rw [hrw]
  refine (cp_wSl s.rw dy).mono (fun ys ⟨c3, h⟩ => ⟨c3, ?_⟩) h
  split at h
  · obtain ⟨row, hr, c4, c5, c6, c7, c8, h⟩ := wOpt_some h
    rw [hr]
    exact ⟨c4, c5, c6, c7, c8, h1 _ _ h⟩
  · have := h2 _ h.2.2
    rw [hrw] at this
    exact ⟨h.1, h.2.1, this⟩
  · exact h.elim
theorem app_to {s s1 : St} {dst : Option Tmp} {t : TypeId} {dx dy : D} (h : wApp P s dst t dx dy (fun x => x = s1)) : AppTo s s1 dst := by
  have := app_map (P := P) (s := s) (s' := s) (K' := fun _ => AppTo s s1 dst) rfl (fun r R h => .inl ⟨r, R, h.symm⟩) (fun R h => .inr ⟨R, h.symm⟩) h
  obtain ⟨_, _, h⟩ := (cp_app (P := P) s dst t dx dy).ex this
  exact h
theorem gst_app {ops : List Oper} {o : Oper} {s : St} {K : St → Prop} {x y : Operand} {t t' : TypeId} (ho : o.op = .call ⟨.builtin .append, ⟨[x, y]⟩, ⟨[t, t']⟩⟩) (hg : o.guard = none) :
    gst P ops o s K ↔ dstOk s o.dst ∧ t' = t ∧ wApp P s o.dst t (s.ev x) (s.ev y) K := by
  unfold gst
  rw [hg]
  obtain ⟨dst, op, ty, pos, aft, gd⟩ := o
  simp only at ho
  subst ho
  exact Iff.rfl
theorem gst_fadr {ops : List Oper} {o : Oper} {s : St} {K : St → Prop} {p : Tmp} {t : TypeId} {f : Nat} (ho : o.op = .fieldAddr t (.tmp p) f) (hg : o.guard = none) :
    gst P ops o s K ↔ dstOk s o.dst ∧ wOpt (fieldOff P t f) fun ot => wShift (s.sl p) ot.1 fun d => K (s.put o.dst d) := by
  unfold gst
  rw [hg]
  obtain ⟨dst, op, ty, pos, aft, gd⟩ := o
  simp only at ho
  subst ho
  exact Iff.rfl
theorem purge_box {r : Nat} {d : D} {i off : Nat} (h : purge r d = .box i off) : d = .box i off := by
  unfold purge at h
  split at h
  · cases h
  · exact h
theorem appended_put {s : St} {r : Nat} {R : Row} {a : Option Tmp} {i off : Nat} : (St.put s a (.box i off)).appended r R = St.put (s.appended r R) a (.box i off) := by
  cases a with
  | none => rfl
  | some n =>
    simp only [St.appended, St.put]
    congr 1
    funext m
    simp only [Ab.put]
    split <;> rfl
theorem rw_put {s : St} {R : Row} {a : Option Tmp} {d : D} : ({ St.put s a d with rw := (St.put s a d).rw ++ [R] } : St) = St.put { s with rw := s.rw ++ [R] } a d := by cases a <;> rfl
theorem put_rw' {s : St} {a : Option Tmp} {d : D} : (St.put s a d).rw = s.rw := by cases a <;> rfl
theorem put_ne_sl {s : St} {x : Option Tmp} {v : D} {m : Tmp} (h : x ≠ some m) : (St.put s x v).sl m = s.sl m := by
  cases x with
  | none => rfl
  | some t => simp only [St.put, Ab.put]; rw [if_neg (fun e => h (by rw [e]))]
theorem AppTo.box {s s1 : St} {dst : Option Tmp} (h : AppTo s s1 dst) {p : Tmp} (hp : dst ≠ some p) {i off : Nat} : s1.sl p = .box i off ↔ s.sl p = .box i off := by
  rcases h with ⟨r, R, rfl⟩ | ⟨R, rfl⟩
  · rw [put_ne_sl hp]
    exact ⟨purge_box, fun h => by show purge r (s.sl p) = _; rw [h]; rfl⟩
  · rw [put_ne_sl hp]
theorem AppTo.dst {s s1 : St} {dst : Option Tmp} (h : AppTo s s1 dst) {a : Option Tmp} : dstOk s1 a ↔ dstOk s a := by
  rcases h with ⟨r, R, rfl⟩ | ⟨R, rfl⟩ <;> cases dst <;> exact Iff.rfl
/-- An append and the address of a field of a box go with each other. -/
theorem swapXF {ops : Array Oper} {oi oj : Oper} {s : St} {K : St → Prop} {p : Tmp} (hap : oi.apart ops oj = true) (hi : isApp oi.op = true) (hj : fadr oj.op = some p) (hgi : oi.guard = none) (hgj : oj.guard = none) :
    gst P ops.toList oi s (fun s1 => gst P ops.toList oj s1 K ∧ ∃ i off, s1.sl p = .box i off) → gst P ops.toList oj s (fun s1 => gst P ops.toList oi s1 K) := by
  obtain ⟨h1, h2, h3⟩ := Oper.apart_spec hap
  obtain ⟨x, y, t, t', hox⟩ := isApp_ex hi
  obtain ⟨tf, f, hoj⟩ := fadr_ex hj
  have hp : oi.dst ≠ some p := fun e => h1 p e (by
    simp only [Oper.looksAt, List.mem_append, List.mem_filterMap]
    left; rw [hoj]; exact ⟨.tmp p, by simp [Op.operands], rfl⟩)
  intro h
  obtain ⟨hd, ht, h⟩ := (gst_app hox hgi).1 h
  obtain ⟨s1, ha, hA, i, off, hb⟩ := (cp_app _ _ _ _ _).ex h
  have hto := app_to ha
  have hb0 := (hto.box hp).1 hb
  obtain ⟨hdj, hA⟩ := (gst_fadr hoj hgj).1 hA
  obtain ⟨ot, hot, hA⟩ := wOpt_some hA
  rw [hb] at hA
  have hA : K (St.put s1 oj.dst (.box i (off + ot.1))) := hA
  refine (gst_fadr hoj hgj).2 ⟨hto.dst.1 hdj, ?_⟩
  rw [hot, hb0]
  show gst P ops.toList oi (St.put s oj.dst (.box i (off + ot.1))) K
  have ev : ∀ z ∈ oi.op.operands, (St.put s oj.dst (.box i (off + ot.1))).ev z = s.ev z := fun z hz => by
    rw [ev_eq, ev_eq]; exact evS_put h3 z hz
  refine (gst_app hox hgi).2 ⟨by cases oj.dst <;> exact hd, ht, ?_⟩
  rw [ev x (by rw [hox]; simp [Op.operands, Call.operands]), ev y (by rw [hox]; simp [Op.operands, Call.operands])]
  refine app_map (s := s) (K := fun z => z = s1) put_rw' (fun r R e => ?_) (fun R e => ?_) ha
  · rw [appended_put, ← put_put h2, e]; exact hA
  · rw [rw_put, put_rw', ← put_put h2, e]; exact hA
theorem swapFX {ops : Array Oper} {oi oj : Oper} {s : St} {K : St → Prop} {p : Tmp} (hap : oi.apart ops oj = true) (hi : fadr oi.op = some p) (hj : isApp oj.op = true) (hgi : oi.guard = none) (hgj : oj.guard = none) (hself : oi.dst ≠ some p) :
    gst P ops.toList oi s (fun s1 => gst P ops.toList oj s1 K ∧ ∃ i off, s1.sl p = .box i off) → gst P ops.toList oj s (fun s1 => gst P ops.toList oi s1 K) := by
  obtain ⟨h1, h2, h3⟩ := Oper.apart_spec hap
  obtain ⟨x, y, t, t', hox⟩ := isApp_ex hj
  obtain ⟨tf, f, hoj⟩ := fadr_ex hi
  have hp : oj.dst ≠ some p := fun e => h3 p e (by
    simp only [Oper.looksAt, List.mem_append, List.mem_filterMap]
    left; rw [hoj]; exact ⟨.tmp p, by simp [Op.operands], rfl⟩)
  intro h
  obtain ⟨hd, h⟩ := (gst_fadr hoj hgi).1 h
  obtain ⟨ot, hot, h⟩ := wOpt_some h
  have hb0 : ∃ i off, s.sl p = .box i off := by
    cases hs : s.sl p <;> rw [hs] at h <;> first | exact h.elim | skip
    · exact ⟨_, _, rfl⟩
    · obtain ⟨_, i, off, e⟩ := h
      rw [put_ne_sl hself, hs] at e
      cases e
  obtain ⟨i, off, hb0⟩ := hb0
  rw [hb0] at h
  have h : gst P ops.toList oj (St.put s oi.dst (.box i (off + ot.1))) K ∧ _ := h
  obtain ⟨hdj, ht, hx⟩ := (gst_app hox hgj).1 h.1
  have ev : ∀ z ∈ oj.op.operands, (St.put s oi.dst (.box i (off + ot.1))).ev z = s.ev z := fun z hz => by
    rw [ev_eq, ev_eq]; exact evS_put h1 z hz
  rw [ev x (by rw [hox]; simp [Op.operands, Call.operands]), ev y (by rw [hox]; simp [Op.operands, Call.operands])] at hx
  refine (gst_app hox hgj).2 ⟨by cases hh : oi.dst <;> rw [hh] at hdj <;> exact hdj, ht, ?_⟩
  have fin : ∀ s1, AppTo s s1 oj.dst → K (St.put s1 oi.dst (.box i (off + ot.1))) → gst P ops.toList oi s1 K := fun s1 hto hK => by
    refine (gst_fadr hoj hgi).2 ⟨hto.dst.2 hd, ?_⟩
    rw [hot, (hto.box hp).2 hb0]
    exact hK
  refine app_map (s := St.put s oi.dst (.box i (off + ot.1))) (s' := s) put_rw'.symm (fun r R e => ?_) (fun R e => ?_) hx
  · refine fin _ (.inl ⟨r, R, rfl⟩) ?_
    rw [appended_put, put_put h2] at e
    exact e
  · refine fin _ (.inr ⟨R, rfl⟩) ?_
    rw [rw_put, put_rw', put_put h2] at e
    exact e
/-- Operations that this rule takes: A, B, L, W and an append without a guard. -/
def okX (o : Oper) : Bool := match kindOf o.op with
  | .X => isApp o.op && o.guard.isNone
  | .L => o.guard.isNone
  | .W => o.guard.isNone
  | _ => true
theorem cp_gst {ops : List Oper} {o : Oper} {s : St} (h : okX o = true) : CP (gst P ops o s) := by
  have key : kindOf o.op ≠ .X → (kindOf o.op = .L ∨ kindOf o.op = .W → o.guard = none) → CP (gst P ops o s) := fun hx hg => by
    have : gst P ops o s = fun K => dstOk s o.dst ∧ ef P ops o s.sl s.bx s.rw fun r => K (St.put ⟨s.n, s.sl, r.1, s.rw⟩ o.dst r.2) := funext fun K => propext (gst_ef hx hg)
    rw [this]
    exact .and _ ((cp_ef _ _ _ _ _).bind (U := fun r k => k (St.put ⟨s.n, s.sl, r.1, s.rw⟩ o.dst r.2)) fun r => .ret _)
  unfold okX at h
  cases hk : kindOf o.op with
  | A => exact key (by rw [hk]; simp) (by rw [hk]; simp)
  | B => exact key (by rw [hk]; simp) (by rw [hk]; simp)
  | L => rw [hk] at h; exact key (by rw [hk]; simp) (fun _ => by simpa using h)
  | W => rw [hk] at h; exact key (by rw [hk]; simp) (fun _ => by simpa using h)
  | X =>
    rw [hk] at h
    simp only [Bool.and_eq_true, Option.isNone_iff_eq_none] at h
    obtain ⟨x, y, t, t', hox⟩ := isApp_ex h.1
    have : gst P ops o s = fun K => dstOk s o.dst ∧ t' = t ∧ wApp P s o.dst t (s.ev x) (s.ev y) K := funext fun K => propext (gst_app hox h.2)
    rw [this]
    exact .and _ (.and _ (cp_app _ _ _ _ _))
theorem okX_of {o : Oper} (h : okX o = true) (hx : kindOf o.op ≠ .X) : kindOf o.op = .L ∨ kindOf o.op = .W → o.guard = none := by
  unfold okX at h
  rintro (hk | hk) <;> rw [hk] at h <;> simpa using h
/-- A box stays one, for a slot that is not written. -/
def isBx (d : D) : Prop := ∃ i off, d = .box i off
theorem gst_slot {ops : List Oper} {o : Oper} {s : St} (h : okX o = true) {K : St → Prop} (hk : gst P ops o s K) : ∃ s1, K s1 ∧ (∀ m, o.dst ≠ some m → s1.sl m = s.sl m ∨ ∃ r, s1.sl m = purge r (s.sl m)) := by
  by_cases hx : kindOf o.op = .X
  · have h' := h
    unfold okX at h'
    rw [hx] at h'
    simp only [Bool.and_eq_true, Option.isNone_iff_eq_none] at h'
    obtain ⟨x, y, t, t', hox⟩ := isApp_ex h'.1
    obtain ⟨_, _, hh⟩ := (gst_app hox h'.2).1 hk
    obtain ⟨s1, ha, hK⟩ := (cp_app _ _ _ _ _).ex hh
    refine ⟨s1, hK, fun m hm => ?_⟩
    rcases app_to ha with ⟨r, R, rfl⟩ | ⟨R, rfl⟩
    · rw [put_ne_sl hm]; exact .inr ⟨r, rfl⟩
    · rw [put_ne_sl hm]; exact .inl rfl
  · obtain ⟨_, h2⟩ := (gst_ef hx (okX_of h hx)).1 hk
    obtain ⟨r, _, h3⟩ := (cp_ef _ _ _ _ _).ex h2
    exact ⟨_, h3, fun m hm => .inl (put_sl_ne hm)⟩
/-- Slots keep their boxes: what is a box stays the same box, whatever is appended. -/
def Kept (d d' : D) : Prop := d' = d ∨ ∃ r, d' = purge r d
theorem Kept.box {d d' : D} (h : ∀ i off, d' = .box i off ↔ d = .box i off) {e e' : D} (g : ∀ i off, e' = .box i off ↔ e = .box i off) (hd : disj d' e') : disj d e := by
  cases d <;> first | exact trivial | skip
  rename_i i off
  cases e <;> first | exact trivial | skip
  rename_i j off'
  rw [(h i off).2 rfl, (g j off').2 rfl] at hd
  exact hd
theorem purge_iff {r : Nat} {d : D} (i off : Nat) : purge r d = .box i off ↔ d = .box i off := ⟨purge_box, fun h => by rw [h]; rfl⟩
theorem anyA_pathX {ops : Array Oper} {K : St → Prop} (hk : ops.toList.all okX = true) : ∀ (fuel : Nat) (listed : Array Bool) (s : St), anyA P ops K fuel listed s →
    ∃ sf, K sf ∧ ∀ m, (∀ (j : Nat) (oj : Oper), ops[j]? = some oj → listed.getD j true = false → oj.dst ≠ some m) → ∀ i off, sf.sl m = .box i off ↔ s.sl m = .box i off
  | 0, listed, s, h => ⟨s, h.2, fun _ _ _ _ => Iff.rfl⟩
  | fuel + 1, listed, s, h => by
    by_cases hr : Region.ready .any ops listed = []
    · exact ⟨s, h.1 hr, fun _ _ _ _ => Iff.rfl⟩
    · obtain ⟨i, hi⟩ := List.exists_mem_of_ne_nil _ hr
      obtain ⟨hun, o, ho, _⟩ := mem_ready.1 hi
      have hm : okX o = true := List.all_eq_true.1 hk o (by simpa using Array.mem_of_getElem? ho)
      obtain ⟨s1, h3, hsl⟩ := gst_slot hm (h.2 i hi o ho)
      obtain ⟨sf, hK, hs⟩ := anyA_pathX hk fuel _ _ h3
      refine ⟨sf, hK, fun m hmw a b => ?_⟩
      rw [hs m (fun j oj hj hl => hmw j oj hj ?_)]
      · rcases hsl m (hmw i o ho hun) with e | ⟨r, e⟩
        · rw [e]
        · rw [e]; exact purge_iff a b
      · by_cases hij : i = j
        · subst hij; exact hun
        · rwa [getD_set_ne true hij] at hl
/-- What an operation reads an address of. -/
def adrX (o : Op) : Option Tmp := match adr o with | some m => some m | none => fadr o
def wrOkX (ops : Array Oper) : Bool := wrOk ops && (List.range ops.size).all fun i => match ops[i]? with
  | some o => match fadr o.op with
      | some m => o.dst != some m && (List.range ops.size).all fun k => match ops[k]? with | some ok => ok.dst != some m || o.after.any (fun e => Region.binds .any e && e.on == k) | none => true
      | none => true
  | none => true
theorem wrOkX_fadr {ops : Array Oper} (h : wrOkX ops = true) {i : Nat} {o : Oper} {m : Tmp} (ho : ops[i]? = some o) (hm : fadr o.op = some m) :
    o.dst ≠ some m ∧ ∀ (k : Nat) (ok : Oper), ops[k]? = some ok → ok.dst = some m → ∃ e ∈ o.after, Region.binds .any e = true ∧ e.on = k := by
  simp only [wrOkX, Bool.and_eq_true] at h
  have hi := (Array.getElem?_eq_some_iff.1 ho).1
  have h1 := List.all_eq_true.1 h.2 i (List.mem_range.2 hi)
  simp only [ho, hm, Bool.and_eq_true, bne_iff_ne, ne_eq, List.all_eq_true, List.mem_range] at h1
  refine ⟨h1.1, fun k ok hk hd => ?_⟩
  have h2 := h1.2 k (Array.getElem?_eq_some_iff.1 hk).1
  simp only [hk, hd, Bool.or_eq_true, bne_self_eq_false, Bool.false_eq_true, false_or, Array.any_eq_true', Bool.and_eq_true, beq_iff_eq] at h2
  exact h2
/-- What stands before an operation: what it waits for, and what that waits for. -/
def edgeTo (ops : Array Oper) (j k : Nat) : Bool := match ops[j]? with | some o => o.after.any fun e => Region.binds .any e && e.on == k | none => false
def anc (ops : Array Oper) : Nat → List Nat → List Nat
  | 0, S => S
  | k + 1, S => anc ops k (if S.any (fun j => edgeTo ops j k) then k :: S else S)
def closedA (ops : Array Oper) (listed : Array Bool) : Prop := ∀ (j : Nat) (oj : Oper), ops[j]? = some oj → listed.getD j true = true → ∀ e ∈ oj.after, Region.binds .any e = true → listed.getD e.on true = true
theorem anc_listed {ops : Array Oper} {listed : Array Bool} (hc : closedA ops listed) : ∀ (n : Nat) (S : List Nat) (x : Nat), (∀ k, edgeTo ops x k = true → listed.getD k true = true) → (∀ j ∈ S, j = x ∨ listed.getD j true = true) → ∀ k ∈ anc ops n S, k = x ∨ listed.getD k true = true
  | 0, S, x, hx, hS, k, hk => hS k hk
  | n + 1, S, x, hx, hS, k, hk => by
    refine anc_listed hc n _ x hx (fun j hj => ?_) k hk
    split at hj
    · rename_i hany
      rcases List.mem_cons.1 hj with rfl | hj
      · obtain ⟨i, hi, he⟩ := List.any_eq_true.1 hany
        rcases hS i hi with rfl | hl
        · exact .inr (hx _ he)
        · unfold edgeTo at he
          cases ho : ops[i]? with
          | none => rw [ho] at he; cases he
          | some o =>
            rw [ho] at he
            obtain ⟨e, hea, heb⟩ := Array.any_eq_true'.1 he
            simp only [Bool.and_eq_true, beq_iff_eq] at heb
            have := hc i o ho hl e hea heb.1
            rw [heb.2] at this
            exact .inr this
      · exact hS j hj
    · exact hS j hj
def dynX (ps : List (Tmp × Tmp)) (qs : List Tmp) (oi oj : Oper) : Bool := dynOk ps oi oj ||
  (isApp oi.op && oi.guard.isNone && oj.guard.isNone && (match fadr oj.op with | some p => qs.contains p | none => false)) ||
  (isApp oj.op && oi.guard.isNone && oj.guard.isNone && (match fadr oi.op with | some p => qs.contains p | none => false))
theorem dynOk_kinds {ps : List (Tmp × Tmp)} {oi oj : Oper} (h : dynOk ps oi oj = true) : kindOf oi.op ≠ .X ∧ kindOf oj.op ≠ .X := by
  simp only [dynOk, Bool.or_eq_true] at h
  rcases h with h | h
  · constructor <;> intro e <;> rw [e] at h <;> revert h
    · cases kindOf oj.op <;> simp [pairOk]
    · cases kindOf oi.op <;> simp [pairOk]
  · unfold dynB at h
    constructor <;> intro e <;> revert h <;> (split <;> intro h) <;> first | (rename_i e1 e2; rw [e1] at e; cases e; done) | (rename_i e1 e2; rw [e2] at e; cases e; done) | cases h
theorem anyA_firstX {ps : List (Tmp × Tmp)} {qs : List Tmp} {ops : Array Oper} {K : St → Prop} (hk : ops.toList.all okX = true) (hw : wrOkX ops = true) (hC : ∀ s, K s → (∀ x y, (x, y) ∈ ps → disj (s.sl x) (s.sl y)) ∧ ∀ p ∈ qs, isBx (s.sl p)) {i : Nat} {oi : Oper} (hi : ops[i]? = some oi) :
    ∀ (fuel : Nat) (listed : Array Bool) (s : St), closedA ops listed →
      (∀ (j : Nat) (oj : Oper), ops[j]? = some oj → j ≠ i → listed.getD j true = false → (∀ e ∈ oj.after, Region.binds .any e = true → e.on ≠ i) → oi.apart ops oj = true ∧ (dynX ps qs oi oj = true ∨ i ∈ anc ops j [j])) →
      i ∈ Region.ready .any ops listed → gst P ops.toList oi s (fun s' => anyA P ops K fuel (listed.setIfInBounds i true) s') → anyA P ops K (fuel + 1) listed s := by
  have hw1 : wrOk ops = true := by simp only [wrOkX, Bool.and_eq_true] at hw; exact hw.1
  have hok : ∀ {j : Nat} {o : Oper}, ops[j]? = some o → okX o = true := fun {j o} ho => List.all_eq_true.1 hk o (by simpa using Array.mem_of_getElem? ho)
  intro fuel
  induction fuel with
  | zero =>
    intro listed s _ _ hr H
    refine ⟨fun h => (by rw [h] at hr; cases hr), fun j hj oj hoj => ?_⟩
    by_cases hji : j = i
    · subst hji; rw [hi] at hoj; cases hoj; exact H
    · have hrj := ready_mono hj hji
      exfalso
      obtain ⟨s1, _, h3⟩ := (cp_gst (hok hi)).ex H
      rw [h3.1] at hrj
      cases hrj
  | succ fuel ih =>
    intro listed s hcl hfree hr H
    refine ⟨fun h => (by rw [h] at hr; cases hr), fun j hj oj hoj => ?_⟩
    by_cases hji : j = i
    · subst hji; rw [hi] at hoj; cases hoj; exact H
    · obtain ⟨hjun, oj', hoj', hall⟩ := mem_ready.1 hj
      rw [hoj] at hoj'; cases hoj'
      have hedge : ∀ {a b : Nat} {oa : Oper}, a ∈ Region.ready .any ops listed → ops[a]? = some oa → (∃ e ∈ oa.after, Region.binds .any e = true ∧ e.on = b) → listed.getD b true = true := fun {a b oa} ha hoa ⟨e, he, hb, hon⟩ => by
        obtain ⟨_, oa', hoa', hall'⟩ := mem_ready.1 ha
        rw [hoa] at hoa'; cases hoa'
        have h1 := hall' e he hb
        rw [hon] at h1
        rcases Nat.lt_or_ge b listed.size with h' | h'
        · simp [h'] at h1 ⊢; exact h1
        · simp [Array.getElem?_eq_none h'] at h1
      have hnot : ∀ e ∈ oj.after, Region.binds .any e = true → e.on ≠ i := fun e he hb heq => by
        have h1 := hedge hj hoj ⟨e, he, hb, heq⟩
        have h0 := (mem_ready.1 hr).1
        rw [h0] at h1; cases h1
      obtain ⟨hap, hpk⟩ := hfree j oj hoj hji hjun hnot
      have hpk : dynX ps qs oi oj = true := by
        rcases hpk with h | h
        · exact h
        · exfalso
          have := anc_listed hcl j [j] j (fun k he => by
            unfold edgeTo at he
            rw [hoj] at he
            obtain ⟨e, hea, heb⟩ := Array.any_eq_true'.1 he
            simp only [Bool.and_eq_true, beq_iff_eq] at heb
            exact hedge hj hoj ⟨e, hea, heb.1, heb.2⟩) (fun a ha => .inl (by simpa using ha)) i h
          rcases this with e | e
          · exact hji e.symm
          · have h0 := (mem_ready.1 hr).1
            rw [h0] at e; cases e
      have hset : ∀ {k : Nat}, (listed.setIfInBounds i true).getD k true = false → i ≠ k ∧ listed.getD k true = false := fun {k} hun => by
        have hik : i ≠ k := fun e => by
          subst e
          rcases Nat.lt_or_ge i listed.size with h' | h'
          · simp [h'] at hun
          · simp [h'] at hun
        rw [getD_set_ne true hik] at hun
        exact ⟨hik, hun⟩
      have hpath : ∀ s1, anyA P ops K (fuel + 1) (listed.setIfInBounds i true) s1 → ∃ sf, K sf ∧ ∀ m, ((adr oi.op = some m ∨ adr oj.op = some m ∨ adrL oi = some m) ∨ fadr oi.op = some m ∨ fadr oj.op = some m) → ∀ a b, sf.sl m = .box a b ↔ s1.sl m = .box a b := fun s1 hs1 => by
        obtain ⟨sf, hK, hs⟩ := anyA_pathX hk _ _ _ hs1
        refine ⟨sf, hK, fun m hm => hs m fun k ok hko hun hd => ?_⟩
        obtain ⟨hik, hun⟩ := hset hun
        rcases hm with (hm | hm | hm) | hm | hm
        · have := hedge hr hi ((wrOk_adr hw1 hi hm).2 k ok hko hd)
          rw [this] at hun; cases hun
        · have := hedge hj hoj ((wrOk_adr hw1 hoj hm).2 k ok hko hd)
          rw [this] at hun; cases hun
        · exact hik (wrOk_adrL hw1 hi hm k ok hko hd).symm
        · have := hedge hr hi ((wrOkX_fadr hw hi hm).2 k ok hko hd)
          rw [this] at hun; cases hun
        · have := hedge hj hoj ((wrOkX_fadr hw hoj hm).2 k ok hko hd)
          rw [this] at hun; cases hun
      have h2 : gst P ops.toList oj s fun s1 => gst P ops.toList oi s1 fun s2 => anyA P ops K fuel ((listed.setIfInBounds i true).setIfInBounds j true) s2 := by
        simp only [dynX, Bool.or_eq_true] at hpk
        rcases hpk with (hpk | hpk) | hpk
        · obtain ⟨xi, xj⟩ := dynOk_kinds hpk
          simp only [dynOk, Bool.or_eq_true] at hpk
          rcases hpk with hpk | hpk
          · exact swap hap hpk (okX_of (hok hi) xi) (okX_of (hok hoj) xj) ((cp_gst (hok hi)).mono (fun s1 hs1 => hs1.2 j (ready_mono hj hji) oj hoj) H)
          · refine swapE (D0 := DC ps oi oj) hap xi xj (okX_of (hok hi) xi) (okX_of (hok hoj) xj) (dyn_comm hpk hap (fun m hm => (wrOk_adr hw1 hi hm).1)) ?_
            refine (cp_gst (hok hi)).mono (fun s1 hs1 => ⟨hs1.2 j (ready_mono hj hji) oj hoj, fun x y hxy hx hy => ?_⟩) H
            obtain ⟨sf, hK, key⟩ := hpath s1 hs1
            exact Kept.box (key x (.inl (hx.elim .inl fun h => .inr (.inl h)))) (key y (.inl hy)) ((hC sf hK).1 x y hxy)
        · simp only [Bool.and_eq_true, Option.isNone_iff_eq_none] at hpk
          obtain ⟨⟨⟨ha, g1⟩, g2⟩, hp⟩ := hpk
          cases hf : fadr oj.op with
          | none => rw [hf] at hp; cases hp
          | some p =>
            rw [hf] at hp
            refine swapXF hap ha hf g1 g2 ((cp_gst (hok hi)).mono (fun s1 hs1 => ⟨hs1.2 j (ready_mono hj hji) oj hoj, ?_⟩) H)
            obtain ⟨sf, hK, key⟩ := hpath s1 hs1
            obtain ⟨a, b, e⟩ := (hC sf hK).2 p (by simpa using hp)
            exact ⟨a, b, (key p (.inr (.inr hf)) a b).1 e⟩
        · simp only [Bool.and_eq_true, Option.isNone_iff_eq_none] at hpk
          obtain ⟨⟨⟨ha, g1⟩, g2⟩, hp⟩ := hpk
          cases hf : fadr oi.op with
          | none => rw [hf] at hp; cases hp
          | some p =>
            rw [hf] at hp
            refine swapFX hap hf ha g1 g2 (wrOkX_fadr hw hi hf).1 ((cp_gst (hok hi)).mono (fun s1 hs1 => ⟨hs1.2 j (ready_mono hj hji) oj hoj, ?_⟩) H)
            obtain ⟨sf, hK, key⟩ := hpath s1 hs1
            obtain ⟨a, b, e⟩ := (hC sf hK).2 p (by simpa using hp)
            exact ⟨a, b, (key p (.inr (.inl hf)) a b).1 e⟩
      have hfree' : ∀ (k : Nat) (ok : Oper), ops[k]? = some ok → k ≠ i → (listed.setIfInBounds j true).getD k true = false →
          (∀ e ∈ ok.after, Region.binds .any e = true → e.on ≠ i) → oi.apart ops ok = true ∧ (dynX ps qs oi ok = true ∨ i ∈ anc ops k [k]) := fun k ok hk hki hun hno => by
        refine hfree k ok hk hki ?_ hno
        by_cases hjk : j = k
        · subst hjk; exact hjun
        · rw [getD_set_ne true hjk] at hun; exact hun
      have hcl' : closedA ops (listed.setIfInBounds j true) := fun a oa hoa hla e he hb => by
        have up : ∀ b, listed.getD b true = true → (listed.setIfInBounds j true).getD b true = true := fun b hb => by
          by_cases hjb : j = b
          · subst hjb
            rcases Nat.lt_or_ge j listed.size with h' | h'
            · simp [h']
            · simp [h']
          · rw [getD_set_ne true hjb]; exact hb
        by_cases hja : j = a
        · subst hja
          rw [hoj] at hoa; cases hoa
          exact up _ (hedge hj hoj ⟨e, he, hb, rfl⟩)
        · rw [getD_set_ne true hja] at hla
          exact up _ (hcl a oa hoa hla e he hb)
      refine (cp_gst (hok hoj)).mono (fun s1 h3 => ih (listed.setIfInBounds j true) s1 hcl' hfree' (ready_mono hr (Ne.symm hji)) ?_) h2
      rw [Array.setIfInBounds_comm _ _ hji]
      exact h3
def pairsFromX (ps : List (Tmp × Tmp)) (qs : List Tmp) (ops : Array Oper) (o : Oper) (i : Nat) : Nat → List Oper → Bool
  | _, [] => true
  | j, p :: rest => (p.after.any (fun e => Region.binds .any e && e.on == i) || dynX ps qs o p || (anc ops j [j]).contains i) && pairsFromX ps qs ops o i (j + 1) rest
def pairsOkX (ps : List (Tmp × Tmp)) (qs : List Tmp) (ops : Array Oper) : Nat → List Oper → Bool
  | _, [] => true
  | i, o :: rest => pairsFromX ps qs ops o i (i + 1) rest && pairsOkX ps qs ops (i + 1) rest
theorem pairsFromX_at {ps : List (Tmp × Tmp)} {qs : List Tmp} {ops : Array Oper} {o : Oper} {i : Nat} : ∀ (l : List Oper) (j : Nat), pairsFromX ps qs ops o i j l = true → ∀ (b : Nat) (ob : Oper), l[b]? = some ob →
    (∀ e ∈ ob.after, Region.binds .any e = true → e.on ≠ i) → dynX ps qs o ob = true ∨ i ∈ anc ops (j + b) [j + b]
  | [], j, _, b, ob, hb, _ => by simp at hb
  | p :: l, j, h, b, ob, hb, hno => by
    simp only [pairsFromX, Bool.and_eq_true] at h
    cases b with
    | zero =>
      simp at hb; subst hb
      have h1 := h.1
      simp only [Bool.or_eq_true, Array.any_eq_true', Bool.and_eq_true, beq_iff_eq] at h1
      rcases h1 with (⟨e, he, h1, h2⟩ | h1) | h1
      · exact absurd h2 (hno e he h1)
      · exact .inl h1
      · exact .inr (by simpa using h1)
    | succ b =>
      have := pairsFromX_at l (j + 1) h.2 b ob (by simpa using hb) hno
      rw [show j + (b + 1) = j + 1 + b by omega]
      exact this
theorem pairsOkX_at {ps : List (Tmp × Tmp)} {qs : List Tmp} {ops : Array Oper} : ∀ (l : List Oper) (i : Nat), pairsOkX ps qs ops i l = true → ∀ (a b : Nat) (oa ob : Oper), a < b → l[a]? = some oa → l[b]? = some ob →
    (∀ e ∈ ob.after, Region.binds .any e = true → e.on ≠ i + a) → dynX ps qs oa ob = true ∨ (i + a) ∈ anc ops (i + b) [i + b]
  | [], i, _, a, b, oa, ob, _, ha, _, _ => by simp at ha
  | o :: l, i, h, a, b, oa, ob, hab, ha, hb, hno => by
    simp only [pairsOkX, Bool.and_eq_true] at h
    obtain ⟨b, rfl⟩ : ∃ b', b = b' + 1 := ⟨b - 1, by omega⟩
    cases a with
    | zero =>
      simp at ha; subst ha
      have := pairsFromX_at l (i + 1) h.1 b ob (by simpa using hb) (by simpa using hno)
      rw [show i + (b + 1) = i + 1 + b by omega]
      exact this
    | succ a =>
      have := pairsOkX_at l (i + 1) h.2 a b oa ob (by omega) (by simpa using ha) (by simpa using hb) (fun e he hb' => by have := hno e he hb'; omega)
      rw [show i + (a + 1) = i + 1 + a by omega, show i + (b + 1) = i + 1 + b by omega]
      exact this
theorem anyA_lexX {ps : List (Tmp × Tmp)} {qs : List Tmp} {ops : Array Oper} {K : St → Prop} (hk : ops.toList.all okX = true) (hw : wrOkX ops = true) (hC : ∀ s, K s → (∀ x y, (x, y) ∈ ps → disj (s.sl x) (s.sl y)) ∧ ∀ p ∈ qs, isBx (s.sl p)) (hp : pairsOkX ps qs ops 0 ops.toList = true) :
    ∀ (l : List Oper) (k : Nat) (listed : Array Bool) (s : St), closedA ops listed → (∀ j, l[j]? = ops[k + j]?) →
    (∀ j, j < k → listed.getD j true = true) → Region.lexFrom .any ops l.length k listed = true → evOps P ops.toList l s K → anyA P ops K l.length listed s
  | [], _, _, _, _, _, _, hB, h => ⟨by simpa [Region.lexFrom] using hB, h⟩
  | o :: l, k, listed, s, hcl, hl, hlt, hB, h => by
    have h0 : ops[k]? = some o := by simpa using (hl 0).symm
    simp only [List.length_cons, Region.lexFrom, Bool.and_eq_true] at hB
    obtain ⟨⟨hr, hf⟩, hB'⟩ := hB
    have hr : k ∈ Region.ready .any ops listed := by simpa using hr
    have hm : okX o = true := List.all_eq_true.1 hk o (by simpa using Array.mem_of_getElem? h0)
    have up : ∀ b, listed.getD b true = true → (listed.setIfInBounds k true).getD b true = true := fun b hb => by
      by_cases hjb : k = b
      · subst hjb
        rcases Nat.lt_or_ge k listed.size with h' | h'
        · simp [h']
        · simp [h']
      · rw [getD_set_ne true hjb]; exact hb
    have hcl' : closedA ops (listed.setIfInBounds k true) := fun a oa hoa hla e he hb => by
      by_cases hja : k = a
      · subst hja
        obtain ⟨_, oa', hoa', hall'⟩ := mem_ready.1 hr
        rw [hoa] at hoa'; cases hoa'
        have h1 := hall' e he hb
        refine up _ ?_
        rcases Nat.lt_or_ge e.on listed.size with h' | h'
        · simp [h'] at h1 ⊢; exact h1
        · simp [Array.getElem?_eq_none h'] at h1
      · rw [getD_set_ne true hja] at hla
        exact up _ (hcl a oa hoa hla e he hb)
    refine anyA_firstX hk hw hC h0 l.length listed s hcl (fun j oj hj hjk hun hno => ⟨Region.free_spec h0 hf j oj hj hjk hun hno, ?_⟩) hr
      ((cp_gst hm).mono (fun s' hs' => anyA_lexX hk hw hC hp l (k + 1) _ s' hcl' (fun j => by have := hl (j + 1); simpa [Nat.add_assoc, Nat.add_comm 1 j] using this) (fun j hj => ?_) hB' hs') (evOps_gst h))
    · have hkj : k < j := by
        rcases Nat.lt_trichotomy j k with h1 | h1 | h1
        · rw [hlt j h1] at hun; cases hun
        · exact absurd h1 hjk
        · exact h1
      have := pairsOkX_at ops.toList 0 hp k j o oj hkj (by simpa using h0) (by simpa using hj) (by simpa using hno)
      simpa using this
    · by_cases h1 : k = j
      · subst h1
        rcases Nat.lt_or_ge k listed.size with h' | h'
        · simp [h']
        · simp [h']
      · rw [getD_set_ne true h1]; exact hlt j (by omega)
def Bxs (s : St) : List Tmp → Prop
  | [] => True
  | p :: l => isBx (s.sl p) ∧ Bxs s l
theorem Bxs.at {s : St} : ∀ {l : List Tmp}, Bxs s l → ∀ p ∈ l, isBx (s.sl p)
  | p' :: l, h, p, hm => by
    rcases List.mem_cons.1 hm with rfl | hm
    · exact h.1
    · exact h.2.at p hm
/-- A region that draws its order, writes and appends. -/
theorem abs_drawX {c : Ctx} {id : Nat} {l : List Oper} {Q : Exit → St → Prop} {s : St} (ps : List (Tmp × Tmp)) (qs : List Tmp) (hm : c.P.follows .mixedOrders = true) (hB : (Region.lexB .any l.toArray && l.all okX && pairsOkX ps qs l.toArray 0 l && wrOkX l.toArray) = true)
    (h : ∀ K : St → Prop, (∀ s', Q .normal s' ∧ Sep s' ps ∧ Bxs s' qs → K s') → evOps c.P l l s K) : Abs c (.region id l.toArray true) Q s := by
  intro a w hr
  simp only [Bool.and_eq_true, Region.lexB] at hB
  obtain ⟨⟨⟨⟨_, hl⟩, hk⟩, hp⟩, hw⟩ := hB
  refine wpIn_region_any hm (anyA_sound (K := fun s => Q .normal s ∧ Sep s ps ∧ Bxs s qs) (fun s a w hr hq => ⟨s, hr, hq.1⟩) _ _ s _ _ (RG.drewTick hr) ?_)
  have := anyA_lexX (P := c.P) (ops := l.toArray) (ps := ps) (qs := qs) (K := fun s => Q .normal s ∧ Sep s ps ∧ Bxs s qs) (by simpa using hk) hw (fun s hs => ⟨hs.2.1.at, hs.2.2.at⟩) (by simpa using hp) l 0 (Array.replicate l.length false) s
    (fun j oj hj hl => by
      have : j < l.length := by have := (Array.getElem?_eq_some_iff.1 hj).1; simpa using this
      simp [this] at hl) (by simp) (by simp) (by simpa using hl) (h _ (fun _ h => h))
  simpa using this
@[go_sem] theorem e_bxs_nil {s : St} : Bxs s [] = True := rfl
@[go_sem] theorem e_bxs {n : Nat} {sl : Nat → D} {bx : List Bx} {rw : List Row} {x : Tmp} {l : List Tmp} : Bxs ⟨n, sl, bx, rw⟩ (x :: l) = (isBx (sl x) ∧ Bxs ⟨n, sl, bx, rw⟩ l) := rfl
@[go_sem] theorem e_isBx {i o : Nat} : isBx (.box i o) = True := by simp [isBx]
end
end Go.Ab
