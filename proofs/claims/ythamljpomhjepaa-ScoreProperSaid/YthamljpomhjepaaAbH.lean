import Derived.Test.YthamljpomhjepaaAbG
set_option linter.unusedVariables false
set_option linter.unusedSimpArgs false
namespace Go.Ab
open Go.RowKit

section
variable {P : Program}

/-- What an allocation or a store does: the boxes, and the value. -/
def effOp (P : Program) (o : Op) (ρ : Operand → D) (bx : List Bx) (k : List Bx × D → Prop) : Prop := match o with
  | .alloc t => wOpt (zeroD P t) fun zs => k (bx ++ [.mu zs], .box bx.length 0)
  | .box _ x => (ρ x).cells.all D.one = true ∧ k (bx ++ [.mu (ρ x).cells], .box bx.length 0)
  | .store t x y => match ρ x with
    | .box i off => match bx[i]? with
      | some (.mu cs) => szOf P t ≠ 0 ∧ (ρ y).cells.length = szOf P t ∧ (ρ y).cells.all D.one = true ∧ off + (ρ y).cells.length ≤ cs.length ∧
          k (bx.set i (.mu (cs.take off ++ (ρ y).cells ++ cs.drop (off + (ρ y).cells.length))), .undef)
      | _ => False
    | _ => False
  | .call ⟨.builtin .copy, ⟨[x, y]⟩, ⟨[t, _]⟩⟩ => wCopyE P bx t (ρ x) (ρ y) k
  | _ => False

theorem cp_src (bx : List Bx) (d : D) : CP (wSrc bx d) := by
  cases d <;> first | exact .no | exact .ret _ | exact (cp_bx _ _).bind fun _ => .andRet _ _
theorem cp_copy (bx : List Bx) (t : TypeId) (dx dy : D) : CP (wCopyE P bx t dx dy) := by
  cases dx <;> first | exact .no | skip
  rename_i i off n c
  refine (cp_opt _).bind fun _ => .and _ ((cp_src _ _).bind fun ys => .and _ ?_)
  cases bx[i]? with
  | none => exact .no
  | some b => cases b <;> first | exact .no | exact .andRet _ _
theorem cp_eff (o : Op) (ρ : Operand → D) (bx : List Bx) : CP (effOp P o ρ bx) := by
  unfold effOp
  split
  · exact (cp_opt _).bind fun _ => .ret _
  · exact .andRet _ _
  · split
    · rename_i i off _
      cases bx[i]? with
      | none => exact .no
      | some b => cases b <;> first | exact .no | exact .and _ (.and _ (.and _ (.andRet _ _)))
    · exact .no
  · exact cp_copy _ _ _ _
  · exact .no

def effDst (o : Oper) : Prop := match o.op with | .store .. => o.dst = none | _ => True

theorem step_E {o : Oper} {s : St} {K : St → Prop} (h : kindOf o.op = .L ∨ kindOf o.op = .W) : stepOp P o s K ↔ dstOk s o.dst ∧ effDst o ∧ effOp P o.op (evS s.sl) s.bx fun r => K (St.put ⟨s.n, s.sl, r.1, s.rw⟩ o.dst r.2) := by
  rw [← ev_eq]
  obtain ⟨dst, op, ty, pos, aft, gd⟩ := o
  cases op <;> first | (simp only [kindOf, reduceCtorEq, or_self] at h; done) | skip
  · exact ⟨fun ⟨h1, h2⟩ => ⟨h1, trivial, h2⟩, fun ⟨h1, _, h2⟩ => ⟨h1, h2⟩⟩
  · exact ⟨fun ⟨h1, h2⟩ => ⟨h1, trivial, h2⟩, fun ⟨h1, _, h2⟩ => ⟨h1, h2⟩⟩
  · refine ⟨fun ⟨h1, h2⟩ => ?_, fun ⟨_, h1, h2⟩ => ?_⟩
    · have h1' : dst = none := h1
      subst h1'
      exact ⟨trivial, rfl, h2⟩
    · have h1' : dst = none := h1
      subst h1'
      exact ⟨rfl, h2⟩
  · rename_i cl
    obtain ⟨callee, args, at_⟩ := cl
    cases callee with
    | value f => simp only [kindOf, reduceCtorEq, or_self] at h
    | invoke r m => simp only [kindOf, reduceCtorEq, or_self] at h
    | builtin b =>
      cases b <;> first | (simp only [kindOf, reduceCtorEq, or_self] at h; done) | skip
      obtain ⟨args⟩ := args
      obtain ⟨at_⟩ := at_
      match args, at_ with
      | [x, y], [t, t'] => exact ⟨fun ⟨h1, h2⟩ => ⟨h1, trivial, h2⟩, fun ⟨h1, _, h2⟩ => ⟨h1, h2⟩⟩
      | [], _ => exact ⟨fun h => h.2.elim, fun h => h.2.2.elim⟩
      | [_], _ => exact ⟨fun h => h.2.elim, fun h => h.2.2.elim⟩
      | _ :: _ :: _ :: _, _ => exact ⟨fun h => h.2.elim, fun h => h.2.2.elim⟩
      | [_, _], [] => exact ⟨fun h => h.2.elim, fun h => h.2.2.elim⟩
      | [_, _], [_] => exact ⟨fun h => h.2.elim, fun h => h.2.2.elim⟩
      | [_, _], _ :: _ :: _ :: _ => exact ⟨fun h => h.2.elim, fun h => h.2.2.elim⟩

theorem eff_congr {o : Op} {ρ ρ' : Operand → D} {bx : List Bx} {k : List Bx × D → Prop} (h : ∀ x ∈ o.operands, ρ x = ρ' x) : effOp P o ρ bx k → effOp P o ρ' bx k := by
  cases o
  case call cl =>
    obtain ⟨callee, ⟨args⟩, ⟨at_⟩⟩ := cl
    cases callee with
    | value f => exact id
    | invoke r m => exact id
    | builtin b =>
      cases b <;> first | exact id | skip
      match args, at_, h with
      | [x, y], [t, t'], h =>
        have h1 := h x (by simp [Op.operands, Call.operands]); have h2 := h y (by simp [Op.operands, Call.operands])
        simp only [effOp, h1, h2]; exact id
      | [], _, _ => exact id
      | [_], _, _ => exact id
      | _ :: _ :: _ :: _, _, _ => exact id
      | [_, _], [], _ => exact id
      | [_, _], [_], _ => exact id
      | [_, _], _ :: _ :: _ :: _, _ => exact id
  all_goals first
    | exact id
    | (have h1 := h _ (by simp only [Op.operands]; exact Array.mem_singleton.2 rfl); simp only [effOp, h1]; exact id)
    | (rename_i a b c
       have h2 := h b (by simp [Op.operands]); have h3 := h c (by simp [Op.operands])
       simp only [effOp, h2, h3]; exact id)

/-- The value of a guarded operation of the kinds A and B. -/
def gval (P : Program) (ops : List Oper) (o : Oper) (sl : Nat → D) (bx : List Bx) (rw : List Row) (k : D → Prop) : Prop := match o.guard with
  | none => opB P o.op (evS sl) bx rw k
  | some (j, want) => wOpt (gslot ops j) fun t => wG (sl t) (k .skp) fun b => match b == want with
    | true => opB P o.op (evS sl) bx rw k
    | false => k .skp

theorem cp_gval (ops : List Oper) (o : Oper) (sl : Nat → D) (bx : List Bx) (rw : List Row) : CP (gval P ops o sl bx rw) := by
  unfold gval
  split
  · exact cp_opB _ _ _ _
  · rename_i j want _
    refine (cp_opt (gslot ops j)).bind fun t => ?_
    cases sl t <;> first | exact .no | exact .ret _ | skip
    rename_i b
    show CP fun k => match b == want with | true => opB P o.op (evS sl) bx rw k | false => k .skp
    cases b == want
    · exact .ret _
    · exact cp_opB _ _ _ _

/-- One operation with its guard. -/
def gst (P : Program) (ops : List Oper) (o : Oper) (s : St) (K : St → Prop) : Prop := match o.guard with
  | none => stepOp P o s K
  | some (j, want) => wOpt (gslot ops j) fun t => wG (s.sl t) (dstOk s o.dst ∧ K (s.put o.dst .skp)) fun b => match b == want with
    | true => stepOp P o s K
    | false => dstOk s o.dst ∧ K (s.put o.dst .skp)

theorem gst_V {ops : List Oper} {o : Oper} {s : St} {K : St → Prop} (h : kindOf o.op = .A ∨ kindOf o.op = .B) : gst P ops o s K ↔ dstOk s o.dst ∧ gval P ops o s.sl s.bx s.rw fun d => K (s.put o.dst d) := by
  unfold gst gval
  cases o.guard with
  | none => exact step_V h
  | some jw =>
    obtain ⟨j, want⟩ := jw
    simp only
    cases gslot ops j with
    | none => exact ⟨fun h => h.elim, fun h => h.2.elim⟩
    | some t =>
      simp only [wOpt]
      cases s.sl t <;> simp only [wG] <;> try exact ⟨fun h => h.elim, fun h => h.2.elim⟩
      rename_i b
      cases b == want
      · exact Iff.rfl
      · exact step_V h

theorem gst_E {ops : List Oper} {o : Oper} {s : St} {K : St → Prop} (h : kindOf o.op = .L ∨ kindOf o.op = .W) (hg : o.guard = none) :
    gst P ops o s K ↔ dstOk s o.dst ∧ effDst o ∧ effOp P o.op (evS s.sl) s.bx fun r => K (St.put ⟨s.n, s.sl, r.1, s.rw⟩ o.dst r.2) := by
  unfold gst
  rw [hg]
  exact step_E h

theorem evS_put {o : Oper} {ops : Array Oper} {s : St} {dst : Option Tmp} {d : D} (h : ∀ t, dst = some t → t ∉ o.looksAt ops) : ∀ x ∈ o.op.operands, evS (St.put s dst d).sl x = evS s.sl x := by
  intro x hx
  cases dst with
  | none => rfl
  | some t =>
    cases x with
    | tmp u =>
      simp only [evS, St.put, Ab.put]
      rw [if_neg]
      intro e
      subst e
      exact h u rfl (by
        simp only [Oper.looksAt, List.mem_append, List.mem_filterMap]
        exact .inl ⟨.tmp u, by simpa using hx, rfl⟩)
    | _ => rfl

theorem gval_put {ops : Array Oper} {o : Oper} {s : St} {dst : Option Tmp} {d : D} {bx : List Bx} {rw : List Row} {k : D → Prop} (h : ∀ t, dst = some t → t ∉ o.looksAt ops) :
    gval P ops.toList o (St.put s dst d).sl bx rw k ↔ gval P ops.toList o s.sl bx rw k := by
  have h1 := evS_put (s := s) (d := d) h
  have hb : ∀ {k : D → Prop}, opB P o.op (evS (St.put s dst d).sl) bx rw k ↔ opB P o.op (evS s.sl) bx rw k := fun {k} =>
    ⟨opB_congr h1, opB_congr fun x hx => (h1 x hx).symm⟩
  unfold gval
  cases hg : o.guard with
  | none => exact hb
  | some jw =>
    obtain ⟨j, want⟩ := jw
    simp only
    cases hgs : gslot ops.toList j with
    | none => exact Iff.rfl
    | some t =>
      have ht : (St.put s dst d).sl t = s.sl t := by
        cases dst with
        | none => rfl
        | some u =>
          simp only [St.put, Ab.put]
          rw [if_neg]
          intro e
          subst e
          refine h t rfl ?_
          simp only [Oper.looksAt, List.mem_append]
          right
          rw [hg]
          have : (ops[j]?).bind (·.dst) = some t := by simpa [gslot] using hgs
          show t ∈ ((ops[j]?).bind (·.dst)).toList
          rw [this]; simp
      simp only [wOpt, ht]
      cases s.sl t <;> simp only [wG]
      rename_i b
      cases b == want
      · exact Iff.rfl
      · exact hb

theorem put_put {s : St} {x y : Option Tmp} {d e : D} (h : ∀ t, x = some t → y ≠ some t) : (s.put x d).put y e = (s.put y e).put x d := by
  cases x with
  | none => rfl
  | some t =>
    cases y with
    | none => rfl
    | some u =>
      have hne : t ≠ u := fun he => h t rfl (by rw [he])
      simp only [St.put]
      congr 1
      funext m
      simp only [Ab.put]
      by_cases h1 : m = u <;> by_cases h2 : m = t
      · exact absurd (h2.symm.trans h1) hne
      · simp [h1, Ne.symm hne]
      · simp [h2, hne]
      · simp [h1, h2]

def pairOk : Kd → Kd → Bool
  | .A, .A | .A, .B | .B, .A | .B, .B | .A, .L | .B, .L | .L, .A | .A, .W | .W, .A => true
  | _, _ => false

theorem swap {ops : Array Oper} {oi oj : Oper} {s : St} {K : St → Prop} (hap : oi.apart ops oj = true) (hp : pairOk (kindOf oi.op) (kindOf oj.op) = true)
    (hgi : kindOf oi.op = .L ∨ kindOf oi.op = .W → oi.guard = none) (hgj : kindOf oj.op = .L ∨ kindOf oj.op = .W → oj.guard = none) :
    gst P ops.toList oi s (fun s1 => gst P ops.toList oj s1 K) → gst P ops.toList oj s (fun s1 => gst P ops.toList oi s1 K) := by
  obtain ⟨h1, h2, h3⟩ := Oper.apart_spec hap
  have dok : ∀ {s : St} {x y : Option Tmp} {d : D}, dstOk (St.put s x d) y ↔ dstOk s y := fun {s x y d} => by
    cases x <;> exact Iff.rfl
  have fin : ∀ {d e : D} {s : St}, (s.put oi.dst d).put oj.dst e = (s.put oj.dst e).put oi.dst d := put_put h2
  have key : ∀ (vi : kindOf oi.op = .A ∨ kindOf oi.op = .B) (vj : kindOf oj.op = .A ∨ kindOf oj.op = .B),
      gst P ops.toList oi s (fun s1 => gst P ops.toList oj s1 K) → gst P ops.toList oj s (fun s1 => gst P ops.toList oi s1 K) := fun vi vj h => by
    obtain ⟨hd, h⟩ := (gst_V vi).1 h
    obtain ⟨d, hv, h⟩ := (cp_gval _ _ _ _ _).ex h
    obtain ⟨hd', h⟩ := (gst_V vj).1 h
    obtain ⟨e, he, hK⟩ := (cp_gval _ _ _ _ _).ex h
    have hs : ∀ {x : Option Tmp} {d : D}, (St.put s x d).bx = s.bx ∧ (St.put s x d).rw = s.rw := fun {x d} => by cases x <;> exact ⟨rfl, rfl⟩
    rw [hs.1, hs.2] at he
    have he := (gval_put h1).1 he
    refine (gst_V vj).2 ⟨dok.1 hd', (cp_gval _ _ _ _ _).mono (fun x hx => ?_) he⟩
    subst hx
    refine (gst_V vi).2 ⟨dok.2 hd, ?_⟩
    rw [hs.1, hs.2]
    refine (gval_put h3).2 ((cp_gval _ _ _ _ _).mono (fun x hx => ?_) hv)
    subst hx
    rw [← fin]; exact hK
  -- a value, then an effect
  have keyVE : ∀ (vi : kindOf oi.op = .A ∨ kindOf oi.op = .B) (ej : kindOf oj.op = .L ∨ kindOf oj.op = .W)
      (hbx : ∀ {bx' : List Bx} {d : D} {k : D → Prop}, effOp P oj.op (evS s.sl) s.bx (fun r => r = (bx', d)) → gval P ops.toList oi s.sl s.bx s.rw k → gval P ops.toList oi s.sl bx' s.rw k),
      gst P ops.toList oi s (fun s1 => gst P ops.toList oj s1 K) → gst P ops.toList oj s (fun s1 => gst P ops.toList oi s1 K) := fun vi ej hbx h => by
    obtain ⟨hd, h⟩ := (gst_V vi).1 h
    obtain ⟨d, hv, h⟩ := (cp_gval _ _ _ _ _).ex h
    obtain ⟨hd', hed, h⟩ := (gst_E ej (hgj ej)).1 h
    obtain ⟨⟨bx', e⟩, he, hK⟩ := (cp_eff _ _ _).ex h
    have hs : (St.put s oi.dst d).bx = s.bx ∧ (St.put s oi.dst d).rw = s.rw ∧ (St.put s oi.dst d).n = s.n := by cases oi.dst <;> exact ⟨rfl, rfl, rfl⟩
    rw [hs.1] at he
    have he := eff_congr (evS_put h1) he
    refine (gst_E ej (hgj ej)).2 ⟨dok.1 hd', hed, (cp_eff _ _ _).mono (fun x hx => ?_) he⟩
    subst hx
    refine (gst_V vi).2 ⟨?_, ?_⟩
    · have := hd
      cases hoj : oj.dst <;> cases hoi : oi.dst <;> simp_all [dstOk, St.put]
    · have hv2 := hbx he hv
      have e1 : (St.put ⟨s.n, s.sl, bx', s.rw⟩ oj.dst e).bx = bx' ∧ (St.put ⟨s.n, s.sl, bx', s.rw⟩ oj.dst e).rw = s.rw := by cases oj.dst <;> exact ⟨rfl, rfl⟩
      rw [e1.1, e1.2]
      refine (gval_put (s := ⟨s.n, s.sl, bx', s.rw⟩) h3).2 ((cp_gval _ _ _ _ _).mono (fun x hx => ?_) hv2)
      subst hx
      have e2 : (St.mk (St.put s oi.dst x).n (St.put s oi.dst x).sl bx' (St.put s oi.dst x).rw) = St.put ⟨s.n, s.sl, bx', s.rw⟩ oi.dst x := by cases oi.dst <;> rfl
      simp only [e2] at hK
      rw [← fin]; exact hK
  -- an effect, then a value that asks no box
  have keyEV : ∀ (ei : kindOf oi.op = .L ∨ kindOf oi.op = .W) (vj : kindOf oj.op = .A),
      gst P ops.toList oi s (fun s1 => gst P ops.toList oj s1 K) → gst P ops.toList oj s (fun s1 => gst P ops.toList oi s1 K) := fun ei vj h => by
    obtain ⟨hd, hed, h⟩ := (gst_E ei (hgi ei)).1 h
    obtain ⟨⟨bx', d⟩, he, h⟩ := (cp_eff _ _ _).ex h
    obtain ⟨hd', h⟩ := (gst_V (.inl vj)).1 h
    obtain ⟨e, hv, hK⟩ := (cp_gval _ _ _ _ _).ex h
    have e1 : (St.put ⟨s.n, s.sl, bx', s.rw⟩ oi.dst d).bx = bx' ∧ (St.put ⟨s.n, s.sl, bx', s.rw⟩ oi.dst d).rw = s.rw := by cases oi.dst <;> exact ⟨rfl, rfl⟩
    simp only [e1.1, e1.2] at hv
    have hv := (gval_put (s := ⟨s.n, s.sl, bx', s.rw⟩) h1).1 hv
    have hvA : ∀ {b b' : List Bx} {k : D → Prop}, gval P ops.toList oj s.sl b s.rw k → gval P ops.toList oj s.sl b' s.rw k := fun {b b' k} hh => by
      unfold gval at hh ⊢
      cases hg : oj.guard with
      | none => rw [hg] at hh; exact opB_A vj hh
      | some jw =>
        obtain ⟨j, want⟩ := jw
        rw [hg] at hh
        simp only at hh ⊢
        cases hgs : gslot ops.toList j with
        | none => rw [hgs] at hh; exact hh
        | some t =>
          rw [hgs] at hh
          simp only [wOpt] at hh ⊢
          cases hst : s.sl t <;> rw [hst] at hh <;> simp only [wG] at hh ⊢
          case skp => exact hh
          rename_i b0
          cases hbw : b0 == want <;> rw [hbw] at hh <;> simp only at hh ⊢
          · exact hh
          · exact opB_A vj hh
    refine (gst_V (.inl vj)).2 ⟨?_, (cp_gval _ _ _ _ _).mono (fun x hx => ?_) (hvA hv)⟩
    · have := hd'
      cases hoj : oj.dst <;> cases hoi : oi.dst <;> simp_all [dstOk, St.put]
    · subst hx
      have hs : (St.put s oj.dst x).bx = s.bx ∧ (St.put s oj.dst x).rw = s.rw ∧ (St.put s oj.dst x).n = s.n := by cases oj.dst <;> exact ⟨rfl, rfl, rfl⟩
      refine (gst_E ei (hgi ei)).2 ⟨dok.2 hd, hed, ?_⟩
      rw [hs.1]
      refine (cp_eff _ _ _).mono (fun r hr => ?_) (eff_congr (fun y hy => (evS_put h3 y hy).symm) he)
      subst hr
      have e2 : (St.mk (St.put s oj.dst x).n (St.put s oj.dst x).sl bx' (St.put s oj.dst x).rw) = St.put ⟨s.n, s.sl, bx', s.rw⟩ oj.dst x := by cases oj.dst <;> rfl
      simp only [e2]
      rw [← fin]; exact hK
  have growL : kindOf oj.op = .L → ∀ {bx' : List Bx} {d : D}, effOp P oj.op (evS s.sl) s.bx (fun r => r = (bx', d)) → ∃ t, bx' = s.bx ++ t := fun hl {bx' d} he => by
    unfold effOp at he
    split at he
    · obtain ⟨zs, _, he⟩ := wOpt_some he; cases he; exact ⟨_, rfl⟩
    · cases he.2; exact ⟨_, rfl⟩
    · rename_i ho; rw [ho] at hl; cases hl
    · rename_i ho; rw [ho] at hl; cases hl
    · exact he.elim
  have gvalA : kindOf oi.op = .A → ∀ {b b' : List Bx} {k : D → Prop}, gval P ops.toList oi s.sl b s.rw k → gval P ops.toList oi s.sl b' s.rw k := fun vi {b b' k} hh => by
    unfold gval at hh ⊢
    cases hg : oi.guard with
    | none => rw [hg] at hh; exact opB_A vi hh
    | some jw =>
      obtain ⟨j, want⟩ := jw
      rw [hg] at hh
      simp only at hh ⊢
      cases hgs : gslot ops.toList j with
      | none => rw [hgs] at hh; exact hh
      | some t =>
        rw [hgs] at hh
        simp only [wOpt] at hh ⊢
        cases hst : s.sl t <;> rw [hst] at hh <;> simp only [wG] at hh ⊢
        case skp => exact hh
        rename_i b0
        cases hbw : b0 == want <;> rw [hbw] at hh <;> simp only at hh ⊢
        · exact hh
        · exact opB_A vi hh
  have gvalG : ∀ {b t : List Bx} {k : D → Prop}, gval P ops.toList oi s.sl b s.rw k → gval P ops.toList oi s.sl (b ++ t) s.rw k := fun {b t0 k} hh => by
    unfold gval at hh ⊢
    cases hg : oi.guard with
    | none => rw [hg] at hh; exact opB_grow hh
    | some jw =>
      obtain ⟨j, want⟩ := jw
      rw [hg] at hh
      simp only at hh ⊢
      cases hgs : gslot ops.toList j with
      | none => rw [hgs] at hh; exact hh
      | some t =>
        rw [hgs] at hh
        simp only [wOpt] at hh ⊢
        cases hst : s.sl t <;> rw [hst] at hh <;> simp only [wG] at hh ⊢
        case skp => exact hh
        rename_i b0
        cases hbw : b0 == want <;> rw [hbw] at hh <;> simp only at hh ⊢
        · exact hh
        · exact opB_grow hh
  cases ki : kindOf oi.op <;> cases kj : kindOf oj.op <;> rw [ki, kj] at hp <;> simp only [pairOk, Bool.false_eq_true] at hp
  · exact key (.inl ki) (.inl kj)
  · exact key (.inl ki) (.inr kj)
  · exact keyVE (.inl ki) (.inl kj) (fun _ hv => gvalA ki hv)
  · exact keyVE (.inl ki) (.inr kj) (fun _ hv => gvalA ki hv)
  · exact key (.inr ki) (.inl kj)
  · exact key (.inr ki) (.inr kj)
  · exact keyVE (.inr ki) (.inl kj) (fun he hv => by obtain ⟨t, rfl⟩ := growL kj he; exact gvalG hv)
  · exact keyEV (.inl ki) kj
  · exact keyEV (.inr ki) kj

/-- Whatever order is picked from here on. -/
def anyA (P : Program) (ops : Array Oper) (K : St → Prop) : Nat → Array Bool → St → Prop
  | 0, listed, s => Region.ready .any ops listed = [] ∧ K s
  | n + 1, listed, s => (Region.ready .any ops listed = [] → K s) ∧ ∀ i ∈ Region.ready .any ops listed, ∀ o, ops[i]? = some o → gst P ops.toList o s fun s' => anyA P ops K n (listed.setIfInBounds i true) s'

theorem gst_mono {ops : List Oper} {o : Oper} {s : St} {K K' : St → Prop} (hk : kindOf o.op ≠ .X) (hg : kindOf o.op = .L ∨ kindOf o.op = .W → o.guard = none) (h : ∀ s, K s → K' s) : gst P ops o s K → gst P ops o s K' := by
  intro hh
  cases k : kindOf o.op with
  | X => exact absurd k hk
  | A => obtain ⟨h1, h2⟩ := (gst_V (.inl k)).1 hh; exact (gst_V (.inl k)).2 ⟨h1, (cp_gval _ _ _ _ _).mono (fun _ h' => h _ h') h2⟩
  | B => obtain ⟨h1, h2⟩ := (gst_V (.inr k)).1 hh; exact (gst_V (.inr k)).2 ⟨h1, (cp_gval _ _ _ _ _).mono (fun _ h' => h _ h') h2⟩
  | L => obtain ⟨h1, h2, h3⟩ := (gst_E (.inl k) (hg (.inl k))).1 hh; exact (gst_E (.inl k) (hg (.inl k))).2 ⟨h1, h2, (cp_eff _ _ _).mono (fun _ h' => h _ h') h3⟩
  | W => obtain ⟨h1, h2, h3⟩ := (gst_E (.inr k) (hg (.inr k))).1 hh; exact (gst_E (.inr k) (hg (.inr k))).2 ⟨h1, h2, (cp_eff _ _ _).mono (fun _ h' => h _ h') h3⟩

def kindsOk (ops : List Oper) : Bool := ops.all fun o => match kindOf o.op with
  | .X => false
  | .L => o.guard.isNone
  | .W => o.guard.isNone
  | _ => true
/-- Later operations that do not wait for this one go with it. -/
def pairsFrom (o : Oper) (i : Nat) (rest : List Oper) : Bool := rest.all fun p => p.after.any (fun e => Region.binds .any e && e.on == i) || pairOk (kindOf o.op) (kindOf p.op)
def pairsOk : Nat → List Oper → Bool
  | _, [] => true
  | i, o :: rest => pairsFrom o i rest && pairsOk (i + 1) rest

theorem kinds_of {ops : Array Oper} (h : kindsOk ops.toList = true) {i : Nat} {o : Oper} (ho : ops[i]? = some o) : kindOf o.op ≠ .X ∧ (kindOf o.op = .L ∨ kindOf o.op = .W → o.guard = none) := by
  have hm : o ∈ ops.toList := by simpa using Array.mem_of_getElem? ho
  have := List.all_eq_true.1 h o hm
  cases k : kindOf o.op <;> rw [k] at this <;> simp at this ⊢ <;> exact this

theorem anyA_first {ops : Array Oper} {K : St → Prop} (hk : kindsOk ops.toList = true) {i : Nat} {oi : Oper} (hi : ops[i]? = some oi) :
    ∀ (fuel : Nat) (listed : Array Bool) (s : St),
      (∀ (j : Nat) (oj : Oper), ops[j]? = some oj → j ≠ i → listed.getD j true = false → (∀ e ∈ oj.after, Region.binds .any e = true → e.on ≠ i) → oi.apart ops oj = true ∧ pairOk (kindOf oi.op) (kindOf oj.op) = true) →
      i ∈ Region.ready .any ops listed → gst P ops.toList oi s (fun s' => anyA P ops K fuel (listed.setIfInBounds i true) s') → anyA P ops K (fuel + 1) listed s := by
  intro fuel
  induction fuel with
  | zero =>
    intro listed s _ hr H
    refine ⟨fun h => (by rw [h] at hr; cases hr), fun j hj oj hoj => ?_⟩
    by_cases hji : j = i
    · subst hji; rw [hi] at hoj; cases hoj; exact H
    · -- j would be ready behind i, and nothing is
      have hrj := ready_mono hj hji
      have hm := kinds_of hk hi
      exfalso
      have : ∃ s', anyA P ops K 0 (listed.setIfInBounds i true) s' := by
        cases k : kindOf oi.op with
        | X => exact absurd k hm.1
        | A => obtain ⟨_, h2⟩ := (gst_V (.inl k)).1 H; obtain ⟨d, _, h3⟩ := (cp_gval _ _ _ _ _).ex h2; exact ⟨_, h3⟩
        | B => obtain ⟨_, h2⟩ := (gst_V (.inr k)).1 H; obtain ⟨d, _, h3⟩ := (cp_gval _ _ _ _ _).ex h2; exact ⟨_, h3⟩
        | L => obtain ⟨_, _, h2⟩ := (gst_E (.inl k) (hm.2 (.inl k))).1 H; obtain ⟨d, _, h3⟩ := (cp_eff _ _ _).ex h2; exact ⟨_, h3⟩
        | W => obtain ⟨_, _, h2⟩ := (gst_E (.inr k) (hm.2 (.inr k))).1 H; obtain ⟨d, _, h3⟩ := (cp_eff _ _ _).ex h2; exact ⟨_, h3⟩
      obtain ⟨s', h1, _⟩ := this
      rw [h1] at hrj
      cases hrj
  | succ fuel ih =>
    intro listed s hfree hr H
    refine ⟨fun h => (by rw [h] at hr; cases hr), fun j hj oj hoj => ?_⟩
    by_cases hji : j = i
    · subst hji; rw [hi] at hoj; cases hoj; exact H
    · obtain ⟨hjun, oj', hoj', hall⟩ := mem_ready.1 hj
      rw [hoj] at hoj'; cases hoj'
      have hnot : ∀ e ∈ oj.after, Region.binds .any e = true → e.on ≠ i := fun e he hb heq => by
        have h1 := hall e he hb
        have h0 := (mem_ready.1 hr).1
        rw [heq] at h1
        rcases Nat.lt_or_ge i listed.size with h' | h'
        · simp [h'] at h0 h1; rw [h0] at h1; cases h1
        · simp [Array.getElem?_eq_none h'] at h1
      obtain ⟨hap, hpk⟩ := hfree j oj hoj hji hjun hnot
      have hmi := kinds_of hk hi
      have hmj := kinds_of hk hoj
      have h1 : gst P ops.toList oi s fun s1 => gst P ops.toList oj s1 fun s2 => anyA P ops K fuel ((listed.setIfInBounds i true).setIfInBounds j true) s2 :=
        gst_mono hmi.1 hmi.2 (fun s1 hs1 => hs1.2 j (ready_mono hj hji) oj hoj) H
      have h2 := swap hap hpk hmi.2 hmj.2 h1
      have hfree' : ∀ (k : Nat) (ok : Oper), ops[k]? = some ok → k ≠ i → (listed.setIfInBounds j true).getD k true = false →
          (∀ e ∈ ok.after, Region.binds .any e = true → e.on ≠ i) → oi.apart ops ok = true ∧ pairOk (kindOf oi.op) (kindOf ok.op) = true := fun k ok hk hki hun hno => by
        refine hfree k ok hk hki ?_ hno
        by_cases hjk : j = k
        · subst hjk; exact hjun
        · rw [getD_set_ne true hjk] at hun; exact hun
      refine gst_mono hmj.1 hmj.2 (fun s1 h3 => ih (listed.setIfInBounds j true) s1 hfree' (ready_mono hr (Ne.symm hji)) ?_) h2
      rw [Array.setIfInBounds_comm _ _ hji]
      exact h3

theorem evOps_gst {ops : List Oper} {o : Oper} {l : List Oper} {s : St} {K : St → Prop} (h : evOps P ops (o :: l) s K) : gst P ops o s fun s' => evOps P ops l s' K := by
  unfold evOps at h
  unfold gst
  cases hg : o.guard with
  | none => rw [hg] at h; exact h
  | some jw =>
    obtain ⟨j, want⟩ := jw
    rw [hg] at h
    simp only at h ⊢
    cases hgs : gslot ops j with
    | none => rw [hgs] at h; exact h
    | some t =>
      rw [hgs] at h
      simp only [wOpt] at h ⊢
      cases hst : s.sl t <;> rw [hst] at h <;> simp only [wG] at h ⊢
      case skp => exact h
      rename_i b
      cases hbw : b == want with
      | true =>
        have e : b = want := by simpa using hbw
        subst e
        have := h.1 rfl
        rw [reput hst] at this
        exact this
      | false =>
        have hne : b = !want := by cases b <;> cases want <;> simp_all
        have h2 := h.2 hne
        rw [← hne, reput hst] at h2
        exact h2

theorem pairsOk_at : ∀ (l : List Oper) (i : Nat), pairsOk i l = true → ∀ (a b : Nat) (oa ob : Oper), a < b → l[a]? = some oa → l[b]? = some ob →
    (∀ e ∈ ob.after, Region.binds .any e = true → e.on ≠ i + a) → pairOk (kindOf oa.op) (kindOf ob.op) = true
  | [], i, _, a, b, oa, ob, _, ha, _, _ => by simp at ha
  | o :: l, i, h, a, b, oa, ob, hab, ha, hb, hno => by
    simp only [pairsOk, Bool.and_eq_true] at h
    obtain ⟨b, rfl⟩ : ∃ b', b = b' + 1 := ⟨b - 1, by omega⟩
    cases a with
    | zero =>
      simp at ha; subst ha
      have hm : ob ∈ l := List.mem_of_getElem? (by simpa using hb)
      have := List.all_eq_true.1 h.1 ob hm
      simp only [Bool.or_eq_true, Array.any_eq_true', Bool.and_eq_true, beq_iff_eq] at this
      rcases this with ⟨e, he, h1, h2⟩ | h
      · exact absurd h2 (hno e he h1)
      · exact h
    | succ a =>
      exact pairsOk_at l (i + 1) h.2 a b oa ob (by omega) (by simpa using ha) (by simpa using hb) (fun e he hb' => by have := hno e he hb'; omega)

theorem anyA_lex {ops : Array Oper} {K : St → Prop} (hk : kindsOk ops.toList = true) (hp : pairsOk 0 ops.toList = true) : ∀ (l : List Oper) (k : Nat) (listed : Array Bool) (s : St), (∀ j, l[j]? = ops[k + j]?) →
    (∀ j, j < k → listed.getD j true = true) → Region.lexFrom .any ops l.length k listed = true → evOps P ops.toList l s K → anyA P ops K l.length listed s
  | [], _, _, _, _, _, hB, h => ⟨by simpa [Region.lexFrom] using hB, h⟩
  | o :: l, k, listed, s, hl, hlt, hB, h => by
    have h0 : ops[k]? = some o := by simpa using (hl 0).symm
    simp only [List.length_cons, Region.lexFrom, Bool.and_eq_true] at hB
    obtain ⟨⟨hr, hf⟩, hB'⟩ := hB
    have hm := kinds_of hk h0
    refine anyA_first hk h0 l.length listed s (fun j oj hj hjk hun hno => ⟨Region.free_spec h0 hf j oj hj hjk hun hno, ?_⟩) (by simpa using hr)
      (gst_mono hm.1 hm.2 (fun s' hs' => anyA_lex hk hp l (k + 1) _ s' (fun j => by have := hl (j + 1); simpa [Nat.add_assoc, Nat.add_comm 1 j] using this) (fun j hj => ?_) hB' hs') (evOps_gst h))
    · have hkj : k < j := by
        rcases Nat.lt_trichotomy j k with h1 | h1 | h1
        · rw [hlt j h1] at hun; cases hun
        · exact absurd h1 hjk
        · exact h1
      exact pairsOk_at ops.toList 0 hp k j o oj hkj (by simpa using h0) (by simpa using hj) (by simpa using hno)
    · by_cases h1 : k = j
      · subst h1
        by_cases hs : k < listed.size
        · simp [hs]
        · simp [hs]
      · rw [getD_set_ne true h1]; exact hlt j (by omega)

theorem gst_sound {c : Ctx} {s : St} {a : Act} {w : World} {g : Gh} {ops : Array Oper} {o : Oper} {K : St → Prop} {N : Act → World → Prop} {Q : Exit → Act → World → Prop} (hg : RG c s a w g) (hN : ∀ s a w, R c s a w → K s → N a w)
    (h : gst c.P ops.toList o s K) : if Region.wanted o (yielded ops a.tmps) then o.wpIn c.F 0 c.P a w N Q else (∀ f, o.about c.P w a.eval = some f → c.F.fn f) ∧ N (a.put o.dst undef) w := by
  have next : stepOp c.P o s K → o.wpIn c.F 0 c.P a w N Q := fun hst => op_in (step_nodefer hst) (Oper.wp_mono (fun a' w' ⟨s', hr', hk'⟩ => hN s' a' w' hr' hk') (step_sound hg hst))
  unfold gst at h
  split at h
  · rename_i hgd
    rw [if_pos (by simp [Region.wanted, hgd])]
    exact next h
  · rename_i j want hgd
    obtain ⟨t, ht, h2⟩ := wOpt_some h
    clear h
    cases hb : s.sl t <;> rw [hb] at h2 <;> simp only [wG] at h2
    case skp =>
      have hy := R.noYield hg ht hb
      rw [if_neg (by simp [Region.wanted, hgd, hy])]
      exact ⟨fun _ _ => trivial, hN _ _ _ ⟨g, hg.put h2.1 (.skp _)⟩ h2.2⟩
    rename_i b
    have hy := R.yielded hg ht hb
    cases hbw : b == want with
    | true =>
      rw [hbw] at h2
      have e : b = want := by simpa using hbw
      rw [if_pos (by simp [Region.wanted, hgd, hy, e])]
      exact next h2
    | false =>
      rw [hbw] at h2
      have hne : b ≠ want := by simpa using hbw
      rw [if_neg (by simp [Region.wanted, hgd, hy, hne])]
      exact ⟨fun _ _ => trivial, hN _ _ _ ⟨g, hg.put h2.1 (.skp _)⟩ h2.2⟩

theorem anyA_sound {c : Ctx} {ops : Array Oper} {K : St → Prop} {Q : Exit → Act → World → Prop} (hQ : ∀ s a w, R c s a w → K s → Q .normal a w) : ∀ (fuel : Nat) (listed : Array Bool) (s : St) (a : Act) (w : World), R c s a w →
    anyA c.P ops K fuel listed s → wpAnyIn c.F 0 c.P .any ops Q fuel listed a w
  | 0, _, s, a, w, hr, h => ⟨h.1, hQ s a w hr h.2⟩
  | fuel + 1, listed, s, a, w, hr, h => by
    refine ⟨fun h0 => hQ s a w hr (h.1 h0), fun i hi => ?_⟩
    obtain ⟨g, hg⟩ := hr
    unfold wpOpIn
    cases ho : ops[i]? with
    | none =>
      obtain ⟨_, o, ho', _⟩ := mem_ready.1 hi
      rw [ho] at ho'; cases ho'
    | some o =>
      exact gst_sound hg (fun s' a' w' hr' hk' => anyA_sound hQ fuel _ s' a' w' hr' hk') (h.2 i hi o ho)

theorem RG.drewTick {c : Ctx} {s : St} {a : Act} {w : World} (h : R c s a w) : R c s a { w with drawn := w.drawn + 1 } := by
  obtain ⟨g, h⟩ := h
  exact ⟨_, h.world (w' := { w with drawn := w.drawn + 1 }) (S' := g.S) ⟨rfl, rfl, rfl, Nat.le_refl _, fun _ _ => rfl⟩ (fun _ h => h) (fun _ h => .inl h) h.good⟩

/-- A region that draws its order: the order of the text serves for all. -/
theorem abs_draw {c : Ctx} {id : Nat} {l : List Oper} {Q : Exit → St → Prop} {s : St} (hm : c.P.follows .mixedOrders = true) (hB : (Region.lexB .any l.toArray && kindsOk l && pairsOk 0 l) = true)
    (h : ∀ K : St → Prop, (∀ s', Q .normal s' → K s') → evOps c.P l l s K) : Abs c (.region id l.toArray true) Q s := by
  intro a w hr
  simp only [Bool.and_eq_true, Region.lexB] at hB
  obtain ⟨⟨⟨_, hl⟩, hk⟩, hp⟩ := hB
  refine wpIn_region_any hm (anyA_sound (K := Q .normal) (fun s a w hr hq => ⟨s, hr, hq⟩) _ _ s _ _ (RG.drewTick hr) ?_)
  have := anyA_lex (P := c.P) (ops := l.toArray) (K := Q .normal) (by simpa using hk) (by simpa using hp) l 0 (Array.replicate l.length false) s (by simp) (by simp) (by simpa using hl) (h _ (fun _ h => h))
  simpa using this
end
end Go.Ab
