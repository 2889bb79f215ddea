import Derived.Test.YtmnepfejoneghaaGreatDoorK06
set_option linter.unusedVariables false
set_option linter.unusedSimpArgs false
namespace Go.Ab
open Go.RowKit
section
variable {P : Program}
/-- What an operation of the kinds A, B, L and W does: the boxes and the value. -/
def ef (P : Program) (ops : List Oper) (o : Oper) (sl : Nat → D) (bx : List Bx) (rw : List Row) (k : List Bx × D → Prop) : Prop := match kindOf o.op with
  | .A => gval P ops o sl bx rw fun d => k (bx, d)
  | .B => gval P ops o sl bx rw fun d => k (bx, d)
  | .L => effDst o ∧ effOp P o.op (evS sl) bx k
  | .W => effDst o ∧ effOp P o.op (evS sl) bx k
  | .X => False
theorem ef_V {ops : List Oper} {o : Oper} {sl : Nat → D} {bx : List Bx} {rw : List Row} (h : kindOf o.op = .A ∨ kindOf o.op = .B) : ef P ops o sl bx rw = fun k => gval P ops o sl bx rw fun d => k (bx, d) := by
  funext k; unfold ef; rcases h with h | h <;> rw [h]
theorem ef_E {ops : List Oper} {o : Oper} {sl : Nat → D} {bx : List Bx} {rw : List Row} (h : kindOf o.op = .L ∨ kindOf o.op = .W) : ef P ops o sl bx rw = fun k => effDst o ∧ effOp P o.op (evS sl) bx k := by
  funext k; unfold ef; rcases h with h | h <;> rw [h]
theorem cp_ef (ops : List Oper) (o : Oper) (sl : Nat → D) (bx : List Bx) (rw : List Row) : CP (ef P ops o sl bx rw) := by
  cases h : kindOf o.op with
  | A => rw [ef_V (.inl h)]; exact (cp_gval _ _ _ _ _).bind (U := fun d k => k (bx, d)) fun d => .ret _
  | B => rw [ef_V (.inr h)]; exact (cp_gval _ _ _ _ _).bind (U := fun d k => k (bx, d)) fun d => .ret _
  | L => rw [ef_E (.inl h)]; exact .and _ (cp_eff _ _ _)
  | W => rw [ef_E (.inr h)]; exact .and _ (cp_eff _ _ _)
  | X =>
    have : ef P ops o sl bx rw = fun _ => False := by funext k; unfold ef; rw [h]
    rw [this]; exact .no
theorem gst_ef {ops : List Oper} {o : Oper} {s : St} {K : St → Prop} (hx : kindOf o.op ≠ .X) (hg : kindOf o.op = .L ∨ kindOf o.op = .W → o.guard = none) :
    gst P ops o s K ↔ dstOk s o.dst ∧ ef P ops o s.sl s.bx s.rw fun r => K (St.put ⟨s.n, s.sl, r.1, s.rw⟩ o.dst r.2) := by
  cases h : kindOf o.op with
  | A => rw [ef_V (.inl h)]; exact gst_V (.inl h)
  | B => rw [ef_V (.inr h)]; exact gst_V (.inr h)
  | L => rw [ef_E (.inl h)]; exact gst_E (.inl h) (hg (.inl h))
  | W => rw [ef_E (.inr h)]; exact gst_E (.inr h) (hg (.inr h))
  | X => exact absurd h hx
theorem ef_put {ops : Array Oper} {o : Oper} {s : St} {dst : Option Tmp} {d : D} {bx : List Bx} {rw : List Row} {k : List Bx × D → Prop} (h : ∀ t, dst = some t → t ∉ o.looksAt ops) :
    ef P ops.toList o (St.put s dst d).sl bx rw k ↔ ef P ops.toList o s.sl bx rw k := by
  cases hk : kindOf o.op with
  | A => rw [ef_V (.inl hk), ef_V (.inl hk)]; exact gval_put h
  | B => rw [ef_V (.inr hk), ef_V (.inr hk)]; exact gval_put h
  | L => rw [ef_E (.inl hk), ef_E (.inl hk)]; exact and_congr Iff.rfl ⟨eff_congr (evS_put h), eff_congr fun x hx => (evS_put h x hx).symm⟩
  | W => rw [ef_E (.inr hk), ef_E (.inr hk)]; exact and_congr Iff.rfl ⟨eff_congr (evS_put h), eff_congr fun x hx => (evS_put h x hx).symm⟩
  | X => unfold ef; rw [hk]
theorem put_bx {n : Nat} {sl : Nat → D} {bx : List Bx} {rw : List Row} {x : Option Tmp} {v : D} : (St.put ⟨n, sl, bx, rw⟩ x v).bx = bx := by cases x <;> rfl
theorem put_rw {n : Nat} {sl : Nat → D} {bx : List Bx} {rw : List Row} {x : Option Tmp} {v : D} : (St.put ⟨n, sl, bx, rw⟩ x v).rw = rw := by cases x <;> rfl
theorem put_re {n : Nat} {sl : Nat → D} {bx bx' : List Bx} {rw : List Row} {x : Option Tmp} {v : D} : (⟨(St.put ⟨n, sl, bx, rw⟩ x v).n, (St.put ⟨n, sl, bx, rw⟩ x v).sl, bx', (St.put ⟨n, sl, bx, rw⟩ x v).rw⟩ : St) = St.put ⟨n, sl, bx', rw⟩ x v := by cases x <;> rfl
theorem put_re2 {n : Nat} {sl : Nat → D} {bx bx' : List Bx} {rw : List Row} {x : Option Tmp} {v : D} : (⟨(St.put ⟨n, sl, bx, rw⟩ x v).n, (St.put ⟨n, sl, bx, rw⟩ x v).sl, bx', rw⟩ : St) = St.put ⟨n, sl, bx', rw⟩ x v := by cases x <;> rfl
theorem dst_put {s : St} {n : Nat} {sl : Nat → D} {bx : List Bx} {rw : List Row} {x y : Option Tmp} {v : D} (hn : n = s.n) : dstOk (St.put ⟨n, sl, bx, rw⟩ x v) y ↔ dstOk s y := by
  subst hn
  cases x <;> exact Iff.rfl
theorem swapE {ops : Array Oper} {oi oj : Oper} {s : St} {K D0 : St → Prop} (hap : oi.apart ops oj = true) (hxi : kindOf oi.op ≠ .X) (hxj : kindOf oj.op ≠ .X)
    (hgi : kindOf oi.op = .L ∨ kindOf oi.op = .W → oi.guard = none) (hgj : kindOf oj.op = .L ∨ kindOf oj.op = .W → oj.guard = none)
    (comm : ∀ bx1 d bx2 e, D0 (St.put ⟨s.n, s.sl, bx1, s.rw⟩ oi.dst d) → ef P ops.toList oi s.sl s.bx s.rw (fun r => r = (bx1, d)) → ef P ops.toList oj s.sl bx1 s.rw (fun r => r = (bx2, e)) →
      ∃ bx3, ef P ops.toList oj s.sl s.bx s.rw (fun r => r = (bx3, e)) ∧ ef P ops.toList oi s.sl bx3 s.rw (fun r => r = (bx2, d))) :
    gst P ops.toList oi s (fun s1 => gst P ops.toList oj s1 K ∧ D0 s1) → gst P ops.toList oj s (fun s1 => gst P ops.toList oi s1 K) := by
  obtain ⟨h1, h2, h3⟩ := Oper.apart_spec hap
  intro h
  obtain ⟨hd, h⟩ := (gst_ef hxi hgi).1 h
  obtain ⟨⟨bx1, d⟩, hi, h, hD⟩ := (cp_ef _ _ _ _ _).ex h
  obtain ⟨hd', h⟩ := (gst_ef hxj hgj).1 h
  obtain ⟨⟨bx2, e⟩, hj, hK⟩ := (cp_ef _ _ _ _ _).ex h
  simp only [put_bx, put_rw] at hj
  have hj := (ef_put (s := ⟨s.n, s.sl, bx1, s.rw⟩) h1).1 hj
  obtain ⟨bx3, c1, c2⟩ := comm bx1 d bx2 e hD hi hj
  refine (gst_ef hxj hgj).2 ⟨(dst_put rfl).1 hd', (cp_ef _ _ _ _ _).mono (fun r hr => ?_) c1⟩
  subst hr
  refine (gst_ef hxi hgi).2 ⟨(dst_put rfl).2 hd, ?_⟩
  simp only [put_bx, put_rw]
  refine (ef_put (s := ⟨s.n, s.sl, bx3, s.rw⟩) h3).2 ((cp_ef _ _ _ _ _).mono (fun r hr => ?_) c2)
  subst hr
  simp only [put_re, put_re2] at hK ⊢
  rw [← put_put h2]; exact hK
/-- What reads or writes a box, and what makes one. -/
def adr : Op → Option Tmp
  | .load _ (.tmp p) => some p
  | .store _ (.tmp q) _ => some q
  | _ => none
def adrL (o : Oper) : Option Tmp := match o.op with | .alloc _ => o.dst | _ => none
/-- Not in the same box. -/
def disj : D → D → Prop
  | .box i _, .box j _ => i ≠ j
  | _, _ => True
def wrOk (ops : Array Oper) : Bool := (List.range ops.size).all fun i => match ops[i]? with
  | some o => (match adr o.op with
      | some m => o.dst != some m && (List.range ops.size).all fun k => match ops[k]? with | some ok => ok.dst != some m || o.after.any (fun e => Region.binds .any e && e.on == k) | none => true
      | none => true) &&
    (match adrL o with
      | some m => (List.range ops.size).all fun k => k == i || match ops[k]? with | some ok => ok.dst != some m | none => true
      | none => true)
  | none => true
theorem wrOk_adr {ops : Array Oper} (h : wrOk ops = true) {i : Nat} {o : Oper} {m : Tmp} (ho : ops[i]? = some o) (hm : adr o.op = some m) :
    o.dst ≠ some m ∧ ∀ (k : Nat) (ok : Oper), ops[k]? = some ok → ok.dst = some m → ∃ e ∈ o.after, Region.binds .any e = true ∧ e.on = k := by
  have hi := (Array.getElem?_eq_some_iff.1 ho).1
  have h1 := List.all_eq_true.1 h i (List.mem_range.2 hi)
  simp only [ho, hm, Bool.and_eq_true, bne_iff_ne, ne_eq, List.all_eq_true, List.mem_range] at h1
  refine ⟨h1.1.1, fun k ok hk hd => ?_⟩
  have h2 := h1.1.2 k (Array.getElem?_eq_some_iff.1 hk).1
  simp only [hk, hd, Bool.or_eq_true, bne_self_eq_false, Bool.false_eq_true, false_or, Array.any_eq_true', Bool.and_eq_true, beq_iff_eq] at h2
  exact h2
theorem wrOk_adrL {ops : Array Oper} (h : wrOk ops = true) {i : Nat} {o : Oper} {m : Tmp} (ho : ops[i]? = some o) (hm : adrL o = some m) :
    ∀ (k : Nat) (ok : Oper), ops[k]? = some ok → ok.dst = some m → k = i := by
  have hi := (Array.getElem?_eq_some_iff.1 ho).1
  have h1 := List.all_eq_true.1 h i (List.mem_range.2 hi)
  simp only [ho, hm, Bool.and_eq_true, List.all_eq_true, List.mem_range] at h1
  intro k ok hk hd
  have h2 := h1.2 k (Array.getElem?_eq_some_iff.1 hk).1
  simpa [hk, hd] using h2
def dynB (ps : List (Tmp × Tmp)) (oi oj : Oper) : Bool := match oi.op, oj.op with
  | .load _ (.tmp p), .store _ (.tmp q) _ => ps.contains (p, q)
  | .store _ (.tmp q) _, .load _ (.tmp p) => ps.contains (p, q)
  | .store _ (.tmp q) _, .store _ (.tmp p) _ => ps.contains (p, q)
  | .alloc _, .load _ (.tmp p) => match oi.dst with | some a => ps.contains (p, a) | none => false
  | .alloc _, .store _ (.tmp p) _ => match oi.dst with | some a => ps.contains (p, a) | none => false
  | .store .., .alloc _ => true
  | .store .., .call ⟨.value _, _, _⟩ => true
  | .call ⟨.value _, _, _⟩, .store .. => true
  | .alloc _, .call ⟨.value _, _, _⟩ => true
  | .store .., .buildSlice .. => true
  | .buildSlice .., .store .. => true
  | .alloc _, .buildSlice .. => true
  | _, _ => false
def dynOk (ps : List (Tmp × Tmp)) (oi oj : Oper) : Bool := pairOk (kindOf oi.op) (kindOf oj.op) || dynB ps oi oj
/-- What is asked of a state between two operations. -/
def DC (ps : List (Tmp × Tmp)) (oi oj : Oper) (s1 : St) : Prop := ∀ x y, (x, y) ∈ ps → (adr oi.op = some x ∨ adr oj.op = some x) → (adr oi.op = some y ∨ adr oj.op = some y ∨ adrL oi = some y) → disj (s1.sl x) (s1.sl y)
/-- Boxes that are frozen are the same. -/
def sameFz (bx bx' : List Bx) : Prop := ∀ (i : Nat) (cs : List D), bx[i]? = some (Bx.fz cs) ↔ bx'[i]? = some (Bx.fz cs)
theorem pureZ_fz {bx bx' : List Bx} (h : sameFz bx bx') (rw : List Row) (d : D) : pureZ bx rw d = pureZ bx' rw d := by
  have key : ∀ {α : Type} (i : Nat) (f : List D → Option α), (match bx[i]? with | some (.fz cs) => f cs | _ => none) = (match bx'[i]? with | some (.fz cs) => f cs | _ => none) := fun i f => by
    cases hb : bx[i]? with
    | none =>
      cases hb' : bx'[i]? with
      | none => rfl
      | some b' => cases b' with
        | fz cs => have := (h i cs).2 hb'; rw [hb] at this; cases this
        | _ => rfl
    | some b => cases b with
      | fz cs => rw [(h i cs).1 hb]
      | dead =>
        cases hb' : bx'[i]? with
        | none => rfl
        | some b' => cases b' with
          | fz cs => have := (h i cs).2 hb'; rw [hb] at this; cases this
          | _ => rfl
      | mu _ =>
        cases hb' : bx'[i]? with
        | none => rfl
        | some b' => cases b' with
          | fz cs => have := (h i cs).2 hb'; rw [hb] at this; cases this
          | _ => rfl
  cases d <;> first | rfl | exact key _ _
theorem pureLZ_fz {bx bx' : List Bx} (h : sameFz bx bx') (rw : List Row) : ∀ ds, pureLZ bx rw ds = pureLZ bx' rw ds
  | [] => rfl
  | d :: ds => by simp only [pureLZ, pureZ_fz h, pureLZ_fz h rw ds]
theorem pureM_fz {bx bx' : List Bx} (h : sameFz bx bx') (rw : List Row) (d : D) : pureM bx rw d = pureM bx' rw d := by
  unfold pureM
  split
  · rw [pureLZ_fz h]
  · exact pureZ_fz h rw _
theorem pureLM_fz {bx bx' : List Bx} (h : sameFz bx bx') (rw : List Row) : ∀ ds, pureLM bx rw ds = pureLM bx' rw ds
  | [] => rfl
  | d :: ds => by simp only [pureLM, pureM_fz h, pureLM_fz h rw ds]
theorem pureA_fz {bx bx' : List Bx} (h : sameFz bx bx') (rw : List Row) (d : D) : pureA bx rw d = pureA bx' rw d := by
  unfold pureA
  split
  · rw [pureLM_fz h]
  · rw [pureLZ_fz h]
  · exact pureZ_fz h rw _
theorem pureL_fz {bx bx' : List Bx} (h : sameFz bx bx') (rw : List Row) : ∀ ds, pureL bx rw ds = pureL bx' rw ds
  | [] => rfl
  | d :: ds => by simp only [pureL, pureA_fz h, pureL_fz h rw ds]
theorem pureD_fz {bx bx' : List Bx} (h : sameFz bx bx') (rw : List Row) (d : D) : pureD bx rw d = pureD bx' rw d := by
  unfold pureD
  split
  · rw [pureL_fz h]
  · rw [pureL_fz h]
  · rfl
  · exact pureA_fz h rw _
theorem pureDs_fz {bx bx' : List Bx} (h : sameFz bx bx') (rw : List Row) : ∀ ds, pureDs bx rw ds = pureDs bx' rw ds
  | [] => rfl
  | d :: ds => by simp only [pureDs, pureD_fz h, pureDs_fz h rw ds]
theorem sameFz.symm {bx bx' : List Bx} (h : sameFz bx bx') : sameFz bx' bx := fun i cs => (h i cs).symm
theorem sameFz_set {bx : List Bx} {j : Nat} {cs cs' : List D} (h : bx[j]? = some (.mu cs)) : sameFz bx (bx.set j (.mu cs')) := by
  have hj := (List.getElem?_eq_some_iff.1 h).1
  intro i ds
  by_cases hij : j = i
  · subst hij
    rw [h, List.getElem?_set_self hj]; simp
  · rw [List.getElem?_set_ne hij]
theorem sameFz_app {bx : List Bx} {cs : List D} : sameFz bx (bx ++ [.mu cs]) := by
  intro i ds
  rcases Nat.lt_or_ge i bx.length with h | h
  · rw [List.getElem?_append_left h]
  · rw [List.getElem?_append_right h, List.getElem?_eq_none h]
    cases hh : i - bx.length with
    | zero => simp
    | succ n => simp
/-- The value of a guarded operation, with other boxes. -/
theorem gval_bx {ops : List Oper} {o : Oper} {sl : Nat → D} {bx bx' : List Bx} {rw : List Row} {k : D → Prop} (h : ∀ k, opB P o.op (evS sl) bx rw k → opB P o.op (evS sl) bx' rw k) (hh : gval P ops o sl bx rw k) : gval P ops o sl bx' rw k := by
  unfold gval at hh ⊢
  cases hg : o.guard with
  | none => rw [hg] at hh; exact h _ hh
  | some jw =>
    obtain ⟨j, want⟩ := jw
    rw [hg] at hh
    simp only at hh ⊢
    cases hgs : gslot ops j with
    | none => rw [hgs] at hh; exact hh
    | some t =>
      rw [hgs] at hh
      simp only [wOpt] at hh ⊢
      cases hst : sl t <;> rw [hst] at hh <;> simp only [wG] at hh ⊢
      case skp => exact hh
      rename_i b0
      cases hbw : b0 == want <;> rw [hbw] at hh <;> simp only at hh ⊢
      · exact hh
      · exact h _ hh
theorem load_bx {t : TypeId} {p : Tmp} {sl : Nat → D} {bx bx' : List Bx} {rw : List Row} (h : ∀ i off, sl p = .box i off → bx[i]? = bx'[i]?) : ∀ k, opB P (.load t (.tmp p)) (evS sl) bx rw k → opB P (.load t (.tmp p)) (evS sl) bx' rw k := by
  intro k hh
  have hh : wLoad P bx t (sl p) k := hh
  show wLoad P bx' t (sl p) k
  cases hs : sl p <;> rw [hs] at hh <;> first | exact hh | skip
  rename_i i off
  have := h i off hs
  simp only [wLoad, wBx] at hh ⊢
  rw [← this]; exact hh
theorem call_bx {f : Operand} {xs : Array Operand} {at_ : Array TypeId} {sl : Nat → D} {bx bx' : List Bx} {rw : List Row} (h : sameFz bx bx') : ∀ k, opB P (.call ⟨.value f, xs, at_⟩) (evS sl) bx rw k → opB P (.call ⟨.value f, xs, at_⟩) (evS sl) bx' rw k := by
  intro k hh
  have e : (fun f fs cs => wOpt (pureDs bx rw (fs ++ xs.toList.map (evS sl) ++ cs)) fun ds => CallK P f ds k) = fun f fs cs => wOpt (pureDs bx' rw (fs ++ xs.toList.map (evS sl) ++ cs)) fun ds => CallK P f ds k := by
    funext f fs cs; rw [pureDs_fz h]
  have hh : wFn (evS sl f) (fun f fs cs => wOpt (pureDs bx rw (fs ++ xs.toList.map (evS sl) ++ cs)) fun ds => CallK P f ds k) := hh
  rw [e] at hh
  exact hh
theorem slice_bx {t : TypeId} {n : Nat} {q : Array (Nat × Operand)} {sl : Nat → D} {bx bx' : List Bx} {rw : List Row} (h : sameFz bx bx') : ∀ k, opB P (.buildSlice t n q) (evS sl) bx rw k → opB P (.buildSlice t n q) (evS sl) bx' rw k := by
  intro k hh
  simp only [opB] at hh ⊢
  rw [← pureDs_fz h]; exact hh
/-- What a store does. -/
theorem store_ex {t : TypeId} {q : Tmp} {y : Operand} {sl : Nat → D} {bx bx1 : List Bx} {d : D} (h : effOp P (.store t (.tmp q) y) (evS sl) bx (fun r => r = (bx1, d))) :
    ∃ i off cs, sl q = .box i off ∧ bx[i]? = some (.mu cs) ∧ d = .undef ∧ bx1 = bx.set i (.mu (cs.take off ++ (evS sl y).cells ++ cs.drop (off + (evS sl y).cells.length))) ∧
      (szOf P t ≠ 0 ∧ (evS sl y).cells.length = szOf P t ∧ (evS sl y).cells.all D.one = true ∧ off + (evS sl y).cells.length ≤ cs.length) := by
  have h : (match sl q with
    | .box i off => match bx[i]? with
      | some (.mu cs) => szOf P t ≠ 0 ∧ (evS sl y).cells.length = szOf P t ∧ (evS sl y).cells.all D.one = true ∧ off + (evS sl y).cells.length ≤ cs.length ∧
          (bx.set i (.mu (cs.take off ++ (evS sl y).cells ++ cs.drop (off + (evS sl y).cells.length))), D.undef) = (bx1, d)
      | _ => False
    | _ => False) := h
  split at h
  · rename_i i off hs
    split at h
    · rename_i cs hc
      obtain ⟨h1, h2, h3, h4, h5⟩ := h
      cases h5
      exact ⟨i, off, cs, hs, hc, rfl, rfl, h1, h2, h3, h4⟩
    · exact h.elim
  · exact h.elim
theorem store_mk {t : TypeId} {q : Tmp} {y : Operand} {sl : Nat → D} {bx : List Bx} {i off : Nat} {cs : List D} (hs : sl q = .box i off) (hb : bx[i]? = some (.mu cs))
    (h : szOf P t ≠ 0 ∧ (evS sl y).cells.length = szOf P t ∧ (evS sl y).cells.all D.one = true ∧ off + (evS sl y).cells.length ≤ cs.length) :
    effOp P (.store t (.tmp q) y) (evS sl) bx (fun r => r = (bx.set i (.mu (cs.take off ++ (evS sl y).cells ++ cs.drop (off + (evS sl y).cells.length))), .undef)) := by
  show (match sl q with
    | .box i off => match bx[i]? with
      | some (.mu cs) => szOf P t ≠ 0 ∧ (evS sl y).cells.length = szOf P t ∧ (evS sl y).cells.all D.one = true ∧ off + (evS sl y).cells.length ≤ cs.length ∧ _
      | _ => False
    | _ => False)
  rw [hs]
  simp only [hb]
  exact ⟨h.1, h.2.1, h.2.2.1, h.2.2.2, trivial⟩
theorem store_fz {t : TypeId} {x y : Operand} {sl : Nat → D} {bx bx1 : List Bx} {d : D} (h : effOp P (.store t x y) (evS sl) bx (fun r => r = (bx1, d))) : sameFz bx bx1 := by
  have h : (match evS sl x with
    | .box i off => match bx[i]? with
      | some (.mu cs) => szOf P t ≠ 0 ∧ (evS sl y).cells.length = szOf P t ∧ (evS sl y).cells.all D.one = true ∧ off + (evS sl y).cells.length ≤ cs.length ∧
          (bx.set i (.mu (cs.take off ++ (evS sl y).cells ++ cs.drop (off + (evS sl y).cells.length))), D.undef) = (bx1, d)
      | _ => False
    | _ => False) := h
  split at h
  · split at h
    · rename_i cs hc
      cases h.2.2.2.2
      exact sameFz_set hc
    · exact h.elim
  · exact h.elim
theorem alloc_ex {t : TypeId} {sl : Nat → D} {bx bx1 : List Bx} {d : D} (h : effOp P (.alloc t) (evS sl) bx (fun r => r = (bx1, d))) : ∃ zs, zeroD P t = some zs ∧ bx1 = bx ++ [.mu zs] ∧ d = .box bx.length 0 := by
  obtain ⟨zs, hz, h⟩ := wOpt_some h
  cases h
  exact ⟨zs, hz, rfl, rfl⟩
theorem alloc_mk {t : TypeId} {sl : Nat → D} {bx : List Bx} {zs : List D} (h : zeroD P t = some zs) : effOp P (.alloc t) (evS sl) bx (fun r => r = (bx ++ [.mu zs], .box bx.length 0)) := by
  show wOpt (zeroD P t) _
  rw [h]; rfl
theorem VE {ops : List Oper} {oi oj : Oper} {sl : Nat → D} {bx bx1 bx2 : List Bx} {rw : List Row} {d e : D} (vi : kindOf oi.op = .A ∨ kindOf oi.op = .B) (hi : ef P ops oi sl bx rw (fun r => r = (bx1, d))) (hj : ef P ops oj sl bx1 rw (fun r => r = (bx2, e)))
    (hb : ∀ k, opB P oi.op (evS sl) bx rw k → opB P oi.op (evS sl) bx2 rw k) : ∃ bx3, ef P ops oj sl bx rw (fun r => r = (bx3, e)) ∧ ef P ops oi sl bx3 rw (fun r => r = (bx2, d)) := by
  rw [ef_V vi] at hi
  obtain ⟨d', hv, he⟩ := (cp_gval _ _ _ _ _).ex hi
  cases he
  refine ⟨bx2, hj, ?_⟩
  rw [ef_V vi]
  exact (cp_gval _ _ _ _ _).mono (fun x hx => by rw [hx]) (gval_bx hb hv)
theorem EV {ops : List Oper} {oi oj : Oper} {sl : Nat → D} {bx bx1 bx2 : List Bx} {rw : List Row} {d e : D} (vj : kindOf oj.op = .A ∨ kindOf oj.op = .B) (hi : ef P ops oi sl bx rw (fun r => r = (bx1, d))) (hj : ef P ops oj sl bx1 rw (fun r => r = (bx2, e)))
    (hb : ∀ k, opB P oj.op (evS sl) bx1 rw k → opB P oj.op (evS sl) bx rw k) : ∃ bx3, ef P ops oj sl bx rw (fun r => r = (bx3, e)) ∧ ef P ops oi sl bx3 rw (fun r => r = (bx2, d)) := by
  rw [ef_V vj] at hj
  obtain ⟨d', hv, he⟩ := (cp_gval _ _ _ _ _).ex hj
  cases he
  refine ⟨bx, ?_, hi⟩
  rw [ef_V vj]
  exact (cp_gval _ _ _ _ _).mono (fun x hx => by rw [hx]) (gval_bx hb hv)
theorem put_sl_ne {n : Nat} {sl : Nat → D} {bx : List Bx} {rw : List Row} {x : Option Tmp} {v : D} {m : Tmp} (h : x ≠ some m) : (St.put ⟨n, sl, bx, rw⟩ x v).sl m = sl m := by
  cases x with
  | none => rfl
  | some t => simp only [St.put, Ab.put]; rw [if_neg (fun e => h (by rw [e]))]
theorem put_sl_eq {n : Nat} {sl : Nat → D} {bx : List Bx} {rw : List Row} {v : D} {m : Tmp} : (St.put ⟨n, sl, bx, rw⟩ (some m) v).sl m = v := by simp [St.put, Ab.put]
theorem look_adr {ops : Array Oper} {o : Oper} {m : Tmp} (h : adr o.op = some m) : m ∈ o.looksAt ops := by
  obtain ⟨dst, op, ty, pos, aft, gd⟩ := o
  simp only [Oper.looksAt, List.mem_append, List.mem_filterMap]
  left
  refine ⟨.tmp m, ?_, rfl⟩
  cases op <;> simp only [adr, reduceCtorEq] at h
  · rename_i t x
    cases x <;> simp only [reduceCtorEq] at h
    cases h; simp [Op.operands]
  · rename_i t x y
    cases x <;> simp only [reduceCtorEq] at h
    cases h; simp [Op.operands]
/-- Two operations go with each other, if they do not write and read the same box. -/
theorem dyn_comm {ps : List (Tmp × Tmp)} {ops : Array Oper} {oi oj : Oper} {s : St} (h : dynB ps oi oj = true) (hap : oi.apart ops oj = true) (hself : ∀ m, adr oi.op = some m → oi.dst ≠ some m) :
    ∀ bx1 d bx2 e, DC ps oi oj (St.put ⟨s.n, s.sl, bx1, s.rw⟩ oi.dst d) → ef P ops.toList oi s.sl s.bx s.rw (fun r => r = (bx1, d)) → ef P ops.toList oj s.sl bx1 s.rw (fun r => r = (bx2, e)) →
      ∃ bx3, ef P ops.toList oj s.sl s.bx s.rw (fun r => r = (bx3, e)) ∧ ef P ops.toList oi s.sl bx3 s.rw (fun r => r = (bx2, d)) := by
  obtain ⟨h1, h2, h3⟩ := Oper.apart_spec hap
  have hadr : ∀ m, adr oj.op = some m → oi.dst ≠ some m := fun m hm e => h1 m e (look_adr hm)
  obtain ⟨di, op, ty, pos, aft, gd⟩ := oi
  obtain ⟨dj, op', ty', pos', aft', gd'⟩ := oj
  simp only at hself hadr h1 h2 h3
  intro bx1 d bx2 e hD hi hj
  unfold dynB at h
  simp only at h
  split at h
  · -- load, store
    rename_i p _ q _
    have hps : (p, q) ∈ ps := by simpa using h
    have hd := hD p q hps (.inl rfl) (.inr (.inl rfl))
    rw [put_sl_ne (hself p rfl), put_sl_ne (hadr q rfl)] at hd
    refine VE (.inr rfl) hi hj (load_bx fun i off hp => ?_)
    have hbx : bx1 = s.bx := by
      rw [ef_V (.inr rfl)] at hi
      obtain ⟨d', _, he⟩ := (cp_gval _ _ _ _ _).ex hi
      cases he; rfl
    subst hbx
    rw [ef_E (.inr rfl)] at hj
    obtain ⟨i', off', cs, e1, e2, e3, e4, _⟩ := store_ex hj.2
    rw [hp, e1] at hd
    rw [e4, List.getElem?_set_ne (fun e => hd e.symm)]
  · -- store, load
    rename_i q _ _ p
    have hps : (p, q) ∈ ps := by simpa using h
    have hd := hD p q hps (.inr rfl) (.inl rfl)
    rw [put_sl_ne (hadr p rfl), put_sl_ne (hself q rfl)] at hd
    refine EV (.inr rfl) hi hj (load_bx fun i off hp => ?_)
    rw [ef_E (.inr rfl)] at hi
    obtain ⟨i', off', cs, e1, e2, e3, e4, _⟩ := store_ex hi.2
    rw [hp, e1] at hd
    rw [e4, List.getElem?_set_ne (fun e => hd e.symm)]
  · -- store, store
    rename_i q y _ p z
    have hps : (p, q) ∈ ps := by simpa using h
    have hd := hD p q hps (.inr rfl) (.inl rfl)
    rw [put_sl_ne (hadr p rfl), put_sl_ne (hself q rfl)] at hd
    rw [ef_E (.inr rfl)] at hi hj
    obtain ⟨i, off, cs, e1, e2, e3, e4, e5⟩ := store_ex hi.2
    obtain ⟨i', off', cs', f1, f2, f3, f4, f5⟩ := store_ex hj.2
    rw [f1, e1] at hd
    subst e3 f3 e4
    have hd : i' ≠ i := hd
    rw [List.getElem?_set_ne (Ne.symm hd)] at f2
    refine ⟨s.bx.set i' (.mu (cs'.take off' ++ (evS s.sl z).cells ++ cs'.drop (off' + (evS s.sl z).cells.length))), ?_, ?_⟩
    · rw [ef_E (.inr rfl)]; exact ⟨hj.1, store_mk f1 f2 f5⟩
    · rw [ef_E (.inr rfl)]
      refine ⟨hi.1, ?_⟩
      have := store_mk (P := P) (bx := s.bx.set i' (.mu (cs'.take off' ++ (evS s.sl z).cells ++ cs'.drop (off' + (evS s.sl z).cells.length)))) e1 (by rw [List.getElem?_set_ne hd]; exact e2) e5
      rw [f4, List.set_comm _ _ (Ne.symm hd)]
      exact this
  · -- alloc, load
    rename_i p
    cases di with
    | none => simp at h
    | some a =>
      have hps : (p, a) ∈ ps := by simpa using h
      have hd := hD p a hps (.inr rfl) (.inr (.inr rfl))
      rw [put_sl_ne (hadr p rfl), put_sl_eq] at hd
      have hi' := hi
      rw [ef_E (.inl rfl)] at hi'
      obtain ⟨zs, e1, e2, e3⟩ := alloc_ex hi'.2
      refine EV (.inr rfl) hi hj (load_bx fun i off hp => ?_)
      rw [hp, e3] at hd
      have hd : i ≠ s.bx.length := hd
      rw [e2]
      rcases Nat.lt_or_ge i s.bx.length with hlt | hge
      · rw [List.getElem?_append_left hlt]
      · rw [List.getElem?_eq_none hge, List.getElem?_eq_none (by simp; omega)]
  · -- alloc, store
    rename_i p z
    cases di with
    | none => simp at h
    | some a =>
      have hps : (p, a) ∈ ps := by simpa using h
      have hd := hD p a hps (.inr rfl) (.inr (.inr rfl))
      rw [put_sl_ne (hadr p rfl), put_sl_eq] at hd
      rw [ef_E (.inl rfl)] at hi
      rw [ef_E (.inr rfl)] at hj
      obtain ⟨zs, e1, e2, e3⟩ := alloc_ex hi.2
      obtain ⟨i', off', cs', f1, f2, f3, f4, f5⟩ := store_ex hj.2
      rw [f1, e3] at hd
      have hd : i' ≠ s.bx.length := hd
      subst e2 e3 f3
      have hlt : i' < s.bx.length := by
        have := (List.getElem?_eq_some_iff.1 f2).1
        simp at this; omega
      rw [List.getElem?_append_left hlt] at f2
      refine ⟨s.bx.set i' (.mu (cs'.take off' ++ (evS s.sl z).cells ++ cs'.drop (off' + (evS s.sl z).cells.length))), ?_, ?_⟩
      · rw [ef_E (.inr rfl)]; exact ⟨hj.1, store_mk f1 f2 f5⟩
      · rw [ef_E (.inl rfl)]
        refine ⟨hi.1, ?_⟩
        have := alloc_mk (P := P) (sl := s.sl) (bx := s.bx.set i' (.mu (cs'.take off' ++ (evS s.sl z).cells ++ cs'.drop (off' + (evS s.sl z).cells.length)))) e1
        rw [List.length_set] at this
        rw [f4, List.set_append_left _ _ hlt]
        exact this
  · -- store, alloc
    rename_i x y _ 
    rw [ef_E (.inr rfl)] at hi
    rw [ef_E (.inl rfl)] at hj
    obtain ⟨zs, e1, e2, e3⟩ := alloc_ex hj.2
    cases x with
    | tmp q =>
      obtain ⟨i', off', cs', f1, f2, f3, f4, f5⟩ := store_ex hi.2
      subst e2 e3 f3 f4
      have hlt := (List.getElem?_eq_some_iff.1 f2).1
      refine ⟨s.bx ++ [.mu zs], ?_, ?_⟩
      · rw [ef_E (.inl rfl)]
        refine ⟨hj.1, ?_⟩
        have := alloc_mk (P := P) (sl := s.sl) (bx := s.bx) e1
        rw [List.length_set]; exact this
      · rw [ef_E (.inr rfl)]
        refine ⟨hi.1, ?_⟩
        have := store_mk (P := P) (bx := s.bx ++ [.mu zs]) f1 (by rw [List.getElem?_append_left hlt]; exact f2) f5
        rw [List.set_append_left _ _ hlt] at this
        exact this
    | const v =>
      exfalso
      have h9 := hi.2
      unfold effOp at h9
      simp only [evS] at h9
      cases v <;> simp [constD] at h9
    | global g => exact hi.2.elim
    | func f => exact hi.2.elim
  · -- store, call
    have hi' := hi
    rw [ef_E (.inr rfl)] at hi'
    exact EV (.inr rfl) hi hj (call_bx (store_fz hi'.2).symm)
  · -- call, store
    have hbx : bx1 = s.bx := by
      rw [ef_V (.inr rfl)] at hi
      obtain ⟨d', _, he⟩ := (cp_gval _ _ _ _ _).ex hi
      cases he; rfl
    subst hbx
    have hj' := hj
    rw [ef_E (.inr rfl)] at hj'
    exact VE (.inr rfl) hi hj (call_bx (store_fz hj'.2))
  · -- alloc, call
    have hi' := hi
    rw [ef_E (.inl rfl)] at hi'
    obtain ⟨zs, e1, e2, e3⟩ := alloc_ex hi'.2
    exact EV (.inr rfl) hi hj (call_bx (by rw [e2]; exact sameFz_app.symm))
  · -- store, build
    have hi' := hi
    rw [ef_E (.inr rfl)] at hi'
    exact EV (.inr rfl) hi hj (slice_bx (store_fz hi'.2).symm)
  · -- build, store
    have hbx : bx1 = s.bx := by
      rw [ef_V (.inr rfl)] at hi
      obtain ⟨d', _, he⟩ := (cp_gval _ _ _ _ _).ex hi
      cases he; rfl
    subst hbx
    have hj' := hj
    rw [ef_E (.inr rfl)] at hj'
    exact VE (.inr rfl) hi hj (slice_bx (store_fz hj'.2))
  · -- alloc, build
    have hi' := hi
    rw [ef_E (.inl rfl)] at hi'
    obtain ⟨zs, e1, e2, e3⟩ := alloc_ex hi'.2
    exact EV (.inr rfl) hi hj (slice_bx (by rw [e2]; exact sameFz_app.symm))
  · cases h
/-- From here on some order leads to an end, and slots that nothing writes any more stay as they are. -/
theorem anyA_path {ops : Array Oper} {K : St → Prop} (hk : kindsOk ops.toList = true) : ∀ (fuel : Nat) (listed : Array Bool) (s : St), anyA P ops K fuel listed s →
    ∃ sf, K sf ∧ ∀ m, (∀ (j : Nat) (oj : Oper), ops[j]? = some oj → listed.getD j true = false → oj.dst ≠ some m) → sf.sl m = s.sl m
  | 0, listed, s, h => ⟨s, h.2, fun _ _ => rfl⟩
  | fuel + 1, listed, s, h => by
    by_cases hr : Region.ready .any ops listed = []
    · exact ⟨s, h.1 hr, fun _ _ => rfl⟩
    · obtain ⟨i, hi⟩ := List.exists_mem_of_ne_nil _ hr
      obtain ⟨hun, o, ho, _⟩ := mem_ready.1 hi
      have hm := kinds_of hk ho
      obtain ⟨_, h2⟩ := (gst_ef hm.1 hm.2).1 (h.2 i hi o ho)
      obtain ⟨r, _, h3⟩ := (cp_ef _ _ _ _ _).ex h2
      obtain ⟨sf, hK, hs⟩ := anyA_path hk fuel _ _ h3
      refine ⟨sf, hK, fun m hmw => ?_⟩
      rw [hs m (fun j oj hj hl => hmw j oj hj ?_), put_sl_ne (hmw i o ho hun)]
      by_cases hij : i = j
      · subst hij; exact hun
      · rwa [getD_set_ne true hij] at hl
theorem anyA_firstD {ps : List (Tmp × Tmp)} {ops : Array Oper} {K : St → Prop} (hk : kindsOk ops.toList = true) (hw : wrOk ops = true) (hC : ∀ s, K s → ∀ x y, (x, y) ∈ ps → disj (s.sl x) (s.sl y)) {i : Nat} {oi : Oper} (hi : ops[i]? = some oi) :
    ∀ (fuel : Nat) (listed : Array Bool) (s : St),
      (∀ (j : Nat) (oj : Oper), ops[j]? = some oj → j ≠ i → listed.getD j true = false → (∀ e ∈ oj.after, Region.binds .any e = true → e.on ≠ i) → oi.apart ops oj = true ∧ dynOk ps oi oj = true) →
      i ∈ Region.ready .any ops listed → gst P ops.toList oi s (fun s' => anyA P ops K fuel (listed.setIfInBounds i true) s') → anyA P ops K (fuel + 1) listed s := by
  intro fuel
  induction fuel with
  | zero =>
    intro listed s _ hr H
    refine ⟨fun h => (by rw [h] at hr; cases hr), fun j hj oj hoj => ?_⟩
    by_cases hji : j = i
    · subst hji; rw [hi] at hoj; cases hoj; exact H
    · have hrj := ready_mono hj hji
      have hm := kinds_of hk hi
      exfalso
      obtain ⟨_, h2⟩ := (gst_ef hm.1 hm.2).1 H
      obtain ⟨r, _, h3⟩ := (cp_ef _ _ _ _ _).ex h2
      rw [h3.1] at hrj
      cases hrj
  | succ fuel ih =>
    intro listed s hfree hr H
    refine ⟨fun h => (by rw [h] at hr; cases hr), fun j hj oj hoj => ?_⟩
    by_cases hji : j = i
    · subst hji; rw [hi] at hoj; cases hoj; exact H
    · obtain ⟨hjun, oj', hoj', hall⟩ := mem_ready.1 hj
      rw [hoj] at hoj'; cases hoj'
      have hedge : ∀ {a b : Nat} {oa : Oper}, a ∈ Region.ready .any ops listed → ops[a]? = some oa → (∃ e ∈ oa.after, Region.binds .any e = true ∧ e.on = b) → listed.getD b true = true := fun {a b oa} ha hoa ⟨e, he, hb, hon⟩ => by
        obtain ⟨_, oa', hoa', hall'⟩ := mem_ready.1 ha
        rw [hoa] at hoa'; cases hoa'
        have h1 := hall' e he hb
        rw [hon] at h1
        rcases Nat.lt_or_ge b listed.size with h' | h'
        · simp [h'] at h1 ⊢; exact h1
        · simp [Array.getElem?_eq_none h'] at h1
      have hnot : ∀ e ∈ oj.after, Region.binds .any e = true → e.on ≠ i := fun e he hb heq => by
        have h1 := hedge hj hoj ⟨e, he, hb, heq⟩
        have h0 := (mem_ready.1 hr).1
        rw [h0] at h1; cases h1
      obtain ⟨hap, hpk⟩ := hfree j oj hoj hji hjun hnot
      have hmi := kinds_of hk hi
      have hmj := kinds_of hk hoj
      have h2 : gst P ops.toList oj s fun s1 => gst P ops.toList oi s1 fun s2 => anyA P ops K fuel ((listed.setIfInBounds i true).setIfInBounds j true) s2 := by
        simp only [dynOk, Bool.or_eq_true] at hpk
        rcases hpk with hpk | hpk
        · exact swap hap hpk hmi.2 hmj.2 (gst_mono hmi.1 hmi.2 (fun s1 hs1 => hs1.2 j (ready_mono hj hji) oj hoj) H)
        · refine swapE (D0 := DC ps oi oj) hap hmi.1 hmj.1 hmi.2 hmj.2 (dyn_comm hpk hap (fun m hm => (wrOk_adr hw hi hm).1)) ?_
          refine gst_mono hmi.1 hmi.2 (fun s1 hs1 => ⟨hs1.2 j (ready_mono hj hji) oj hoj, fun x y hxy hx hy => ?_⟩) H
          obtain ⟨sf, hK, hs⟩ := anyA_path hk _ _ _ hs1
          have key : ∀ m, (adr oi.op = some m ∨ adr oj.op = some m ∨ adrL oi = some m) → sf.sl m = s1.sl m := fun m hm => hs m fun k ok hko hun hd => by
            have hik : i ≠ k := fun e => by
              subst e
              rcases Nat.lt_or_ge i listed.size with h' | h'
              · simp [h'] at hun
              · simp [h'] at hun
            rw [getD_set_ne true hik] at hun
            rcases hm with hm | hm | hm
            · have := hedge hr hi ((wrOk_adr hw hi hm).2 k ok hko hd)
              rw [this] at hun; cases hun
            · have := hedge hj hoj ((wrOk_adr hw hoj hm).2 k ok hko hd)
              rw [this] at hun; cases hun
            · exact hik (wrOk_adrL hw hi hm k ok hko hd).symm
          have h9 := hC sf hK x y hxy
          rw [key x (hx.elim .inl fun h => .inr (.inl h)), key y hy] at h9
          exact h9
      have hfree' : ∀ (k : Nat) (ok : Oper), ops[k]? = some ok → k ≠ i → (listed.setIfInBounds j true).getD k true = false →
          (∀ e ∈ ok.after, Region.binds .any e = true → e.on ≠ i) → oi.apart ops ok = true ∧ dynOk ps oi ok = true := fun k ok hk hki hun hno => by
        refine hfree k ok hk hki ?_ hno
        by_cases hjk : j = k
        · subst hjk; exact hjun
        · rw [getD_set_ne true hjk] at hun; exact hun
      refine gst_mono hmj.1 hmj.2 (fun s1 h3 => ih (listed.setIfInBounds j true) s1 hfree' (ready_mono hr (Ne.symm hji)) ?_) h2
      rw [Array.setIfInBounds_comm _ _ hji]
      exact h3
def pairsFromD (ps : List (Tmp × Tmp)) (o : Oper) (i : Nat) (rest : List Oper) : Bool := rest.all fun p => p.after.any (fun e => Region.binds .any e && e.on == i) || dynOk ps o p
def pairsOkD (ps : List (Tmp × Tmp)) : Nat → List Oper → Bool
  | _, [] => true
  | i, o :: rest => pairsFromD ps o i rest && pairsOkD ps (i + 1) rest
theorem pairsOkD_at (ps : List (Tmp × Tmp)) : ∀ (l : List Oper) (i : Nat), pairsOkD ps i l = true → ∀ (a b : Nat) (oa ob : Oper), a < b → l[a]? = some oa → l[b]? = some ob →
    (∀ e ∈ ob.after, Region.binds .any e = true → e.on ≠ i + a) → dynOk ps oa ob = true
  | [], i, _, a, b, oa, ob, _, ha, _, _ => by simp at ha
  | o :: l, i, h, a, b, oa, ob, hab, ha, hb, hno => by
    simp only [pairsOkD, Bool.and_eq_true] at h
    obtain ⟨b, rfl⟩ : ∃ b', b = b' + 1 := ⟨b - 1, by omega⟩
    cases a with
    | zero =>
      simp at ha; subst ha
      have hm : ob ∈ l := List.mem_of_getElem? (by simpa using hb)
      have := List.all_eq_true.1 h.1 ob hm
      simp only [Bool.or_eq_true, Array.any_eq_true', Bool.and_eq_true, beq_iff_eq] at this
      rcases this with ⟨e, he, h1, h2⟩ | h
      · exact absurd h2 (hno e he h1)
      · exact h
    | succ a =>
      exact pairsOkD_at ps l (i + 1) h.2 a b oa ob (by omega) (by simpa using ha) (by simpa using hb) (fun e he hb' => by have := hno e he hb'; omega)
theorem anyA_lexD {ps : List (Tmp × Tmp)} {ops : Array Oper} {K : St → Prop} (hk : kindsOk ops.toList = true) (hw : wrOk ops = true) (hC : ∀ s, K s → ∀ x y, (x, y) ∈ ps → disj (s.sl x) (s.sl y)) (hp : pairsOkD ps 0 ops.toList = true) :
    ∀ (l : List Oper) (k : Nat) (listed : Array Bool) (s : St), (∀ j, l[j]? = ops[k + j]?) →
    (∀ j, j < k → listed.getD j true = true) → Region.lexFrom .any ops l.length k listed = true → evOps P ops.toList l s K → anyA P ops K l.length listed s
  | [], _, _, _, _, _, hB, h => ⟨by simpa [Region.lexFrom] using hB, h⟩
  | o :: l, k, listed, s, hl, hlt, hB, h => by
    have h0 : ops[k]? = some o := by simpa using (hl 0).symm
    simp only [List.length_cons, Region.lexFrom, Bool.and_eq_true] at hB
    obtain ⟨⟨hr, hf⟩, hB'⟩ := hB
    have hm := kinds_of hk h0
    refine anyA_firstD hk hw hC h0 l.length listed s (fun j oj hj hjk hun hno => ⟨Region.free_spec h0 hf j oj hj hjk hun hno, ?_⟩) (by simpa using hr)
      (gst_mono hm.1 hm.2 (fun s' hs' => anyA_lexD hk hw hC hp l (k + 1) _ s' (fun j => by have := hl (j + 1); simpa [Nat.add_assoc, Nat.add_comm 1 j] using this) (fun j hj => ?_) hB' hs') (evOps_gst h))
    · have hkj : k < j := by
        rcases Nat.lt_trichotomy j k with h1 | h1 | h1
        · rw [hlt j h1] at hun; cases hun
        · exact absurd h1 hjk
        · exact h1
      exact pairsOkD_at ps ops.toList 0 hp k j o oj hkj (by simpa using h0) (by simpa using hj) (by simpa using hno)
    · by_cases h1 : k = j
      · subst h1
        by_cases hs : k < listed.size
        · simp [hs]
        · simp [hs]
      · rw [getD_set_ne true h1]; exact hlt j (by omega)
/-- What is asked at the end of a region that draws its order and writes boxes. -/
def Sep (s : St) : List (Tmp × Tmp) → Prop
  | [] => True
  | (x, y) :: l => disj (s.sl x) (s.sl y) ∧ Sep s l
theorem Sep.at {s : St} : ∀ {l : List (Tmp × Tmp)}, Sep s l → ∀ x y, (x, y) ∈ l → disj (s.sl x) (s.sl y)
  | (x', y') :: l, h, x, y, hm => by
    rcases List.mem_cons.1 hm with e | hm
    · cases e; exact h.1
    · exact h.2.at x y hm
/-- A region that draws its order, and writes: the order of the text serves for all, if what is written and read is not in the same box. -/
theorem abs_drawD {c : Ctx} {id : Nat} {l : List Oper} {Q : Exit → St → Prop} {s : St} (ps : List (Tmp × Tmp)) (hm : c.P.follows .mixedOrders = true) (hB : (Region.lexB .any l.toArray && kindsOk l && pairsOkD ps 0 l && wrOk l.toArray) = true)
    (h : ∀ K : St → Prop, (∀ s', Q .normal s' ∧ Sep s' ps → K s') → evOps c.P l l s K) : Abs c (.region id l.toArray true) Q s := by
  intro a w hr
  simp only [Bool.and_eq_true, Region.lexB] at hB
  obtain ⟨⟨⟨⟨_, hl⟩, hk⟩, hp⟩, hw⟩ := hB
  refine wpIn_region_any hm (anyA_sound (K := fun s => Q .normal s ∧ Sep s ps) (fun s a w hr hq => ⟨s, hr, hq.1⟩) _ _ s _ _ (RG.drewTick hr) ?_)
  have := anyA_lexD (P := c.P) (ops := l.toArray) (ps := ps) (K := fun s => Q .normal s ∧ Sep s ps) (by simpa using hk) hw (fun s hs => hs.2.at) (by simpa using hp) l 0 (Array.replicate l.length false) s (by simp) (by simp) (by simpa using hl) (h _ (fun _ h => h))
  simpa using this
@[go_sem] theorem e_sep_nil {s : St} : Sep s [] = True := rfl
@[go_sem] theorem e_sep {n : Nat} {sl : Nat → D} {bx : List Bx} {rw : List Row} {x y : Tmp} {l : List (Tmp × Tmp)} : Sep ⟨n, sl, bx, rw⟩ ((x, y) :: l) = (disj (sl x) (sl y) ∧ Sep ⟨n, sl, bx, rw⟩ l) := rfl
@[go_sem] theorem e_disj {i j o o' : Nat} : disj (.box i o) (.box j o') = (i ≠ j) := rfl
@[congr] theorem disj_cg {a a' b b' : D} (h : a = a') (h' : b = b') : disj a b = disj a' b' := by rw [h, h']
end
end Go.Ab
