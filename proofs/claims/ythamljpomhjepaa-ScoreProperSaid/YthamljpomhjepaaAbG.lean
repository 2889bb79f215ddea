import Derived.Test.YthamljpomhjepaaAbF
set_option linter.unusedVariables false
set_option linter.unusedSimpArgs false
namespace Go.Ab
open Go.RowKit

/-- A statement by what follows: it comes to something, and what follows holds of that. -/
structure CP {α : Type} (V : (α → Prop) → Prop) : Prop where
  mono : ∀ {k k' : α → Prop}, (∀ a, k a → k' a) → V k → V k'
  ex : ∀ {k : α → Prop}, V k → ∃ a, V (fun x => x = a) ∧ k a

theorem CP.ret {α : Type} (a : α) : CP (fun k : α → Prop => k a) := ⟨fun h hk => h _ hk, fun hk => ⟨a, rfl, hk⟩⟩
theorem CP.no {α : Type} : CP (fun _ : α → Prop => False) := ⟨fun _ h => h, fun h => h.elim⟩
theorem CP.and {α : Type} {V : (α → Prop) → Prop} (p : Prop) (h : CP V) : CP (fun k => p ∧ V k) :=
  ⟨fun hk ⟨hp, hv⟩ => ⟨hp, h.mono hk hv⟩, fun ⟨hp, hv⟩ => let ⟨a, h1, h2⟩ := h.ex hv; ⟨a, ⟨hp, h1⟩, h2⟩⟩
theorem CP.andRet {α : Type} (p : Prop) (a : α) : CP (fun k : α → Prop => p ∧ k a) := .and p (.ret a)
theorem CP.bind {α β : Type} {V : (α → Prop) → Prop} {U : α → (β → Prop) → Prop} (h : CP V) (hu : ∀ a, CP (U a)) : CP (fun k => V fun a => U a k) :=
  ⟨fun hk hv => h.mono (fun a => (hu a).mono hk) hv, fun hv => by
    obtain ⟨a, h1, h2⟩ := h.ex hv
    obtain ⟨b, h3, h4⟩ := (hu a).ex h2
    exact ⟨b, h.mono (fun x hx => by rw [hx]; exact h3) h1, h4⟩⟩
theorem CP.exi {α : Type} {β : Sort _} {U : β → (α → Prop) → Prop} (hu : ∀ b, CP (U b)) : CP (fun k => ∃ b, U b k) :=
  ⟨fun hk ⟨b, h⟩ => ⟨b, (hu b).mono hk h⟩, fun ⟨b, h⟩ => let ⟨a, h1, h2⟩ := (hu b).ex h; ⟨a, ⟨b, h1⟩, h2⟩⟩

section
variable {P : Program}
theorem cp_bool (d : D) : CP (wBool d) := by cases d <;> first | exact .ret _ | exact .no
theorem cp_int {β : Type} (d : D) {U : IntKind → Int → (β → Prop) → Prop} (hu : ∀ q n, CP (U q n)) : CP (fun k => wInt d fun q n => U q n k) := by
  cases d <;> first | exact hu _ _ | exact .no
theorem cp_int2 {β : Type} (x y : D) {U : IntKind → Int → Int → (β → Prop) → Prop} (hu : ∀ q n m, CP (U q n m)) : CP (fun k => wInt2 x y fun q n m => U q n m k) :=
  cp_int x fun q n => cp_int y fun _ m => .and _ (hu q n m)
theorem cp_agg (d : D) : CP (wAgg d) := by cases d <;> first | exact .ret _ | exact .no
theorem cp_tup (d : D) : CP (wTup d) := by cases d <;> first | exact .ret _ | exact .no
theorem cp_opt {α : Type} (o : Option α) : CP (wOpt o) := by cases o <;> first | exact .ret _ | exact .no
theorem cp_eq (t : TypeId) (x y : D) : CP (wEq P t x y) := by
  unfold wEq
  split <;> first | exact .no | exact .andRet _ _ | exact .ret _ | exact .and _ (.and _ (.andRet _ _)) | exact (cp_opt _).bind fun _ => (cp_opt _).bind fun _ => .and _ (.andRet _ _)
theorem cp_bx (bx : List Bx) (i : Nat) : CP (wBx bx i) := by
  unfold wBx
  cases bx[i]? with
  | none => exact .no
  | some b => cases b <;> first | exact .ret _ | exact .no
theorem cp_sl (rw : List Row) (d : D) : CP (wSl rw d) := by
  cases d <;> first | exact .ret _ | exact .no | skip
  rename_i r
  show CP (fun k : List D → Prop => match rw[r]? with | some row => k row.xs | none => False)
  cases rw[r]? <;> first | exact .ret _ | exact .no
theorem cp_nth (xs : List D) (n : Int) : CP (wNth xs n) := .and _ (.exi fun d => .andRet _ d)
theorem cp_head (cs : List D) : CP (wHead cs) := by cases cs <;> first | exact .ret _ | exact .no
theorem cp_take (t : TypeId) (cs : List D) : CP (wTake P t cs) := (cp_opt _).bind fun b => by
  cases b
  · exact cp_head _
  · exact .and _ (.andRet _ _)
theorem cp_load (bx : List Bx) (t : TypeId) (d : D) : CP (wLoad P bx t d) := by
  cases d <;> first | exact .no | exact cp_take _ _ | exact (cp_bx _ _).bind fun _ => cp_take _ _
theorem cp_shift (d : D) (o : Nat) : CP (wShift d o) := by cases d <;> first | exact .no | exact .ret _
theorem cp_bin (t : TypeId) (op : BinOp) (x y : D) : CP (wBin P t op x y) := by
  have he := cp_eq (P := P) t x y
  cases op <;> first
    | exact .no
    | exact cp_int2 x y fun _ _ _ => .ret _
    | exact cp_int2 x y fun _ _ _ => .andRet _ _
    | exact cp_int2 x y fun _ _ _ => .and _ (.andRet _ _)
    | exact cp_int2 x y fun _ _ _ => .and _ (.and _ (.andRet _ _))
    | exact cp_int2 x y fun _ _ _ => .and _ (.and _ (.and _ (.andRet _ _)))
    | (show CP (fun k : D → Prop => wEq P t x y fun b => k (.bool b)); exact CP.bind (U := fun (b : Bool) (k : D → Prop) => k (.bool b)) (cp_eq t x y) fun b => CP.ret (D.bool b))
    | (show CP (fun k : D → Prop => wEq P t x y fun b => k (.bool (!b))); exact CP.bind (U := fun (b : Bool) (k : D → Prop) => k (.bool (!b))) (cp_eq t x y) fun b => CP.ret (D.bool (!b)))
    | exact cp_int x fun _ _ => cp_int y fun _ _ => .and _ (.andRet _ _)
    | exact cp_int x fun _ _ => cp_int y fun _ _ => .and _ (.and _ (.andRet _ _))
theorem cp_un (op : UnOp) (x : D) : CP (wUn op x) := by
  cases op <;> first | exact .no | exact (cp_bool x).bind fun _ => .ret _ | exact cp_int x fun _ _ => .andRet _ _
theorem cp_idxA (rw : List Row) (t : TypeId) (x ix : D) : CP (wIdxA P rw t x ix) := by
  unfold wIdxA
  cases Ab.elemOf P t with
  | some e => cases x <;> first | exact (cp_sl rw _).bind fun _ => cp_int ix fun _ _ => (cp_nth _ _).bind fun _ => .and _ (.andRet _ _) | exact cp_int ix fun _ _ => .and _ (.and _ (.andRet _ _))
  | none => exact (cp_opt _).bind fun _ => cp_int ix fun _ _ => .and _ (.and _ (.and _ (cp_shift _ _)))
theorem cp_part (t : TypeId) (cs : List D) (o : Nat) : CP (wPart P t cs o) := (cp_opt _).bind fun b => by
  cases b
  · exact cp_opt _
  · exact .and _ (.andRet _ _)
theorem cp_idx (t : TypeId) (x ix : D) : CP (wIdx P t x ix) := (cp_opt _).bind fun _ => (cp_agg x).bind fun _ => cp_int ix fun _ _ => .and _ (.and _ (.and _ (cp_part _ _ _)))
theorem cp_idxAny (t : TypeId) (x ix : D) : CP (wIdxAny P t x ix) := by
  cases x <;> first | exact cp_idx _ _ _ | exact .and _ (cp_int ix fun _ _ => .and _ (.exi fun _ => .ret _))
theorem cp_field (t : TypeId) (x : D) (f : Nat) : CP (wField P t x f) := (cp_opt _).bind fun _ => (cp_agg x).bind fun _ => cp_part _ _ _
theorem cp_fn {β : Type} (d : D) {U : FuncId → List D → List D → (β → Prop) → Prop} (hu : ∀ f fs cs, CP (U f fs cs)) : CP (fun k => wFn d fun f fs cs => U f fs cs k) := by
  cases d <;> first | exact hu _ _ _ | exact .no
theorem cp_bnd {β : Type} (d : Option D) (n m : Nat) {U : Nat → (β → Prop) → Prop} (hu : ∀ n, CP (U n)) : CP (fun k => wBnd d n m fun j => U j k) := by
  cases d
  · exact hu _
  · exact cp_int _ fun _ _ => .and _ (.and _ (hu _))
theorem cp_slice (t : TypeId) (x : D) (lo hi : Option D) : CP (wSlice P t x lo hi) := by
  cases x <;> first | exact .no | exact (cp_opt _).bind fun _ => cp_bnd _ _ _ fun _ => cp_bnd _ _ _ fun _ => .andRet _ _
theorem cp_call (f : FuncId) (ds : List D) : CP (CallK P f ds) := .exi fun _ => .andRet _ _
theorem cp_len (t : TypeId) (rw : List Row) (x : D) : CP (wLen P t rw x) := by
  unfold wLen
  cases Ab.elemOf P t with
  | some e =>
    cases x <;> first | exact .ret _ | exact .no | exact (cp_opt _).bind fun _ => .ret _ | skip
    rename_i v
    simp only
    split <;> first | exact .ret _ | exact .no | exact (cp_opt _).bind fun _ => .ret _
  | none => exact .and _ (by cases x <;> first | exact .ret _ | exact .no)

theorem cp_opA (o : Op) (ρ : Operand → D) (rw : List Row) : CP (opA P o ρ rw) := by
  unfold opA
  split <;> first
    | exact .ret _
    | exact (cp_bool _).bind fun _ => .ret _
    | exact cp_bin _ _ _ _
    | exact cp_un _ _
    | exact (cp_opt _).bind fun _ => (cp_opt _).bind fun _ => cp_int _ fun _ _ => .andRet _ _
    | exact (cp_tup _).bind fun _ => cp_opt _
    | exact (cp_opt _).bind fun _ => cp_shift _ _
    | exact cp_field _ _ _
    | exact cp_idxA _ _ _ _
    | exact cp_idxAny _ _ _
    | exact (cp_opt _).bind fun _ => (cp_opt _).bind fun _ => (cp_opt _).bind fun _ => .ret _
    | exact cp_len _ _ _
    | exact cp_int2 _ _ fun _ _ _ => .ret _
    | exact cp_slice _ _ _ _
    | exact .no

theorem cp_opB (o : Op) (ρ : Operand → D) (bx : List Bx) (rw : List Row) : CP (opB P o ρ bx rw) := by
  unfold opB
  split <;> first
    | exact cp_load _ _ _
    | exact (cp_opt _).bind fun _ => .and _ (.and _ (.and _ (.and _ ((cp_opt _).bind fun _ => .andRet _ _))))
    | exact cp_fn _ fun _ _ _ => (cp_opt _).bind fun _ => cp_call _ _
    | exact cp_opA _ _ _

inductive Kd where
  | A | B | L | W | X
  deriving DecidableEq

def kindOf : Op → Kd
  | .move _ | .assign _ | .pick .. | .binOp .. | .unOp .. | .convert .. | .extract .. | .fieldAddr .. | .field .. | .indexAddr .. | .index .. | .makeFunc .. | .build .. | .slice .. => .A
  | .load .. | .buildSlice .. => .B
  | .call ⟨.value _, _, _⟩ => .B
  | .call ⟨.builtin .len, _, _⟩ => .A
  | .call ⟨.builtin .max, _, _⟩ => .A
  | .call ⟨.builtin .min, _, _⟩ => .A
  | .alloc _ | .box .. => .L
  | .store .. => .W
  | .call ⟨.builtin .copy, _, _⟩ => .W
  | _ => .X

def evS (sl : Nat → D) : Operand → D
  | .tmp t => sl t
  | .const v => constD v
  | .global g => .val (.pointer (some ⟨g, 0, none⟩))
  | .func f => .clo f []
theorem ev_eq (s : St) : s.ev = evS s.sl := by funext x; cases x <;> rfl

/-- The value of an operation of the kinds A and B. -/
theorem step_V {o : Oper} {s : St} {K : St → Prop} (h : kindOf o.op = .A ∨ kindOf o.op = .B) : stepOp P o s K ↔ dstOk s o.dst ∧ opB P o.op (evS s.sl) s.bx s.rw fun d => K (s.put o.dst d) := by
  rw [← ev_eq]
  obtain ⟨dst, op, ty, pos, aft, gd⟩ := o
  cases op <;> first | exact Iff.rfl | (simp only [kindOf, reduceCtorEq, or_self] at h; done) | skip
  rename_i cl
  obtain ⟨callee, args, at_⟩ := cl
  cases callee with
  | value f => exact Iff.rfl
  | invoke r m => exact Iff.rfl
  | builtin b =>
    cases b <;> first | exact Iff.rfl | (simp only [kindOf, reduceCtorEq, or_self] at h; done)

/-- Kind A asks no box. -/
theorem opB_A {o : Op} {ρ : Operand → D} {bx bx' : List Bx} {rw : List Row} {k : D → Prop} (h : kindOf o = .A) : opB P o ρ bx rw k → opB P o ρ bx' rw k := by
  cases o <;> first | exact id | (simp only [kindOf, reduceCtorEq] at h; done) | skip
  rename_i cl
  obtain ⟨callee, args, at_⟩ := cl
  cases callee with
  | value f => simp only [kindOf, reduceCtorEq] at h
  | invoke r m => exact id
  | builtin b => exact id

theorem pureZ_grow {bx t : List Bx} {rw : List Row} {d d' : D} (h : pureZ bx rw d = some d') : pureZ (bx ++ t) rw d = some d' := by
  unfold pureZ at h ⊢
  have key : ∀ i : Nat, i < bx.length ∨ bx[i]? = none := fun i => by
    rcases Nat.lt_or_ge i bx.length with hlt | hge
    · exact .inl hlt
    · exact .inr (List.getElem?_eq_none hge)
  split at h <;> first | exact h | skip
  case h_2 i off =>
    rcases key i with hi | hi
    · rw [List.getElem?_append_left hi]; exact h
    · rw [hi] at h; cases h
  case h_3 i off n c =>
    rcases key i with hi | hi
    · rw [List.getElem?_append_left hi]; exact h
    · rw [hi] at h; cases h
theorem pureLZ_grow {bx t : List Bx} {rw : List Row} : ∀ {ds ds' : List D}, pureLZ bx rw ds = some ds' → pureLZ (bx ++ t) rw ds = some ds'
  | [], ds', h => h
  | d :: ds, ds', h => by
    simp only [pureLZ] at h ⊢
    split at h
    · rename_i d1 h1
      rw [pureZ_grow h1]
      simp only [Option.map_eq_some_iff] at h ⊢
      obtain ⟨l, hl, rfl⟩ := h
      exact ⟨l, pureLZ_grow hl, rfl⟩
    · cases h
theorem pureA_grow {bx t : List Bx} {rw : List Row} {d d' : D} (h : pureA bx rw d = some d') : pureA (bx ++ t) rw d = some d' := by
  unfold pureA at h ⊢
  split at h
  · simp only [Option.map_eq_some_iff] at h ⊢
    obtain ⟨l, hl, rfl⟩ := h
    exact ⟨l, pureLZ_grow hl, rfl⟩
  · exact pureZ_grow h
theorem pureL_grow {bx t : List Bx} {rw : List Row} : ∀ {ds ds' : List D}, pureL bx rw ds = some ds' → pureL (bx ++ t) rw ds = some ds'
  | [], ds', h => h
  | d :: ds, ds', h => by
    simp only [pureL] at h ⊢
    split at h
    · rename_i d1 h1
      rw [pureA_grow h1]
      simp only [Option.map_eq_some_iff] at h ⊢
      obtain ⟨l, hl, rfl⟩ := h
      exact ⟨l, pureL_grow hl, rfl⟩
    · cases h
theorem pureD_grow {bx t : List Bx} {rw : List Row} {d d' : D} (h : pureD bx rw d = some d') : pureD (bx ++ t) rw d = some d' := by
  unfold pureD at h ⊢
  split at h
  · simp only [Option.map_eq_some_iff] at h ⊢
    obtain ⟨l, hl, rfl⟩ := h
    exact ⟨l, pureL_grow hl, rfl⟩
  · simp only [Option.map_eq_some_iff] at h ⊢
    obtain ⟨l, hl, rfl⟩ := h
    exact ⟨l, pureL_grow hl, rfl⟩
  · exact h
  · exact pureA_grow h
theorem pureDs_grow {bx t : List Bx} {rw : List Row} : ∀ {ds ds' : List D}, pureDs bx rw ds = some ds' → pureDs (bx ++ t) rw ds = some ds'
  | [], ds', h => h
  | d :: ds, ds', h => by
    simp only [pureDs] at h ⊢
    split at h
    · rename_i d1 h1
      rw [pureD_grow h1]
      simp only [Option.map_eq_some_iff] at h ⊢
      obtain ⟨l, hl, rfl⟩ := h
      exact ⟨l, pureDs_grow hl, rfl⟩
    · cases h

theorem wBx_grow {bx t : List Bx} {i : Nat} {k : List D → Prop} (h : wBx bx i k) : wBx (bx ++ t) i k := by
  have hi : i < bx.length := by
    rcases Nat.lt_or_ge i bx.length with hlt | hge
    · exact hlt
    · unfold wBx at h; rw [List.getElem?_eq_none hge] at h; exact h.elim
  unfold wBx at h ⊢
  rw [List.getElem?_append_left hi]
  exact h
theorem opB_grow {o : Op} {ρ : Operand → D} {bx t : List Bx} {rw : List Row} {k : D → Prop} : opB P o ρ bx rw k → opB P o ρ (bx ++ t) rw k := by
  unfold opB
  split
  · intro h
    unfold wLoad at h ⊢
    split at h <;> first | exact wBx_grow h | exact h
  · intro h
    obtain ⟨e, he, h1, h2, h3, h4, h⟩ := wOpt_some h
    obtain ⟨ds, hd, h⟩ := wOpt_some h
    rw [he]
    refine ⟨h1, h2, h3, h4, ?_⟩
    rw [pureDs_grow hd]
    exact h
  · intro h
    unfold wFn at h ⊢
    split at h
    · obtain ⟨ds, hd, h⟩ := wOpt_some h
      rw [pureDs_grow hd]
      exact h
    · obtain ⟨ds, hd, h⟩ := wOpt_some h
      rw [pureDs_grow hd]
      exact h
    · exact h
  · exact id

/-- An operation asks its operands alone. -/
theorem opB_congr {o : Op} {ρ ρ' : Operand → D} {bx : List Bx} {rw : List Row} {k : D → Prop} (h : ∀ x ∈ o.operands, ρ x = ρ' x) : opB P o ρ bx rw k → opB P o ρ' bx rw k := by
  cases o
  case call cl =>
    obtain ⟨callee, ⟨args⟩, at_⟩ := cl
    have ha : args.map ρ = args.map ρ' := List.map_congr_left fun x hx => h x (by simp [Op.operands, Call.operands, hx])
    cases callee with
    | value f =>
      have hf : ρ f = ρ' f := h f (by simp [Op.operands, Call.operands])
      simp only [opB, hf, ha]; exact id
    | invoke r m => exact id
    | builtin b =>
      cases b <;> first | exact id | skip
      all_goals
        match args, at_, h, ha with
        | [], _, _, _ => exact id
        | [x], ⟨[]⟩, _, _ => exact id
        | [x], ⟨[t]⟩, h, _ => 
          have h1 := h x (by simp [Op.operands, Call.operands])
          simp only [opB, opA, h1]; exact id
        | [x], ⟨_ :: _ :: _⟩, _, _ => exact id
        | [x, y], _, h, _ =>
          have h1 := h x (by simp [Op.operands, Call.operands])
          have h2 := h y (by simp [Op.operands, Call.operands])
          simp only [opB, opA, h1, h2]; exact id
        | _ :: _ :: _ :: _, _, _, _ => exact id
  case build t ps =>
    have hp : (ps.toList.map fun p => (p.1, ρ p.2)) = ps.toList.map fun p => (p.1, ρ' p.2) := List.map_congr_left fun p hp => by
      rw [h p.2 (by simp [Op.operands]; exact ⟨p.1, by simpa using hp⟩)]
    simp only [opB, opA, hp]; exact id
  case buildSlice t n ps =>
    have hp : (ps.toList.map fun p => ρ p.2) = ps.toList.map fun p => ρ' p.2 := List.map_congr_left fun p hp => by
      rw [h p.2 (by simp [Op.operands]; exact ⟨p.1, by simpa using hp⟩)]
    simp only [opB, hp]; exact id
  case makeFunc fn first cap =>
    have hc : cap.toList.map ρ = cap.toList.map ρ' := List.map_congr_left fun x hx => h x (by simp [Op.operands]; right; simpa using hx)
    obtain ⟨first⟩ := first
    cases fn <;> first | exact id | skip
    cases first with
    | nil => simp only [opB, opA, hc]; exact id
    | cons x fs =>
      obtain ⟨cap⟩ := cap
      cases cap with
      | nil =>
        have hf : (x :: fs).map ρ = (x :: fs).map ρ' := List.map_congr_left fun y hy => h y (by simp [Op.operands]; simpa using hy)
        simp only [opB, opA, hf]; exact id
      | cons y ys => exact id
  case slice t x lo hi mx =>
    cases mx with
    | some m => exact id
    | none =>
      have h1 := h x (by simp [Op.operands])
      have h2 : lo.map ρ = lo.map ρ' := by cases lo with | none => rfl | some y => simp only [Option.map_some]; rw [h y (by simp [Op.operands])]
      have h3 : hi.map ρ = hi.map ρ' := by cases hi with | none => rfl | some y => simp only [Option.map_some]; rw [h y (by simp [Op.operands])]
      simp only [opB, opA, h1, h2, h3]; exact id
  all_goals first
    | exact id
    | (have h1 := h _ (by simp only [Op.operands]; exact Array.mem_singleton.2 rfl); simp only [opB, opA, h1]; exact id)
    | (rename_i a b c
       have h1 := h a (by simp [Op.operands]); have h2 := h b (by simp [Op.operands]); have h3 := h c (by simp [Op.operands])
       simp only [opB, opA, h1, h2, h3]; exact id)
    | (rename_i a b c
       have h2 := h b (by simp [Op.operands]); have h3 := h c (by simp [Op.operands])
       simp only [opB, opA, h2, h3]; exact id)
    | (rename_i a b c d e
       have h2 := h c (by simp [Op.operands]); have h3 := h d (by simp [Op.operands])
       simp only [opB, opA, h2, h3]; exact id)
end
end Go.Ab
